/- Part 2 of the proof of SuperGets: lemmas alone. -/
import Derived.Test.YtopfjmeejpamjaaZSuperGetsP0
import Derived.Test.YtopfjmeejpamjaaProg
import Derived.Below
import Derived.Deep.Draws
import Derived.Deep.AppendLies
import Derived.Maps.AppendAt
import Derived.OwnWalk
import Derived.Laws.BytesArg
import Derived.Laws.MakeOwn
import Derived.Laws.OwnMore
import Derived.Deep.OwnRows
import Derived.Tactics
import Derived.Lib.ConvBytes
import Derived.Laws.Slices
import Derived.WalkKit
import Derived.KernelRfl
import Derived.RowKit3
import Derived.Deep.LoopGhost
import Derived.Deep.QuietTactic
import Derived.BigQuiet
import Derived.WideLaws
import Derived.Deep.DeepCutAuto
import Derived.Deep.CutBlock
import Derived.Deep.RegionHeld3
import Derived.Laws.Rows
import Derived.Lib.AppendStr
import Derived.ArgAppend
import Derived.Laws.IdiomCopy
import Derived.OrdersHeld
import Derived.Laws.BitsLemmas
import Derived.RowKit
import Derived.Lib.Hide
import Derived.Great.BuildSlice
import Derived.Outline
import Derived.WalkSpells
import Derived.RegionTactic
import Derived.BigRegion
import Derived.WalkLawsBesides
import Derived.IntWalk
import Derived.Lib.AppendZerosOnto
section
namespace Go.Proofs.Ytopfjmeejpamjaa.PSuper
open Go.RowKit Go.Proofs.YtopfjmeejpamjaaW.PrintWords Go.Proofs.YtopfjmeejpamjaaW.PrintLast Go.Proofs.YtopfjmeejpamjaaW.PrintMore
attribute [local go_sem] max2_int min2_int max_two min_two max_three min_three max_four min_four
set_option linter.unusedVariables false
set_option linter.unusedSimpArgs false
def errW : Option Int → Value
  | none => .nilIface
  | some c => .iface 0 (.int .i64 c)
theorem errW_none : errW none = .nilIface := rfl
theorem errW_some (c : Int) : errW (some c) = .iface 0 (.int .i64 c) := rfl
theorem info5 : (Try.prog.info? 5).map (fun i => (i.zero, i.size, i.bytes)) = some (some (.int .u8 0), 1, 1) := by kernel_rfl
structure S61 where
  f0 : Int
  f1 : Int
  f2 : (List Int)
  f3 : Bool
  f4 : (List Int)
def z61 : S61 := ⟨(0 : Int), (0 : Int), ([] : List Int), false, ([] : List Int)⟩
def k61 : Kd S61 := Kd.iso (Kd.pair (Kd.int .i64) (Kd.pair (Kd.int .i64) (Kd.pair (Kd.slice 5 (Kd.int .u8)) (Kd.pair Kd.bool (Kd.slice 3 (Kd.int .i64)))))) (fun x : S61 => (x.f0, x.f1, x.f2, x.f3, x.f4))
theorem k61_open {w : World} {x : S61} {cs : List Value} (h : k61.K w x cs) : ∃ A2 c2 A4 c4, cs = [.int .i64 x.f0, .int .i64 x.f1, .slice A2 x.f2.length c2, .bool x.f3, .slice A4 x.f4.length c4] ∧ x.f2.length ≤ c2 ∧ (Kd.int .u8).C w A2 x.f2.length x.f2 ∧ x.f4.length ≤ c4 ∧ (Kd.int .i64).C w A4 x.f4.length x.f4 := by
  obtain ⟨_, _, rfl, rfl, ⟨_, _, rfl, rfl, ⟨_, _, rfl, ⟨A2, c2, rfl, l2, g2⟩, ⟨_, _, rfl, rfl, ⟨A4, c4, rfl, l4, g4⟩⟩⟩⟩⟩ := h
  exact ⟨A2, c2, A4, c4, rfl, l2, g2, l4, g4⟩
def rd_T61 (xs : List S61) (i : Int) : S61 := xs.getD i.toNat z61
theorem at_T61 {w : World} {A : Option Addr} {n : Nat} {xs : List S61} (h : Kd.C k61 w A n xs) (i : Int) (h0 : 0 ≤ i) (h1 : i < n) : ∃ ad A2 c2 A4 c4, A = some ad ∧ w.cell? (ad.add (i.toNat * 5)) = some (.int .i64 (rd_T61 xs i).f0) ∧ w.cell? ⟨(ad.add (i.toNat * 5)).block, (ad.add (i.toNat * 5)).off + 1, none⟩ = some (.int .i64 (rd_T61 xs i).f1) ∧ w.cell? ⟨(ad.add (i.toNat * 5)).block, (ad.add (i.toNat * 5)).off + 2, none⟩ = some (.slice A2 (rd_T61 xs i).f2.length c2) ∧ w.cell? ⟨(ad.add (i.toNat * 5)).block, (ad.add (i.toNat * 5)).off + 3, none⟩ = some (.bool (rd_T61 xs i).f3) ∧ w.cell? ⟨(ad.add (i.toNat * 5)).block, (ad.add (i.toNat * 5)).off + 4, none⟩ = some (.slice A4 (rd_T61 xs i).f4.length c4) ∧ (rd_T61 xs i).f2.length ≤ c2 ∧ (Kd.int .u8).C w A2 (rd_T61 xs i).f2.length (rd_T61 xs i).f2 ∧ (rd_T61 xs i).f4.length ≤ c4 ∧ (Kd.int .i64).C w A4 (rd_T61 xs i).f4.length (rd_T61 xs i).f4 := by
  obtain ⟨ad, c, e, _, hK, hc0⟩ := Kd.C_get h z61 i h0 h1
  have hc : ∀ j u, c[j]? = some u → w.cell? (ad.add (i.toNat * 5 + j)) = some u := hc0
  obtain ⟨A2, c2, A4, c4, rfl, l2, g2, l4, g4⟩ := k61_open hK
  exact ⟨ad, A2, c2, A4, c4, e, hc 0 _ rfl, by rw [← add_field _ _ 1 (by omega)]; exact hc 1 _ rfl, by rw [← add_field _ _ 2 (by omega)]; exact hc 2 _ rfl, by rw [← add_field _ _ 3 (by omega)]; exact hc 3 _ rfl, by rw [← add_field _ _ 4 (by omega)]; exact hc 4 _ rfl, l2, g2, l4, g4⟩
structure S117 where
  f0 : Int
  f1 : (List Int)
def k117 : Kd S117 := Kd.iso (Kd.pair (Kd.int .i64) (Kd.slice 5 (Kd.int .u8))) (fun x : S117 => (x.f0, x.f1))
end Go.Proofs.Ytopfjmeejpamjaa.PSuper
end
section
namespace Go.Proofs.Ytopfjmeejpamjaa.PCellGets
open Go.RowKit Go.Proofs.YtopfjmeejpamjaaW.PrintWords Go.Proofs.YtopfjmeejpamjaaW.PrintLast Go.Proofs.YtopfjmeejpamjaaW.PrintMore
attribute [local go_sem] max2_int min2_int max_two min_two max_three min_three max_four min_four
set_option linter.unusedVariables false
set_option linter.unusedSimpArgs false
set_option linter.ambiguousOpen false
open Go.Proofs.Ytopfjmeejpamjaa.PSuper
def num_is.f (a0 : Int) : Option (Bool) := if a0 ≥ 0 then (some (decide (a0 ≤ 2147483647))) else (some false)
set_option maxHeartbeats 8000000 in
set_option maxRecDepth 100000 in
theorem num_is.calls (a0 : Int) (r : Bool) (w : World) (h : num_is.f a0 = some r) :
    Calls Try.prog 66 #[.int .i64 a0] w fun e w' => e = .returned (.bool r) ∧ Drawn0 w w' := by
  have H : (if a0 ≥ 0 then (some (decide (a0 ≤ 2147483647))) else (some false)) = some r := h
  clear h
  by_cases c2 : a0 ≥ 0
  · rw [if_pos c2] at H
    have c2b0 : decide (0 ≤ a0) = true := decide_eq_true c2
    clear c2
    obtain rfl := Option.some.inj H
    go_enter Try.func66, Try.ntmps66
    go_wp2
    go_ret
    exact ⟨by first | rfl | (simp; done) | (simp [*]; done), by repeat (first | exact Drawn0.refl _ | apply Drawn0.step)⟩
  · rw [if_neg c2] at H
    have c2b0 : decide (0 ≤ a0) = false := decide_eq_false c2
    clear c2
    obtain rfl := Option.some.inj H
    go_enter Try.func66, Try.ntmps66
    go_wp2
    go_ret
    exact ⟨by first | rfl | (simp; done) | (simp [*]; done), by repeat (first | exact Drawn0.refl _ | apply Drawn0.step)⟩
def slices_Equal_byte_byte.l0 : Nat → List Int → List Int → Int → Int → Option (Bool)
  | 0, _, _, _, _ => none
  | k + 1, x0, x1, x12, x13 => if x13 < x12 then (if 0 ≤ x13 then (if x13 < (x0.length : Int) then (if x13 < (x1.length : Int) then (if (rd x0 x13) = (rd x1 x13) then (slices_Equal_byte_byte.l0 k x0 x1 x12 (wrap64 (x13 + 1))) else (some false)) else (none)) else (none)) else (none)) else (some true)
def slices_Equal_byte_byte.f (k : Nat) (l0 : List Int) (l1 : List Int) : Option (Bool) := if (l0.length : Int) = (l1.length : Int) then (slices_Equal_byte_byte.l0 k l0 l1 (l0.length : Int) 0) else (some false)
theorem slices_Equal_byte_byte.mono_l : ∀ k, (∀ y0 y1 y2 y3, LeO (slices_Equal_byte_byte.l0 k y0 y1 y2 y3) (slices_Equal_byte_byte.l0 (k + 1) y0 y1 y2 y3))
  | 0 => fun _ _ _ _ r h => by simp [slices_Equal_byte_byte.l0] at h
  | k + 1 => by
    have ih0 := slices_Equal_byte_byte.mono_l k
    · intro y0 y1 y2 y3
      unfold slices_Equal_byte_byte.l0
      repeat' first
      | (with_reducible exact ih0 _ _ _ _)
      | (with_reducible exact LeO.refl _)
      | (with_reducible exact LeO.none _)
      | (with_reducible refine LeO.ite ?_ ?_)
      | (with_reducible refine LeO.bind ?_ (fun _ => ?_))
      | exact ih0 _ _ _ _
      | exact LeO.none _
      | refine LeO.ite ?_ ?_
      | refine LeO.bind ?_ (fun _ => ?_)
theorem slices_Equal_byte_byte.mono : ∀ a0 a1 k, LeO (slices_Equal_byte_byte.f k a0 a1) (slices_Equal_byte_byte.f (k + 1) a0 a1) := by
  intro a0 a1 k
  have ih0 := slices_Equal_byte_byte.mono_l k
  unfold slices_Equal_byte_byte.f
  repeat' first
      | (with_reducible exact ih0 _ _ _ _)
      | (with_reducible exact LeO.refl _)
      | (with_reducible exact LeO.none _)
      | (with_reducible refine LeO.ite ?_ ?_)
      | (with_reducible refine LeO.bind ?_ (fun _ => ?_))
      | exact ih0 _ _ _ _
      | exact LeO.none _
      | refine LeO.ite ?_ ?_
      | refine LeO.bind ?_ (fun _ => ?_)
set_option maxHeartbeats 8000000 in
set_option maxRecDepth 100000 in
theorem slices_Equal_byte_byte.calls (k : Nat) (A0 : Option Addr) (c0 : Nat) (l0 : List Int) (A1 : Option Addr) (c1 : Nat) (l1 : List Int) (r : Bool) (w : World) (hr0 : Kd.C (Kd.int .u8) w A0 l0.length l0) (hc0 : l0.length ≤ c0) (hr1 : Kd.C (Kd.int .u8) w A1 l1.length l1) (hc1 : l1.length ≤ c1) (h : slices_Equal_byte_byte.f k l0 l1 = some r) :
    Calls Try.prog 92 #[.slice A0 l0.length c0, .slice A1 l1.length c1] w fun e w' => e = .returned (.bool r) ∧ Drawn0 w w' := by
  have HR0 := Aside0.mk hr0
  have HC0 := Aside0.mk hc0
  clear hr0 hc0
  have HR1 := Aside0.mk hr1
  have HC1 := Aside0.mk hc1
  clear hr1 hc1
  have H : (if (l0.length : Int) = (l1.length : Int) then (slices_Equal_byte_byte.l0 k l0 l1 (l0.length : Int) 0) else (some false)) = some r := h
  clear h
  by_cases c3 : (l0.length : Int) = (l1.length : Int)
  · rw [if_pos c3] at H
    have c3b0 : ((l0.length : Int) == (l1.length : Int)) = true := beq_iff_eq.mpr c3
    have c3b1 : ((l0.length : Int) != (l1.length : Int)) = false := bne_eq_false_iff_eq.mpr c3
    have c3b2 : (l0.length == l1.length) = true := by first | simpa using c3 | (simp at c3 ⊢; omega)
    clear c3
    have H' := Aside0.mk H
    clear H
    go_enter Try.func92, Try.ntmps92
    go_wp2
    repeat (go_quiet (fail); try go_wp2)
    go_loopg [13] k (fun kq v13 w' => ∃ (x13_1 : Int), v13 = .int .i64 x13_1 ∧ Aside0 (slices_Equal_byte_byte.l0 kq l0 l1 (l0.length : Int) x13_1 = some r) ∧ Aside0 (kq ≤ k) ∧ Drawn0 w w')
    case atStart => exact ⟨(0), (by first | rfl | (simp; done) | (simp [*]; done)), H', ⟨Nat.le_refl _⟩, by repeat (first | exact Drawn0.refl _ | apply Drawn0.step)⟩
    case round =>
      clear H'
      try clear c1
      try clear p2
      try clear c3
      try clear c3b0
      try clear c3b1
      try clear c3b2
      obtain ⟨x13_1, rfl, HA, HK1, ⟨m1, rfl⟩⟩ := hrel
      cases gk with
      | zero => exact absurd HA.out (by simp [slices_Equal_byte_byte.l0])
      | succ k1 =>
        have H := HA.out
        clear HA
        simp only [slices_Equal_byte_byte.l0] at H
        by_cases c4 : x13_1 < (l0.length : Int)
        · rw [if_pos c4] at H
          have c4b0 : decide (x13_1 < (l0.length : Int)) = true := decide_eq_true c4
          clear c4
          by_cases c5 : 0 ≤ x13_1
          · rw [if_pos c5] at H
            have c5b0 : decide (0 ≤ x13_1) = true := decide_eq_true c5
            clear c5
            by_cases c6 : x13_1 < (l0.length : Int)
            · rw [if_pos c6] at H
              have c6b0 : decide (x13_1 < (l0.length : Int)) = true := decide_eq_true c6
              clear c6
              by_cases c7 : x13_1 < (l1.length : Int)
              · rw [if_pos c7] at H
                have c7b0 : decide (x13_1 < (l1.length : Int)) = true := decide_eq_true c7
                clear c7
                by_cases c8 : (rd l0 x13_1) = (rd l1 x13_1)
                · rw [if_pos c8] at H
                  have c8b0 : ((rd l0 x13_1) == (rd l1 x13_1)) = true := beq_iff_eq.mpr c8
                  have c8b1 : ((rd l0 x13_1) != (rd l1 x13_1)) = false := bne_eq_false_iff_eq.mpr c8
                  clear c8
                  have H' := Aside0.mk H
                  clear H
                  have p127 : 0 ≤ (x13_1 : Int) := of_decide_eq_true (by first | (with_reducible assumption) | assumption)
                  have q127 : x13_1 < (l0.length : Int) := of_decide_eq_true (by first | (with_reducible assumption) | assumption)
                  obtain ⟨ad127, e127, hx127_0⟩ := Kd.at_int HR0.out x13_1 p127 q127
                  cases e127
                  replace p127 := eq_true p127
                  replace q127 := eq_true q127
                  have p128 : 0 ≤ (x13_1 : Int) := of_decide_eq_true (by first | (with_reducible assumption) | assumption)
                  have q128 : x13_1 < (l1.length : Int) := of_decide_eq_true (by first | (with_reducible assumption) | assumption)
                  obtain ⟨ad128, e128, hx128_0⟩ := Kd.at_int HR1.out x13_1 p128 q128
                  cases e128
                  replace p128 := eq_true p128
                  replace q128 := eq_true q128
                  go_wp2
                  repeat (go_quiet (fail); try go_wp2)
                  go_roundg k1
                  case measure => have := HK1.out; omega
                  case rel => exact ⟨(wrap64 (x13_1 + 1)), (by first | rfl | (simp; done) | (simp [*]; done)), H', ⟨by have := HK1.out; omega⟩, by repeat (first | exact Drawn0.refl _ | apply Drawn0.step)⟩
                · rw [if_neg c8] at H
                  have c8b0 : ((rd l0 x13_1) == (rd l1 x13_1)) = false := beq_eq_false_iff_ne.mpr c8
                  have c8b1 : ((rd l0 x13_1) != (rd l1 x13_1)) = true := bne_iff_ne.mpr c8
                  obtain rfl := Option.some.inj H
                  have p127 : 0 ≤ (x13_1 : Int) := of_decide_eq_true (by first | (with_reducible assumption) | assumption)
                  have q127 : x13_1 < (l0.length : Int) := of_decide_eq_true (by first | (with_reducible assumption) | assumption)
                  obtain ⟨ad127, e127, hx127_0⟩ := Kd.at_int HR0.out x13_1 p127 q127
                  cases e127
                  replace p127 := eq_true p127
                  replace q127 := eq_true q127
                  have p128 : 0 ≤ (x13_1 : Int) := of_decide_eq_true (by first | (with_reducible assumption) | assumption)
                  have q128 : x13_1 < (l1.length : Int) := of_decide_eq_true (by first | (with_reducible assumption) | assumption)
                  obtain ⟨ad128, e128, hx128_0⟩ := Kd.at_int HR1.out x13_1 p128 q128
                  cases e128
                  replace p128 := eq_true p128
                  replace q128 := eq_true q128
                  go_wp2
                  repeat (go_quiet (fail); try go_wp2)
                  go_ret
                  exact ⟨by first | rfl | (simp; done) | (simp [*]; done), by repeat (first | exact Drawn0.refl _ | apply Drawn0.step)⟩
              · rw [if_neg c7] at H
                exact absurd H (by simp)
            · rw [if_neg c6] at H
              exact absurd H (by simp)
          · rw [if_neg c5] at H
            exact absurd H (by simp)
        · rw [if_neg c4] at H
          have c4b0 : decide (x13_1 < (l0.length : Int)) = false := decide_eq_false c4
          clear c4
          obtain rfl := Option.some.inj H
          go_wp2
          repeat (go_quiet (fail); try go_wp2)
          go_ret
          exact ⟨by first | rfl | (simp; done) | (simp [*]; done), by repeat (first | exact Drawn0.refl _ | apply Drawn0.step)⟩
  · rw [if_neg c3] at H
    have c3b0 : ((l0.length : Int) == (l1.length : Int)) = false := beq_eq_false_iff_ne.mpr c3
    have c3b1 : ((l0.length : Int) != (l1.length : Int)) = true := bne_iff_ne.mpr c3
    have c3b2 : (l0.length == l1.length) = false := by first | simpa using c3 | (simp at c3 ⊢; omega)
    obtain rfl := Option.some.inj H
    go_enter Try.func92, Try.ntmps92
    go_wp2
    repeat (go_quiet (fail); try go_wp2)
    go_ret
    exact ⟨by first | rfl | (simp; done) | (simp [*]; done), by repeat (first | exact Drawn0.refl _ | apply Drawn0.step)⟩
mutual
def num_Unfix.j0 : Nat → List Int → Bool → Option (Int × Int)
  | 0, _, _ => none
  | k + 1, x0, x14 => if x14 = true then (some (0, 1)) else (num_Unfix.l0 k 0 x0 (x0.length : Int) 0)
def num_Unfix.l0 : Nat → Int → List Int → Int → Int → Option (Int × Int)
  | 0, _, _, _, _ => none
  | k + 1, x4, x15, x16, x17 => if x17 < x16 then (if 0 ≤ x17 then (if x17 < (x15.length : Int) then (if 0 ≤ (wrap64 (8 * x17)) then (num_Unfix.l0 k (Go.bits .or .i64 x4 (shl .i64 (wrap64 (rd x15 x17)) (wrap64 (8 * x17)))) x15 x16 (wrap64 (x17 + 1))) else (none)) else (none)) else (none)) else ((num_is.f x4).bind fun t132 => (if t132 = true then (some (x4, 0)) else (some (0, 5))))
end
def num_Unfix.f (k : Nat) (l0 : List Int) : Option (Int × Int) := if (l0.length : Int) < 1 then (num_Unfix.j0 k l0 true) else (num_Unfix.j0 k l0 (decide ((l0.length : Int) > 4)))
theorem num_Unfix.mono_l : ∀ k, (∀ y0 y1, LeO (num_Unfix.j0 k y0 y1) (num_Unfix.j0 (k + 1) y0 y1)) ∧ (∀ y0 y1 y2 y3, LeO (num_Unfix.l0 k y0 y1 y2 y3) (num_Unfix.l0 (k + 1) y0 y1 y2 y3))
  | 0 => ⟨fun _ _ r h => by simp [num_Unfix.j0] at h, fun _ _ _ _ r h => by simp [num_Unfix.l0] at h⟩
  | k + 1 => by
    obtain ⟨ih0, ih1⟩ := num_Unfix.mono_l k
    refine ⟨?_, ?_⟩
    · intro y0 y1
      unfold num_Unfix.j0
      repeat' first
      | (with_reducible exact ih0 _ _)
      | (with_reducible exact ih1 _ _ _ _)
      | (with_reducible exact LeO.refl _)
      | (with_reducible exact LeO.none _)
      | (with_reducible refine LeO.ite ?_ ?_)
      | (with_reducible refine LeO.bind ?_ (fun _ => ?_))
      | exact ih0 _ _
      | exact ih1 _ _ _ _
      | exact LeO.none _
      | refine LeO.ite ?_ ?_
      | refine LeO.bind ?_ (fun _ => ?_)
    · intro y0 y1 y2 y3
      unfold num_Unfix.l0
      repeat' first
      | (with_reducible exact ih0 _ _)
      | (with_reducible exact ih1 _ _ _ _)
      | (with_reducible exact LeO.refl _)
      | (with_reducible exact LeO.none _)
      | (with_reducible refine LeO.ite ?_ ?_)
      | (with_reducible refine LeO.bind ?_ (fun _ => ?_))
      | exact ih0 _ _
      | exact ih1 _ _ _ _
      | exact LeO.none _
      | refine LeO.ite ?_ ?_
      | refine LeO.bind ?_ (fun _ => ?_)
theorem num_Unfix.mono : ∀ a0 k, LeO (num_Unfix.f k a0) (num_Unfix.f (k + 1) a0) := by
  intro a0 k
  obtain ⟨ih0, ih1⟩ := num_Unfix.mono_l k
  unfold num_Unfix.f
  repeat' first
      | (with_reducible exact ih0 _ _)
      | (with_reducible exact ih1 _ _ _ _)
      | (with_reducible exact LeO.refl _)
      | (with_reducible exact LeO.none _)
      | (with_reducible refine LeO.ite ?_ ?_)
      | (with_reducible refine LeO.bind ?_ (fun _ => ?_))
      | exact ih0 _ _
      | exact ih1 _ _ _ _
      | exact LeO.none _
      | refine LeO.ite ?_ ?_
      | refine LeO.bind ?_ (fun _ => ?_)
set_option maxHeartbeats 8000000 in
set_option maxRecDepth 100000 in
theorem num_Unfix.calls (k : Nat) (A0 : Option Addr) (c0 : Nat) (l0 : List Int) (r1 : Int) (r2 : Int) (w : World) (hr0 : Kd.C (Kd.int .u8) w A0 l0.length l0) (hc0 : l0.length ≤ c0) (h : num_Unfix.f k l0 = some (r1, r2)) :
    Calls Try.prog 34 #[.slice A0 l0.length c0] w fun e w' => e = .returned (.tuple #[.int .i64 r1, .int .i64 r2]) ∧ Drawn0 w w' := by
  have HR0 := Aside0.mk hr0
  have HC0 := Aside0.mk hc0
  clear hr0 hc0
  have H : (if (l0.length : Int) < 1 then (num_Unfix.j0 k l0 true) else (num_Unfix.j0 k l0 (decide ((l0.length : Int) > 4)))) = some (r1, r2) := h
  clear h
  have HC2 := Aside0.mk H
  clear H
  go_enter Try.func34, Try.ntmps34
  go_upto_region 1 with (fail)
  go_cut [14] (fun v14 wc => ∃ (kq : Nat) (x14_1 : Bool), v14 = .bool x14_1 ∧ Aside0 (num_Unfix.j0 kq l0 x14_1 = some (r1, r2)) ∧ Aside0 (kq ≤ k) ∧ Drawn0 w wc)
  case first =>
    have H := HC2.out
    clear HC2
    by_cases c3 : (l0.length : Int) < 1
    · rw [if_pos c3] at H
      have c3b0 : decide ((l0.length : Int) < 1) = true := decide_eq_true c3
      have c3b1 : decide (l0.length < 1) = true := decide_eq_true (by omega)
      clear c3
      (first | rw [c3b0] | (simp only [i64_w, i32_w]; rw [c3b0]) | skip)
      have H' := Aside0.mk H
      clear H
      go_wp2
      go_meet
      case rel => exact ⟨_, (true), (by first | rfl | (simp; done) | (simp [*]; done)), H', ⟨by first | omega | exact Nat.le_refl _⟩, by repeat (first | exact Drawn0.refl _ | apply Drawn0.step)⟩
    · rw [if_neg c3] at H
      have c3b0 : decide ((l0.length : Int) < 1) = false := decide_eq_false c3
      have c3b1 : decide (l0.length < 1) = false := decide_eq_false (by omega)
      clear c3
      (first | rw [c3b0] | (simp only [i64_w, i32_w]; rw [c3b0]) | skip)
      have H' := Aside0.mk H
      clear H
      go_wp2
      go_meet
      case rel => exact ⟨_, (decide ((l0.length : Int) > 4)), (by first | rfl | (simp; done) | (simp [*]; done)), H', ⟨by first | omega | exact Nat.le_refl _⟩, by repeat (first | exact Drawn0.refl _ | apply Drawn0.step)⟩
  case rest =>
    clear HC2
    try clear p2
    try clear c3
    try clear c3b0
    try clear c3b1
    obtain ⟨kq, x14_1, rfl, HA, HJ1, ⟨mc1, rfl⟩⟩ := hcut
    cases kq with
    | zero => exact absurd HA.out (by simp [num_Unfix.j0])
    | succ kj1 =>
      have H := HA.out
      clear HA
      simp only [num_Unfix.j0] at H
      by_cases c4 : x14_1 = true
      · subst c4
        have H1 : (some (0, 1)) = some (r1, r2) := by rw [if_pos rfl] at H; exact H
        clear H
        have H := H1
        clear H1
        simp only [Option.some.injEq, Prod.mk.injEq] at H
        obtain ⟨rfl, rfl⟩ := H
        go_wp2
        go_ret2
        exact ⟨by first | rfl | (simp; done) | (simp [*]; done), by repeat (first | exact Drawn0.refl _ | apply Drawn0.step)⟩
      · replace c4 := Bool.eq_false_iff.mpr c4
        subst c4
        have H1 : (num_Unfix.l0 kj1 0 l0 (l0.length : Int) 0) = some (r1, r2) := by rw [if_neg (show ¬ (false = true) by decide)] at H; exact H
        clear H
        have H := H1
        clear H1
        have H' := Aside0.mk H
        clear H
        go_wp2
        go_loopg [4, 17] kj1 (fun kq v4 v17 w' => ∃ (x4_2 : Int) (x17_2 : Int), v4 = .int .i64 x4_2 ∧ v17 = .int .i64 x17_2 ∧ Aside0 (num_Unfix.l0 kq x4_2 l0 (l0.length : Int) x17_2 = some (r1, r2)) ∧ Aside0 (kq ≤ kj1) ∧ Drawn0 w w')
        case atStart => exact ⟨(0), (0), (by first | rfl | (simp; done) | (simp [*]; done)), (by first | rfl | (simp; done) | (simp [*]; done)), H', ⟨Nat.le_refl _⟩, by repeat (first | exact Drawn0.refl _ | apply Drawn0.step)⟩
        case round =>
          clear H'
          try clear c1
          try clear p2
          try clear c3
          try clear c3b0
          try clear c3b1
          try clear c4
          try clear p2
          obtain ⟨x4_2, x17_2, rfl, rfl, HA, HK2, ⟨m2, rfl⟩⟩ := hrel
          cases gk with
          | zero => exact absurd HA.out (by simp [num_Unfix.l0])
          | succ k2 =>
            have H := HA.out
            clear HA
            simp only [num_Unfix.l0] at H
            by_cases c5 : x17_2 < (l0.length : Int)
            · rw [if_pos c5] at H
              have c5b0 : decide (x17_2 < (l0.length : Int)) = true := decide_eq_true c5
              clear c5
              by_cases c6 : 0 ≤ x17_2
              · rw [if_pos c6] at H
                have c6b0 : decide (0 ≤ x17_2) = true := decide_eq_true c6
                clear c6
                by_cases c7 : x17_2 < (l0.length : Int)
                · rw [if_pos c7] at H
                  have c7b0 : decide (x17_2 < (l0.length : Int)) = true := decide_eq_true c7
                  clear c7
                  obtain ⟨ji8, hji8⟩ : ∃ j_ : Int, (wrap64 (8 * x17_2)) = j_ := ⟨_, rfl⟩
                  replace H : (if 0 ≤ (ji8) then (num_Unfix.l0 k2 (Go.bits .or .i64 x4_2 (shl .i64 (wrap64 (rd l0 x17_2)) (ji8))) l0 (l0.length : Int) (wrap64 (x17_2 + 1))) else (none)) = some (r1, r2) := by first | (rw [hji8] at H; exact H) | (simp only [hji8] at H ⊢; exact H)
                  have hji8w : (IntKind.i64.wrap (8 * x17_2)) = ji8 := (i64_w _).trans hji8
                  by_cases c9 : 0 ≤ (ji8)
                  · rw [if_pos c9] at H
                    have c9b0 := eq_true c9
                    have c9b1 : decide (0 ≤ (ji8)) = true := decide_eq_true c9
                    clear c9
                    obtain ⟨ji10, hji10⟩ : ∃ j_ : Int, (shl .i64 (wrap64 (rd l0 x17_2)) (ji8)) = j_ := ⟨_, rfl⟩
                    replace H : (num_Unfix.l0 k2 (Go.bits .or .i64 x4_2 (ji10)) l0 (l0.length : Int) (wrap64 (x17_2 + 1))) = some (r1, r2) := by first | (rw [hji10] at H; exact H) | (simp only [hji10] at H ⊢; exact H)
                    have hji10_ : (IntKind.i64.wrap ((wrap64 (rd l0 x17_2)) * 2 ^ min (ji8).toNat 64)) = ji10 := hji10
                    have hji10z : (ji8) ≤ 64 → (IntKind.i64.wrap ((wrap64 (rd l0 x17_2)) * 2 ^ (ji8).toNat)) = ji10 := shl_small hji10
                    have hji10y : (wrap64 ((wrap64 (rd l0 x17_2)) * 2 ^ min (ji8).toNat 64)) = ji10 := (i64_w _).symm.trans hji10_
                    have hji10x : (ji8) ≤ 64 → (wrap64 ((wrap64 (rd l0 x17_2)) * 2 ^ (ji8).toNat)) = ji10 := fun h_ => (i64_w _).symm.trans (hji10z h_)
                    have H' := Aside0.mk H
                    clear H
                    have p131 : 0 ≤ (x17_2 : Int) := of_decide_eq_true (by first | (with_reducible assumption) | assumption)
                    have q131 : x17_2 < (l0.length : Int) := of_decide_eq_true (by first | (with_reducible assumption) | assumption)
                    obtain ⟨ad131, e131, hx131_0⟩ := Kd.at_int HR0.out x17_2 p131 q131
                    cases e131
                    replace p131 := eq_true p131
                    replace q131 := eq_true q131
                    go_wp2
                    go_roundg k2
                    case measure => have := HJ1.out; have := HK2.out; omega
                    case rel => exact ⟨(Go.bits .or .i64 x4_2 (ji10)), (wrap64 (x17_2 + 1)), (by first | rfl | (simp; done) | (simp only [← hji10] <;> (first | rfl | simp)) | (simp [*]; done)), (by first | rfl | (simp; done) | (simp [*]; done)), H', ⟨by have := HJ1.out; have := HK2.out; omega⟩, by repeat (first | exact Drawn0.refl _ | apply Drawn0.step)⟩
                  · rw [if_neg c9] at H
                    exact absurd H (by simp)
                · rw [if_neg c7] at H
                  exact absurd H (by simp)
              · rw [if_neg c6] at H
                exact absurd H (by simp)
            · rw [if_neg c5] at H
              have c5b0 : decide (x17_2 < (l0.length : Int)) = false := decide_eq_false c5
              clear c5
              replace H := Option.bind_eq_some_iff.mp H
              obtain ⟨t132, A110, H⟩ := H
              replace H : (if t132 = true then (some (x4_2, 0)) else (some (0, 5))) = some (r1, r2) := H
              have A11 := Aside0.mk A110
              clear A110
              by_cases c12 : t132 = true
              · subst c12
                have H1 : (some (x4_2, 0)) = some (r1, r2) := by rw [if_pos rfl] at H; exact H
                clear H
                have H := H1
                clear H1
                simp only [Option.some.injEq, Prod.mk.injEq] at H
                obtain ⟨rfl, rfl⟩ := H
                go_wp2_with (first | ((with_reducible refine gate_callee (f := 66) rfl ?_); refine goesL_ (some 31) rfl rfl Try.func66 (by kernel_rfl) rfl #[.int .i64 x4_2] rfl (by (try simp only [List.map_toArray, List.map_cons, List.map_nil]); first | done | rfl | (simp only [List.length_drop, List.length_take]; rfl)) ?_; (with_reducible refine (num_is.calls x4_2 true _ A11.out).mono ?_); rintro e w' ⟨rfl, ⟨nd, rfl⟩⟩; refine ⟨_, rfl, ?_⟩))
                go_ret2
                exact ⟨by first | rfl | (simp; done) | (simp [*]; done), by repeat (first | exact Drawn0.refl _ | apply Drawn0.step)⟩
              · replace c12 := Bool.eq_false_iff.mpr c12
                subst c12
                have H1 : (some (0, 5)) = some (r1, r2) := by rw [if_neg (show ¬ (false = true) by decide)] at H; exact H
                clear H
                have H := H1
                clear H1
                simp only [Option.some.injEq, Prod.mk.injEq] at H
                obtain ⟨rfl, rfl⟩ := H
                go_wp2_with (first | ((with_reducible refine gate_callee (f := 66) rfl ?_); refine goesL_ (some 31) rfl rfl Try.func66 (by kernel_rfl) rfl #[.int .i64 x4_2] rfl (by (try simp only [List.map_toArray, List.map_cons, List.map_nil]); first | done | rfl | (simp only [List.length_drop, List.length_take]; rfl)) ?_; (with_reducible refine (num_is.calls x4_2 false _ A11.out).mono ?_); rintro e w' ⟨rfl, ⟨nd, rfl⟩⟩; refine ⟨_, rfl, ?_⟩))
                go_ret2
                exact ⟨by first | rfl | (simp; done) | (simp [*]; done), by repeat (first | exact Drawn0.refl _ | apply Drawn0.step)⟩
end Go.Proofs.Ytopfjmeejpamjaa.PCellGets
end
section
namespace Go.Proofs.Ytopfjmeejpamjaa.PCellGets
open Go.RowKit Go.Proofs.YtopfjmeejpamjaaW.PrintWords Go.Proofs.YtopfjmeejpamjaaW.PrintLast Go.Proofs.YtopfjmeejpamjaaW.PrintMore
attribute [local go_sem] max2_int min2_int max_two min_two max_three min_three max_four min_four
set_option linter.unusedVariables false
set_option linter.unusedSimpArgs false
set_option linter.ambiguousOpen false
open Go.Proofs.Ytopfjmeejpamjaa.PSuper
mutual
def chantryref01_Fix.j0 : Nat → Int → Int → Bool → Option (List Int × Int)
  | 0, _, _, _ => none
  | k + 1, x0, x1, x21 => if x21 = true then (some (([] : List Int), 1)) else (chantryref01_Fix.l0 k x0 x1 ([] : List Int) 0)
def chantryref01_Fix.l0 : Nat → Int → Int → List Int → Int → Option (List Int × Int)
  | 0, _, _, _, _ => none
  | k + 1, x0, x1, x6, x7 => if x7 < x1 then (if x6.length < 140737488355328 then (chantryref01_Fix.l0 k (wrap64 (Int.tdiv x0 256)) x1 (x6 ++ [(Int.tmod x0 256) % 256]) (wrap64 (x7 + 1))) else (none)) else (if x0 > 0 then (some (([] : List Int), 1)) else (some (x6, 0)))
end
def chantryref01_Fix.f (k : Nat) (a0 : Int) (a1 : Int) : Option (List Int × Int) := if a1 < 1 then (chantryref01_Fix.j0 k a0 a1 true) else (if a1 > 4 then (chantryref01_Fix.j0 k a0 a1 true) else (if a0 < 0 then (chantryref01_Fix.j0 k a0 a1 true) else (chantryref01_Fix.j0 k a0 a1 (decide (a0 > 2147483647)))))
theorem chantryref01_Fix.mono_l : ∀ k, (∀ y0 y1 y2, LeO (chantryref01_Fix.j0 k y0 y1 y2) (chantryref01_Fix.j0 (k + 1) y0 y1 y2)) ∧ (∀ y0 y1 y2 y3, LeO (chantryref01_Fix.l0 k y0 y1 y2 y3) (chantryref01_Fix.l0 (k + 1) y0 y1 y2 y3))
  | 0 => ⟨fun _ _ _ r h => by simp [chantryref01_Fix.j0] at h, fun _ _ _ _ r h => by simp [chantryref01_Fix.l0] at h⟩
  | k + 1 => by
    obtain ⟨ih0, ih1⟩ := chantryref01_Fix.mono_l k
    refine ⟨?_, ?_⟩
    · intro y0 y1 y2
      unfold chantryref01_Fix.j0
      repeat' first
      | (with_reducible exact ih0 _ _ _)
      | (with_reducible exact ih1 _ _ _ _)
      | (with_reducible exact LeO.refl _)
      | (with_reducible exact LeO.none _)
      | (with_reducible refine LeO.ite ?_ ?_)
      | (with_reducible refine LeO.bind ?_ (fun _ => ?_))
      | exact ih0 _ _ _
      | exact ih1 _ _ _ _
      | exact LeO.none _
      | refine LeO.ite ?_ ?_
      | refine LeO.bind ?_ (fun _ => ?_)
    · intro y0 y1 y2 y3
      unfold chantryref01_Fix.l0
      repeat' first
      | (with_reducible exact ih0 _ _ _)
      | (with_reducible exact ih1 _ _ _ _)
      | (with_reducible exact LeO.refl _)
      | (with_reducible exact LeO.none _)
      | (with_reducible refine LeO.ite ?_ ?_)
      | (with_reducible refine LeO.bind ?_ (fun _ => ?_))
      | exact ih0 _ _ _
      | exact ih1 _ _ _ _
      | exact LeO.none _
      | refine LeO.ite ?_ ?_
      | refine LeO.bind ?_ (fun _ => ?_)
theorem chantryref01_Fix.mono : ∀ a0 a1 k, LeO (chantryref01_Fix.f k a0 a1) (chantryref01_Fix.f (k + 1) a0 a1) := by
  intro a0 a1 k
  obtain ⟨ih0, ih1⟩ := chantryref01_Fix.mono_l k
  unfold chantryref01_Fix.f
  repeat' first
      | (with_reducible exact ih0 _ _ _)
      | (with_reducible exact ih1 _ _ _ _)
      | (with_reducible exact LeO.refl _)
      | (with_reducible exact LeO.none _)
      | (with_reducible refine LeO.ite ?_ ?_)
      | (with_reducible refine LeO.bind ?_ (fun _ => ?_))
      | exact ih0 _ _ _
      | exact ih1 _ _ _ _
      | exact LeO.none _
      | refine LeO.ite ?_ ?_
      | refine LeO.bind ?_ (fun _ => ?_)
set_option maxHeartbeats 8000000 in
set_option maxRecDepth 100000 in
theorem chantryref01_Fix.calls (k : Nat) (a0 : Int) (a1 : Int) (r1 : List Int) (r2 : Int) (w : World) (h : chantryref01_Fix.f k a0 a1 = some (r1, r2)) :
    Calls Try.prog 29 #[.int .i64 a0, .int .i64 a1] w fun e w' => ∃ v0_ : Value, e = .returned (.tuple #[v0_, .int .i64 r2]) ∧ Kd.R (Kd.int .u8) 5 w' w.heap.size (fun _ => True) v0_ r1 ∧ Below w.heap.size w w' := by
  have HB := Aside0.mk (Below.refl w.heap.size w)
  have H : (if a1 < 1 then (chantryref01_Fix.j0 k a0 a1 true) else (if a1 > 4 then (chantryref01_Fix.j0 k a0 a1 true) else (if a0 < 0 then (chantryref01_Fix.j0 k a0 a1 true) else (chantryref01_Fix.j0 k a0 a1 (decide (a0 > 2147483647)))))) = some (r1, r2) := h
  clear h
  have HC3 := Aside0.mk H
  clear H
  go_enter Try.func29, Try.ntmps29
  go_upto_region 1 with (fail)
  go_cut [21] (fun v21 wc => ∃ (kq : Nat) (x21_2 : Bool), v21 = .bool x21_2 ∧ Aside0 (chantryref01_Fix.j0 kq a0 a1 x21_2 = some (r1, r2)) ∧ Aside0 (kq ≤ k) ∧ Aside0 (Below w.heap.size w wc))
  case first =>
    have H := HC3.out
    clear HC3
    by_cases c4 : a1 < 1
    · rw [if_pos c4] at H
      have c4b0 : decide (a1 < 1) = true := decide_eq_true c4
      clear c4
      (first | rw [c4b0] | (simp only [i64_w, i32_w]; rw [c4b0]) | skip)
      have H' := Aside0.mk H
      clear H
      go_wp2
      go_meet
      case rel => exact ⟨_, (true), (by first | rfl | (simp; done) | (simp [*]; done)), H', ⟨by first | omega | exact Nat.le_refl _⟩, ⟨by repeat (first | (with_reducible first | exact HB.out | apply below_alloc | apply pw_below_drewN | apply below_drew1) | exact HB.out)⟩⟩
    · rw [if_neg c4] at H
      have c4b0 : decide (a1 < 1) = false := decide_eq_false c4
      clear c4
      (first | rw [c4b0] | (simp only [i64_w, i32_w]; rw [c4b0]) | skip)
      by_cases c5 : a1 > 4
      · rw [if_pos c5] at H
        have c5b0 : decide (4 < a1) = true := decide_eq_true c5
        clear c5
        have H' := Aside0.mk H
        clear H
        go_wp2
        go_meet
        case rel => exact ⟨_, (true), (by first | rfl | (simp; done) | (simp [*]; done)), H', ⟨by first | omega | exact Nat.le_refl _⟩, ⟨by repeat (first | (with_reducible first | exact HB.out | apply below_alloc | apply pw_below_drewN | apply below_drew1) | exact HB.out)⟩⟩
      · rw [if_neg c5] at H
        have c5b0 : decide (4 < a1) = false := decide_eq_false c5
        clear c5
        by_cases c6 : a0 < 0
        · rw [if_pos c6] at H
          have c6b0 : decide (a0 < 0) = true := decide_eq_true c6
          clear c6
          have H' := Aside0.mk H
          clear H
          go_wp2
          go_meet
          case rel => exact ⟨_, (true), (by first | rfl | (simp; done) | (simp [*]; done)), H', ⟨by first | omega | exact Nat.le_refl _⟩, ⟨by repeat (first | (with_reducible first | exact HB.out | apply below_alloc | apply pw_below_drewN | apply below_drew1) | exact HB.out)⟩⟩
        · rw [if_neg c6] at H
          have c6b0 : decide (a0 < 0) = false := decide_eq_false c6
          clear c6
          have H' := Aside0.mk H
          clear H
          go_wp2
          go_meet
          case rel => exact ⟨_, (decide (a0 > 2147483647)), (by first | rfl | (simp; done) | (simp [*]; done)), H', ⟨by first | omega | exact Nat.le_refl _⟩, ⟨by repeat (first | (with_reducible first | exact HB.out | apply below_alloc | apply pw_below_drewN | apply below_drew1) | exact HB.out)⟩⟩
  case rest =>
    clear HC3
    try clear c2
    try clear p2
    try clear c4
    try clear c4b0
    try clear c5
    try clear c5b0
    try clear c6
    try clear c6b0
    obtain ⟨kq, x21_2, rfl, HA, HJ2, HB⟩ := hcut
    cases kq with
    | zero => exact absurd HA.out (by simp [chantryref01_Fix.j0])
    | succ kj2 =>
      have H := HA.out
      clear HA
      simp only [chantryref01_Fix.j0] at H
      by_cases c7 : x21_2 = true
      · subst c7
        have H1 : (some (([] : List Int), 1)) = some (r1, r2) := by rw [if_pos rfl] at H; exact H
        clear H
        have H := H1
        clear H1
        simp only [Option.some.injEq, Prod.mk.injEq] at H
        obtain ⟨rfl, rfl⟩ := H
        go_wp2
        go_ret2
        exact ⟨_, by first | rfl | (simp [errW_none, errW_some] <;> rfl) | (simp [*, errW_none, errW_some] <;> rfl), by first | exact Kd.R_nil _ _ _ _ _ | exact Kd.N_nil _ _ _ _ _ | exact Kd.V_nil _ _ _ _ _ | exact Kd.Q_nil _ _ _ _ _ | exact Kd.S_nil _ _ _ _ _, by repeat (first | (with_reducible first | exact HB.out | apply below_alloc | apply pw_below_drewN | apply below_drew1) | exact HB.out)⟩
      · replace c7 := Bool.eq_false_iff.mpr c7
        subst c7
        have H1 : (chantryref01_Fix.l0 kj2 a0 a1 ([] : List Int) 0) = some (r1, r2) := by rw [if_neg (show ¬ (false = true) by decide)] at H; exact H
        clear H
        have H := H1
        clear H1
        have H' := Aside0.mk H
        clear H
        go_wp2
        go_loopg [0, 6, 7] kj2 (fun kq v0 v6 v7 w' => ∃ (x0_2 : Int) (x6_2 : List Int) (x7_2 : Int), v0 = .int .i64 x0_2 ∧ v7 = .int .i64 x7_2 ∧ Aside0 (chantryref01_Fix.l0 kq x0_2 a1 x6_2 x7_2 = some (r1, r2)) ∧ Aside0 (kq ≤ kj2) ∧ Aside0 (Kd.R (Kd.int .u8) 5 w' w.heap.size (fun _ => True) v6 x6_2) ∧ Aside0 (Below w.heap.size w w'))
        case atStart => exact ⟨(a0), (([] : List Int)), (0), (by first | rfl | (simp; done) | (simp [*]; done)), (by first | rfl | (simp; done) | (simp [*]; done)), H', ⟨Nat.le_refl _⟩, ⟨by first | exact Kd.R_nil _ _ _ _ _ | exact Kd.N_nil _ _ _ _ _ | exact Kd.V_nil _ _ _ _ _ | exact Kd.Q_nil _ _ _ _ _ | exact Kd.S_nil _ _ _ _ _⟩, ⟨by repeat (first | (with_reducible first | exact HB.out | apply below_alloc | apply pw_below_drewN | apply below_drew1) | exact HB.out)⟩⟩
        case round =>
          clear H'
          try clear c2
          try clear p2
          try clear c4
          try clear c4b0
          try clear c5
          try clear c5b0
          try clear c6
          try clear c6b0
          try clear c7
          try clear p2
          obtain ⟨x0_2, x6_2, x7_2, rfl, rfl, HA, HK2, HO_6, HB⟩ := hrel
          cases gk with
          | zero => exact absurd HA.out (by simp [chantryref01_Fix.l0])
          | succ k2 =>
            have H := HA.out
            clear HA
            simp only [chantryref01_Fix.l0] at H
            by_cases c8 : x7_2 < a1
            · rw [if_pos c8] at H
              have c8b0 : decide (x7_2 < a1) = true := decide_eq_true c8
              clear c8
              by_cases c9 : x6_2.length < 140737488355328
              · rw [if_pos c9] at H
                have LMc9 := Aside0.mk c9
                clear c9
                obtain ⟨y158, hy158⟩ : ∃ y_ : List Int, y_ = (x6_2 ++ [(Int.tmod x0_2 256) % 256]) := ⟨_, rfl⟩
                replace H : (chantryref01_Fix.l0 k2 (wrap64 (Int.tdiv x0_2 256)) a1 y158 (wrap64 (x7_2 + 1))) = some (r1, r2) := by first | (rw [hy158]; with_reducible exact H) | (have H2_ := (Option.bind_some _ _).symm.trans H; rw [hy158]; with_reducible exact H2_) | (have H2_ := (Option.bind_some _ _).symm.trans H; with_reducible exact H2_) | with_reducible exact H | (rw [hy158]; exact H) | exact H
                have Ny158 := Aside0.mk hy158
                clear hy158
                have H' := Aside0.mk H
                clear H
                go_wp2_with (first | ((with_reducible refine gate_builtin (b := .append) (xs := #[.tmp 27, .tmp 31]) rfl ?_); at_builtin; refine Kd.R_append (Kd.int .u8) (w0 := w) w.heap.size rfl (.tmp 27) (.tmp 31) 26 5 (.int .u8 0) 1 rfl Try.underlying26 info5 rfl (by decide) (by omega) u6 x6_2 ((Int.tmod x0_2 256) % 256) [.int .u8 ((Int.tmod x0_2 256) % 256)] (fun _ => True) (fun _ => False) rfl rfl ?aP (fun _ hk => hk.elim) ?aF ?aO ?aB ?aS ?aL ?_; (case aP => exact rfl); (case aB => exact (by repeat (first | (with_reducible first | exact HB.out | apply below_alloc | apply pw_below_drewN | apply below_drew1) | exact HB.out))); (case aF => exact (fun _ _ => trivial)); (case aO => exact (by (with_reducible repeat (first | apply Kd.R_alloc | apply Kd.R_drewN | apply Kd.R_drew)); exact HO_6.out)); (case aS => exact (below_size (by repeat (first | (with_reducible first | exact HB.out | apply below_alloc | apply pw_below_drewN | apply below_drew1) | exact HB.out)))); (case aL => have := LMc9.out; omega); intro v159 w10 ho hb hg hat; rw [← Ny158.out] at ho; have n0_ := Aside0.mk (hb); have n1_ := Aside0.mk (ho); clear HB; clear HO_6; have HB := n0_; have HO160 := n1_; clear n0_ n1_; clear ho hb hg hat))
                go_roundg k2
                case measure => have := HJ2.out; have := HK2.out; omega
                case rel => exact ⟨(wrap64 (Int.tdiv x0_2 256)), (y158), (wrap64 (x7_2 + 1)), (by first | rfl | (simp; done) | (simp [*]; done)), (by first | rfl | (simp; done) | (simp [*]; done)), H', ⟨by have := HJ2.out; have := HK2.out; omega⟩, ⟨by (with_reducible repeat (first | apply Kd.R_alloc | apply Kd.R_drewN | apply Kd.R_drew)); exact HO160.out⟩, ⟨by repeat (first | (with_reducible first | exact HB.out | apply below_alloc | apply pw_below_drewN | apply below_drew1) | exact HB.out)⟩⟩
              · rw [if_neg c9] at H
                exact absurd H (by simp)
            · rw [if_neg c8] at H
              have c8b0 : decide (x7_2 < a1) = false := decide_eq_false c8
              clear c8
              by_cases c11 : x0_2 > 0
              · rw [if_pos c11] at H
                have c11b0 : decide (0 < x0_2) = true := decide_eq_true c11
                clear c11
                simp only [Option.some.injEq, Prod.mk.injEq] at H
                obtain ⟨rfl, rfl⟩ := H
                go_wp2
                go_ret2
                exact ⟨_, by first | rfl | (simp [errW_none, errW_some] <;> rfl) | (simp [*, errW_none, errW_some] <;> rfl), by first | exact Kd.R_nil _ _ _ _ _ | exact Kd.N_nil _ _ _ _ _ | exact Kd.V_nil _ _ _ _ _ | exact Kd.Q_nil _ _ _ _ _ | exact Kd.S_nil _ _ _ _ _, by repeat (first | (with_reducible first | exact HB.out | apply below_alloc | apply pw_below_drewN | apply below_drew1) | exact HB.out)⟩
              · rw [if_neg c11] at H
                have c11b0 : decide (0 < x0_2) = false := decide_eq_false c11
                clear c11
                simp only [Option.some.injEq, Prod.mk.injEq] at H
                obtain ⟨rfl, rfl⟩ := H
                go_wp2
                go_ret2
                exact ⟨_, by first | rfl | (simp [errW_none, errW_some] <;> rfl) | (simp [*, errW_none, errW_some] <;> rfl), by (with_reducible repeat (first | apply Kd.R_alloc | apply Kd.R_drewN | apply Kd.R_drew)); exact HO_6.out, by repeat (first | (with_reducible first | exact HB.out | apply below_alloc | apply pw_below_drewN | apply below_drew1) | exact HB.out)⟩
mutual
def chantryref02_More.l0 : Nat → List Int → Int → Int → Option (Int)
  | 0, _, _, _ => none
  | k + 1, x1, x5, x6 => if x6 < (x1.length : Int) then (if 0 ≤ x6 then (chantryref02_More.l1 k x1 (Go.bits .xor .u32 x5 ((rd x1 x6) % 4294967296)) x6 0) else (none)) else (some (Go.bits .xor .u32 x5 4294967295))
def chantryref02_More.l1 : Nat → List Int → Int → Int → Int → Option (Int)
  | 0, _, _, _, _ => none
  | k + 1, x1, x5, x6, x7 => if x7 < 8 then (if (Int.tmod x5 2) = 1 then (chantryref02_More.l1 k x1 (Go.bits .xor .u32 ((Int.tdiv x5 2) % 4294967296) 2197175160) x6 (wrap64 (x7 + 1))) else (chantryref02_More.l1 k x1 ((Int.tdiv x5 2) % 4294967296) x6 (wrap64 (x7 + 1)))) else (chantryref02_More.l0 k x1 x5 (wrap64 (x6 + 1)))
end
def chantryref02_More.f (k : Nat) (a0 : Int) (l1 : List Int) : Option (Int) := chantryref02_More.l0 k l1 (Go.bits .xor .u32 a0 4294967295) 0
theorem chantryref02_More.mono_l : ∀ k, (∀ y0 y1 y2, LeO (chantryref02_More.l0 k y0 y1 y2) (chantryref02_More.l0 (k + 1) y0 y1 y2)) ∧ (∀ y0 y1 y2 y3, LeO (chantryref02_More.l1 k y0 y1 y2 y3) (chantryref02_More.l1 (k + 1) y0 y1 y2 y3))
  | 0 => ⟨fun _ _ _ r h => by simp [chantryref02_More.l0] at h, fun _ _ _ _ r h => by simp [chantryref02_More.l1] at h⟩
  | k + 1 => by
    obtain ⟨ih0, ih1⟩ := chantryref02_More.mono_l k
    refine ⟨?_, ?_⟩
    · intro y0 y1 y2
      unfold chantryref02_More.l0
      repeat' first
      | (with_reducible exact ih0 _ _ _)
      | (with_reducible exact ih1 _ _ _ _)
      | (with_reducible exact LeO.refl _)
      | (with_reducible exact LeO.none _)
      | (with_reducible refine LeO.ite ?_ ?_)
      | (with_reducible refine LeO.bind ?_ (fun _ => ?_))
      | exact ih0 _ _ _
      | exact ih1 _ _ _ _
      | exact LeO.none _
      | refine LeO.ite ?_ ?_
      | refine LeO.bind ?_ (fun _ => ?_)
    · intro y0 y1 y2 y3
      unfold chantryref02_More.l1
      repeat' first
      | (with_reducible exact ih0 _ _ _)
      | (with_reducible exact ih1 _ _ _ _)
      | (with_reducible exact LeO.refl _)
      | (with_reducible exact LeO.none _)
      | (with_reducible refine LeO.ite ?_ ?_)
      | (with_reducible refine LeO.bind ?_ (fun _ => ?_))
      | exact ih0 _ _ _
      | exact ih1 _ _ _ _
      | exact LeO.none _
      | refine LeO.ite ?_ ?_
      | refine LeO.bind ?_ (fun _ => ?_)
theorem chantryref02_More.mono : ∀ a0 a1 k, LeO (chantryref02_More.f k a0 a1) (chantryref02_More.f (k + 1) a0 a1) := by
  intro a0 a1 k
  obtain ⟨ih0, ih1⟩ := chantryref02_More.mono_l k
  unfold chantryref02_More.f
  repeat' first
      | (with_reducible exact ih0 _ _ _)
      | (with_reducible exact ih1 _ _ _ _)
      | (with_reducible exact LeO.refl _)
      | (with_reducible exact LeO.none _)
      | (with_reducible refine LeO.ite ?_ ?_)
      | (with_reducible refine LeO.bind ?_ (fun _ => ?_))
      | exact ih0 _ _ _
      | exact ih1 _ _ _ _
      | exact LeO.none _
      | refine LeO.ite ?_ ?_
      | refine LeO.bind ?_ (fun _ => ?_)
set_option maxHeartbeats 8000000 in
set_option maxRecDepth 100000 in
theorem chantryref02_More.calls (k : Nat) (a0 : Int) (A1 : Option Addr) (c1 : Nat) (l1 : List Int) (r : Int) (w : World) (hr1 : Kd.C (Kd.int .u8) w A1 l1.length l1) (hc1 : l1.length ≤ c1) (h : chantryref02_More.f k a0 l1 = some r) :
    Calls Try.prog 97 #[.int .u32 a0, .slice A1 l1.length c1] w fun e w' => e = .returned (.int .u32 r) ∧ Drawn0 w w' := by
  have HR1 := Aside0.mk hr1
  have HC1 := Aside0.mk hc1
  clear hr1 hc1
  have H : (chantryref02_More.l0 k l1 (Go.bits .xor .u32 a0 4294967295) 0) = some r := h
  clear h
  have H' := Aside0.mk H
  clear H
  go_enter Try.func97, Try.ntmps97
  go_wp2
  go_loopg [5, 6] k (fun kq v5 v6 w' => ∃ (x5_1 : Int) (x6_1 : Int), v5 = .int .u32 x5_1 ∧ v6 = .int .i64 x6_1 ∧ Aside0 (chantryref02_More.l0 kq l1 x5_1 x6_1 = some r) ∧ Aside0 (kq ≤ k) ∧ Drawn0 w w')
  case atStart => exact ⟨(Go.bits .xor .u32 a0 4294967295), (0), (by first | rfl | (simp; done) | (simp [*]; done)), (by first | rfl | (simp; done) | (simp [*]; done)), H', ⟨Nat.le_refl _⟩, by repeat (first | exact Drawn0.refl _ | apply Drawn0.step)⟩
  case round =>
    clear H'
    try clear c1
    try clear p2
    obtain ⟨x5_1, x6_1, rfl, rfl, HA, HK1, ⟨m1, rfl⟩⟩ := hrel
    cases gk with
    | zero => exact absurd HA.out (by simp [chantryref02_More.l0])
    | succ k1 =>
      have H := HA.out
      clear HA
      simp only [chantryref02_More.l0] at H
      by_cases c3 : x6_1 < (l1.length : Int)
      · rw [if_pos c3] at H
        have c3b0 : decide (x6_1 < (l1.length : Int)) = true := decide_eq_true c3
        clear c3
        by_cases c4 : 0 ≤ x6_1
        · rw [if_pos c4] at H
          have c4b0 : decide (0 ≤ x6_1) = true := decide_eq_true c4
          clear c4
          have H' := Aside0.mk H
          clear H
          have p162 : 0 ≤ (x6_1 : Int) := of_decide_eq_true (by first | (with_reducible assumption) | assumption)
          have q162 : x6_1 < (l1.length : Int) := of_decide_eq_true (by first | (with_reducible assumption) | assumption)
          obtain ⟨ad162, e162, hx162_0⟩ := Kd.at_int HR1.out x6_1 p162 q162
          cases e162
          replace p162 := eq_true p162
          replace q162 := eq_true q162
          go_wp2
          go_loopg [5, 7] k1 (fun kq v5 v7 w' => ∃ (x5_2 : Int) (x7_2 : Int), v5 = .int .u32 x5_2 ∧ v7 = .int .i64 x7_2 ∧ Aside0 (chantryref02_More.l1 kq l1 x5_2 x6_1 x7_2 = some r) ∧ Aside0 (kq ≤ k1) ∧ Drawn0 w w')
          case atStart => exact ⟨(Go.bits .xor .u32 x5_1 ((rd l1 x6_1) % 4294967296)), (0), (by first | rfl | (simp; done) | (simp [*]; done)), (by first | rfl | (simp; done) | (simp [*]; done)), H', ⟨Nat.le_refl _⟩, by repeat (first | exact Drawn0.refl _ | apply Drawn0.step)⟩
          case round =>
            clear H'
            try clear c1
            try clear p1
            try clear q1
            try clear hx1
            try clear p2
            try clear c3
            try clear c3b0
            try clear c4
            try clear c4b0
            try clear hx162_0
            try clear p162
            try clear p2
            try clear q162
            obtain ⟨x5_2, x7_2, rfl, rfl, HA, HK2, ⟨m2, rfl⟩⟩ := hrel
            cases gk with
            | zero => exact absurd HA.out (by simp [chantryref02_More.l1])
            | succ k2 =>
              have H := HA.out
              clear HA
              simp only [chantryref02_More.l1] at H
              by_cases c5 : x7_2 < 8
              · rw [if_pos c5] at H
                have c5b0 : decide (x7_2 < 8) = true := decide_eq_true c5
                clear c5
                by_cases c6 : (Int.tmod x5_2 2) = 1
                · rw [if_pos c6] at H
                  have c6b0 : ((Int.tmod x5_2 2) == 1) = true := beq_iff_eq.mpr c6
                  have c6b1 : ((Int.tmod x5_2 2) != 1) = false := bne_eq_false_iff_eq.mpr c6
                  clear c6
                  have H' := Aside0.mk H
                  clear H
                  go_wp2
                  go_roundg k2
                  case measure => have := HK1.out; have := HK2.out; omega
                  case rel => exact ⟨(Go.bits .xor .u32 ((Int.tdiv x5_2 2) % 4294967296) 2197175160), (wrap64 (x7_2 + 1)), (by first | rfl | (simp; done) | (simp [*]; done)), (by first | rfl | (simp; done) | (simp [*]; done)), H', ⟨by have := HK1.out; have := HK2.out; omega⟩, by repeat (first | exact Drawn0.refl _ | apply Drawn0.step)⟩
                · rw [if_neg c6] at H
                  have c6b0 : ((Int.tmod x5_2 2) == 1) = false := beq_eq_false_iff_ne.mpr c6
                  have c6b1 : ((Int.tmod x5_2 2) != 1) = true := bne_iff_ne.mpr c6
                  have H' := Aside0.mk H
                  clear H
                  go_wp2
                  go_roundg k2
                  case measure => have := HK1.out; have := HK2.out; omega
                  case rel => exact ⟨((Int.tdiv x5_2 2) % 4294967296), (wrap64 (x7_2 + 1)), (by first | rfl | (simp; done) | (simp [*]; done)), (by first | rfl | (simp; done) | (simp [*]; done)), H', ⟨by have := HK1.out; have := HK2.out; omega⟩, by repeat (first | exact Drawn0.refl _ | apply Drawn0.step)⟩
              · rw [if_neg c5] at H
                have c5b0 : decide (x7_2 < 8) = false := decide_eq_false c5
                clear c5
                have H' := Aside0.mk H
                clear H
                go_wp2
                go_roundg k2
                case measure => have := HK1.out; have := HK2.out; omega
                case rel => exact ⟨(x5_2), (wrap64 (x6_1 + 1)), (by first | rfl | (simp; done) | (simp [*]; done)), (by first | rfl | (simp; done) | (simp [*]; done)), H', ⟨by have := HK1.out; have := HK2.out; omega⟩, by repeat (first | exact Drawn0.refl _ | apply Drawn0.step)⟩
        · rw [if_neg c4] at H
          exact absurd H (by simp)
      · rw [if_neg c3] at H
        have c3b0 : decide (x6_1 < (l1.length : Int)) = false := decide_eq_false c3
        clear c3
        obtain rfl := Option.some.inj H
        go_wp2
        go_ret
        exact ⟨by first | rfl | (simp; done) | (simp [*]; done), by repeat (first | exact Drawn0.refl _ | apply Drawn0.step)⟩
def chantryref02_Sum.f (k : Nat) (l0 : List Int) : Option (Int) := (chantryref02_More.f k 0 l0).bind fun t163 => (some t163)
theorem chantryref02_Sum.mono : ∀ a0 k, LeO (chantryref02_Sum.f k a0) (chantryref02_Sum.f (k + 1) a0) := by
  intro a0 k
  unfold chantryref02_Sum.f
  repeat' first
      | (with_reducible exact chantryref02_More.mono _ _ _)
      | (with_reducible exact LeO.refl _)
      | (with_reducible exact LeO.none _)
      | (with_reducible refine LeO.ite ?_ ?_)
      | (with_reducible refine LeO.bind ?_ (fun _ => ?_))
      | exact chantryref02_More.mono _ _ _
      | exact LeO.none _
      | refine LeO.ite ?_ ?_
      | refine LeO.bind ?_ (fun _ => ?_)
set_option maxHeartbeats 8000000 in
set_option maxRecDepth 100000 in
theorem chantryref02_Sum.calls (k : Nat) (A0 : Option Addr) (c0 : Nat) (l0 : List Int) (r : Int) (w : World) (hr0 : Kd.C (Kd.int .u8) w A0 l0.length l0) (hc0 : l0.length ≤ c0) (h : chantryref02_Sum.f k l0 = some r) :
    Calls Try.prog 91 #[.slice A0 l0.length c0] w fun e w' => e = .returned (.int .u32 r) ∧ Drawn0 w w' := by
  have HR0 := Aside0.mk hr0
  have HC0 := Aside0.mk hc0
  clear hr0 hc0
  have H : ((chantryref02_More.f k 0 l0).bind fun t163 => (some t163)) = some r := h
  clear h
  replace H := Option.bind_eq_some_iff.mp H
  obtain ⟨t163, A20, H⟩ := H
  replace H : (some t163) = some r := H
  have A2 := Aside0.mk A20
  clear A20
  obtain rfl := Option.some.inj H
  go_enter Try.func91, Try.ntmps91
  go_wp2_with (first | ((with_reducible refine gate_callee (f := 97) rfl ?_); refine goesL_ (some 4) rfl rfl Try.func97 (by kernel_rfl) rfl #[.int .u32 0, .slice A0 l0.length c0] rfl (by (try simp only [List.map_toArray, List.map_cons, List.map_nil]); first | done | rfl | (simp only [List.length_drop, List.length_take]; rfl)) ?_; (with_reducible refine (chantryref02_More.calls k 0 _ _ l0 t163 _ ?side1 ?side2 A2.out).mono ?_); (case side1 => repeat (first | exact HR0.out | (with_reducible refine Kd.C_alloc ?_ _) | (with_reducible refine Kd.C_drewN ?_ _) | (with_reducible refine Kd.C_drew ?_))); (case side2 => exact HC0.out); rintro e w' ⟨rfl, ⟨nd, rfl⟩⟩; refine ⟨_, rfl, ?_⟩))
  go_ret
  exact ⟨by first | rfl | (simp; done) | (simp [*]; done), by repeat (first | exact Drawn0.refl _ | apply Drawn0.step)⟩
def chantryref02_Seal.f (k : Nat) (l0 : List Int) : Option (List Int) := (chantryref02_Sum.f k l0).bind fun t164 => ((some (([] : List Int) : List Int)).bind fun y165 => (if y165.length + l0.length < 140737488355328 then ((some (y165 ++ l0 : List Int)).bind fun y168 => ((some (([(Int.tmod t164 256) % 256, ((Int.tdiv t164 256) % 4294967296) % 256, ((Int.tdiv t164 65536) % 4294967296) % 256, ((Int.tdiv t164 16777216) % 4294967296) % 256] : List Int) : List Int)).bind fun y171 => (if y168.length + y171.length < 140737488355328 then (some (y168 ++ y171)) else (none)))) else (none)))
theorem chantryref02_Seal.mono : ∀ a0 k, LeO (chantryref02_Seal.f k a0) (chantryref02_Seal.f (k + 1) a0) := by
  intro a0 k
  unfold chantryref02_Seal.f
  repeat' first
      | (with_reducible exact chantryref02_Sum.mono _ _)
      | (with_reducible exact LeO.refl _)
      | (with_reducible exact LeO.none _)
      | (with_reducible refine LeO.ite ?_ ?_)
      | (with_reducible refine LeO.bind ?_ (fun _ => ?_))
      | exact chantryref02_Sum.mono _ _
      | exact LeO.none _
      | refine LeO.ite ?_ ?_
      | refine LeO.bind ?_ (fun _ => ?_)
set_option maxHeartbeats 8000000 in
set_option maxRecDepth 100000 in
theorem chantryref02_Seal.calls (k : Nat) (A0 : Option Addr) (c0 : Nat) (l0 : List Int) (r : List Int) (w : World) (hr0 : Kd.C (Kd.int .u8) w A0 l0.length l0) (hc0 : l0.length ≤ c0) (h : chantryref02_Seal.f k l0 = some r) :
    Calls Try.prog 71 #[.slice A0 l0.length c0] w fun e w' => ∃ v0_ : Value, e = .returned (v0_) ∧ Kd.R (Kd.int .u8) 5 w' w.heap.size (fun _ => True) v0_ r ∧ Below w.heap.size w w' := by
  have HR0 := Aside0.mk hr0
  have HC0 := Aside0.mk hc0
  clear hr0 hc0
  have HB := Aside0.mk (Below.refl w.heap.size w)
  have H : ((chantryref02_Sum.f k l0).bind fun t164 => ((some (([] : List Int) : List Int)).bind fun y165 => (if y165.length + l0.length < 140737488355328 then ((some (y165 ++ l0 : List Int)).bind fun y168 => ((some (([(Int.tmod t164 256) % 256, ((Int.tdiv t164 256) % 4294967296) % 256, ((Int.tdiv t164 65536) % 4294967296) % 256, ((Int.tdiv t164 16777216) % 4294967296) % 256] : List Int) : List Int)).bind fun y171 => (if y168.length + y171.length < 140737488355328 then (some (y168 ++ y171)) else (none)))) else (none)))) = some r := h
  clear h
  replace H := Option.bind_eq_some_iff.mp H
  obtain ⟨t164, A20, H⟩ := H
  replace H : ((some (([] : List Int) : List Int)).bind fun y165 => (if y165.length + l0.length < 140737488355328 then ((some (y165 ++ l0 : List Int)).bind fun y168 => ((some (([(Int.tmod t164 256) % 256, ((Int.tdiv t164 256) % 4294967296) % 256, ((Int.tdiv t164 65536) % 4294967296) % 256, ((Int.tdiv t164 16777216) % 4294967296) % 256] : List Int) : List Int)).bind fun y171 => (if y168.length + y171.length < 140737488355328 then (some (y168 ++ y171)) else (none)))) else (none))) = some r := H
  have A2 := Aside0.mk A20
  clear A20
  obtain ⟨y165, hy165⟩ : ∃ y_ : List Int, y_ = (([] : List Int)) := ⟨_, rfl⟩
  replace H : (if y165.length + l0.length < 140737488355328 then ((some (y165 ++ l0 : List Int)).bind fun y168 => ((some (([(Int.tmod t164 256) % 256, ((Int.tdiv t164 256) % 4294967296) % 256, ((Int.tdiv t164 65536) % 4294967296) % 256, ((Int.tdiv t164 16777216) % 4294967296) % 256] : List Int) : List Int)).bind fun y171 => (if y168.length + y171.length < 140737488355328 then (some (y168 ++ y171)) else (none)))) else (none)) = some r := by first | (rw [hy165]; with_reducible exact H) | (have H2_ := (Option.bind_some _ _).symm.trans H; rw [hy165]; with_reducible exact H2_) | (have H2_ := (Option.bind_some _ _).symm.trans H; with_reducible exact H2_) | with_reducible exact H | (rw [hy165]; exact H) | exact H
  have Ny165 := Aside0.mk hy165
  clear hy165
  by_cases c3 : y165.length + l0.length < 140737488355328
  · rw [if_pos c3] at H
    have LMc3 := Aside0.mk c3
    clear c3
    obtain ⟨y168, hy168⟩ : ∃ y_ : List Int, y_ = (y165 ++ l0) := ⟨_, rfl⟩
    replace H : ((some (([(Int.tmod t164 256) % 256, ((Int.tdiv t164 256) % 4294967296) % 256, ((Int.tdiv t164 65536) % 4294967296) % 256, ((Int.tdiv t164 16777216) % 4294967296) % 256] : List Int) : List Int)).bind fun y171 => (if y168.length + y171.length < 140737488355328 then (some (y168 ++ y171)) else (none))) = some r := by first | (rw [hy168]; with_reducible exact H) | (have H2_ := (Option.bind_some _ _).symm.trans H; rw [hy168]; with_reducible exact H2_) | (have H2_ := (Option.bind_some _ _).symm.trans H; with_reducible exact H2_) | with_reducible exact H | (rw [hy168]; exact H) | exact H
    have Ny168 := Aside0.mk hy168
    clear hy168
    obtain ⟨y171, hy171⟩ : ∃ y_ : List Int, y_ = (([(Int.tmod t164 256) % 256, ((Int.tdiv t164 256) % 4294967296) % 256, ((Int.tdiv t164 65536) % 4294967296) % 256, ((Int.tdiv t164 16777216) % 4294967296) % 256] : List Int)) := ⟨_, rfl⟩
    replace H : (if y168.length + y171.length < 140737488355328 then (some (y168 ++ y171)) else (none)) = some r := by first | (rw [hy171]; with_reducible exact H) | (have H2_ := (Option.bind_some _ _).symm.trans H; rw [hy171]; with_reducible exact H2_) | (have H2_ := (Option.bind_some _ _).symm.trans H; with_reducible exact H2_) | with_reducible exact H | (rw [hy171]; exact H) | exact H
    have Ny171 := Aside0.mk hy171
    clear hy171
    by_cases c4 : y168.length + y171.length < 140737488355328
    · rw [if_pos c4] at H
      have LMc4 := Aside0.mk c4
      clear c4
      obtain ⟨y174, hy174⟩ : ∃ y_ : List Int, y_ = (y168 ++ y171) := ⟨_, rfl⟩
      replace H : (some y174) = some r := by first | (rw [hy174]; with_reducible exact H) | (have H2_ := (Option.bind_some _ _).symm.trans H; rw [hy174]; with_reducible exact H2_) | (have H2_ := (Option.bind_some _ _).symm.trans H; with_reducible exact H2_) | with_reducible exact H | (rw [hy174]; exact H) | exact H
      have Ny174 := Aside0.mk hy174
      clear hy174
      obtain rfl := Option.some.inj H
      go_enter Try.func71, Try.ntmps71
      go_wp2_with (first | ((with_reducible refine gate_callee (f := 91) rfl ?_); refine goesL_ (some 5) rfl rfl Try.func91 (by kernel_rfl) rfl #[.slice A0 l0.length c0] rfl (by (try simp only [List.map_toArray, List.map_cons, List.map_nil]); first | done | rfl | (simp only [List.length_drop, List.length_take]; rfl)) ?_; (with_reducible refine (chantryref02_Sum.calls k _ _ l0 t164 _ ?side1 ?side2 A2.out).mono ?_); (case side1 => repeat (first | exact HR0.out | (with_reducible refine Kd.C_alloc ?_ _) | (with_reducible refine Kd.C_drewN ?_ _) | (with_reducible refine Kd.C_drew ?_))); (case side2 => exact HC0.out); rintro e w' ⟨rfl, ⟨nd, rfl⟩⟩; refine ⟨_, rfl, ?_⟩) | ((with_reducible refine gate_dst (N := 6) rfl ?_); refine Kd.R_lit (Kd.int .u8) _ 5 ?hg (N := 6) ?hd (xs := ([] : List Int)) (inner := []) (ok := fun _ => True) (okp := fun _ => True) ?hr ?hp (fun _ hk => hk) trivial (Below.refl _ _) (Nat.le_refl _) (by simp) ?_; (case hd => rfl); (case hg => rfl); (case hr => first | (go_simp; done) | (go_simp; rfl)); (case hp => exact (Reps.none _ _)); intro v166 w5 ho6 hb hg_ hnew_; clear hg_ hnew_; (first | rw [← Ny165.out] at ho6 | (simp only [Int.reduceToNat] at ho6; rw [← Ny165.out] at ho6)); have n0_ := Aside0.mk (Kd.R_lower ho6 (below_size (by repeat (first | (with_reducible first | exact HB.out | apply below_alloc | apply pw_below_drewN | apply below_drew1) | exact HB.out)))); have n1_ := Aside0.mk (below_step (by repeat (first | (with_reducible first | exact HB.out | apply below_alloc | apply pw_below_drewN | apply below_drew1) | exact HB.out)) hb); clear HB; have HO167 := n0_; have HB := n1_; clear n0_ n1_; clear hb ho6) | ((with_reducible refine gate_builtin (b := .append) (xs := #[.tmp 6, .tmp 7]) rfl ?_); at_builtin; refine Kd.R_append_rows (Kd.int .u8) (w0 := w) w.heap.size rfl (.tmp 6) (.tmp 7) 26 5 (.int .u8 0) 1 rfl Try.underlying26 info5 rfl (by decide) (by omega) v166 y165 l0 _ _ _ (fun _ => True) (fun _ => False) rfl rfl ?aO ?aR (fun _ _ h => h) (fun _ h => h.elim) ?aF ?aB ?aS ?aL ?_; (case aR => repeat (first | exact (Kd.C_below HR0.out HB.out) | (with_reducible refine Kd.C_alloc ?_ _) | (with_reducible refine Kd.C_drewN ?_ _) | (with_reducible refine Kd.C_drew ?_))); (case aB => exact (by repeat (first | (with_reducible first | exact HB.out | apply below_alloc | apply pw_below_drewN | apply below_drew1) | exact HB.out))); (case aF => exact (fun _ _ => trivial)); (case aO => exact (by (with_reducible repeat (first | apply Kd.R_alloc | apply Kd.R_drewN | apply Kd.R_drew)); exact HO167.out)); (case aS => exact (below_size (by repeat (first | (with_reducible first | exact HB.out | apply below_alloc | apply pw_below_drewN | apply below_drew1) | exact HB.out)))); (case aL => have := LMc3.out; omega); intro v169 w7 ho hb hg hat; rw [← Ny168.out] at ho; have n0_ := Aside0.mk (hb); have n1_ := Aside0.mk (ho); clear HB; clear HO167; have HB := n0_; have HO170 := n1_; clear n0_ n1_; clear ho hb hg hat) | ((with_reducible refine gate_dst (N := 23) rfl ?_); refine Kd.R_lit (Kd.int .u8) _ 5 ?hg (N := 23) ?hd (xs := ([(Int.tmod t164 256) % 256, ((Int.tdiv t164 256) % 4294967296) % 256, ((Int.tdiv t164 65536) % 4294967296) % 256, ((Int.tdiv t164 16777216) % 4294967296) % 256] : List Int)) (inner := [.int .u8 ((Int.tmod t164 256) % 256), .int .u8 (((Int.tdiv t164 256) % 4294967296) % 256), .int .u8 (((Int.tdiv t164 65536) % 4294967296) % 256), .int .u8 (((Int.tdiv t164 16777216) % 4294967296) % 256)]) (ok := fun _ => True) (okp := fun _ => True) ?hr ?hp (fun _ hk => hk) trivial (Below.refl _ _) (Nat.le_refl _) (by simp) ?_; (case hd => rfl); (case hg => rfl); (case hr => first | (go_simp; done) | (go_simp; rfl)); (case hp => exact (Reps.one (show Kd.M (Kd.int .u8) _ _ _ ((Int.tmod t164 256) % 256) [.int .u8 ((Int.tmod t164 256) % 256)] from rfl) (Reps.one (show Kd.M (Kd.int .u8) _ _ _ (((Int.tdiv t164 256) % 4294967296) % 256) [.int .u8 (((Int.tdiv t164 256) % 4294967296) % 256)] from rfl) (Reps.one (show Kd.M (Kd.int .u8) _ _ _ (((Int.tdiv t164 65536) % 4294967296) % 256) [.int .u8 (((Int.tdiv t164 65536) % 4294967296) % 256)] from rfl) (Reps.one (show Kd.M (Kd.int .u8) _ _ _ (((Int.tdiv t164 16777216) % 4294967296) % 256) [.int .u8 (((Int.tdiv t164 16777216) % 4294967296) % 256)] from rfl) (Reps.none _ _)))))); intro v172 w8 ho9 hb hg_ hnew_; clear hg_ hnew_; (first | rw [← Ny171.out] at ho9 | (simp only [Int.reduceToNat] at ho9; rw [← Ny171.out] at ho9)); have n0_ := Aside0.mk (Kd.R_elder' (by (with_reducible repeat (first | apply Kd.R_alloc | apply Kd.R_drewN | apply Kd.R_drew)); exact HO170.out) (Kd.R_base ho9) hb); have n1_ := Aside0.mk (Kd.R_lower (Kd.R_new' ho9 (Kd.R_lt (by (with_reducible repeat (first | apply Kd.R_alloc | apply Kd.R_drewN | apply Kd.R_drew)); exact HO170.out))) (below_size (by repeat (first | (with_reducible first | exact HB.out | apply below_alloc | apply pw_below_drewN | apply below_drew1) | exact HB.out)))); have n2_ := Aside0.mk (below_step (by repeat (first | (with_reducible first | exact HB.out | apply below_alloc | apply pw_below_drewN | apply below_drew1) | exact HB.out)) hb); clear HO170; clear HB; have HO170 := n0_; have HO173 := n1_; have HB := n2_; clear n0_ n1_ n2_; clear hb ho9; obtain ⟨Ao11, co11, eo11⟩ := Kd.R_slice HO173.out; subst eo11) | ((with_reducible refine gate_builtin (b := .append) (xs := #[.tmp 8, .tmp 23]) rfl ?_); at_builtin; refine Kd.R_append_rows (Kd.int .u8) (w0 := w) w.heap.size rfl (.tmp 8) (.tmp 23) 26 5 (.int .u8 0) 1 rfl Try.underlying26 info5 rfl (by decide) (by omega) v169 y168 y171 _ _ _ (fun k_ => some k_ ≠ (.slice Ao11 y171.length co11 : Value).ownBlock) (fun _ => False) rfl rfl ?aO ?aR (fun _ _ h => h) (fun _ h => h.elim) ?aF ?aB ?aS ?aL ?_; (case aR => repeat (first | exact (Kd.R_reads' HO173.out).2.2 | (with_reducible refine Kd.C_alloc ?_ _) | (with_reducible refine Kd.C_drewN ?_ _) | (with_reducible refine Kd.C_drew ?_))); (case aB => exact (by repeat (first | (with_reducible first | exact HB.out | apply below_alloc | apply pw_below_drewN | apply below_drew1) | exact HB.out))); (case aF => exact (fun k_ hk => Kd.fresh' (Kd.R_lt (by (with_reducible repeat (first | apply Kd.R_alloc | apply Kd.R_drewN | apply Kd.R_drew)); exact HO173.out)) k_ hk)); (case aO => exact (by (with_reducible repeat (first | apply Kd.R_alloc | apply Kd.R_drewN | apply Kd.R_drew)); exact Kd.R_mono HO170.out (fun _ hk => hk.2))); (case aS => exact (below_size (by repeat (first | (with_reducible first | exact HB.out | apply below_alloc | apply pw_below_drewN | apply below_drew1) | exact HB.out)))); (case aL => have := LMc4.out; omega); intro v175 w10 ho hb hg hat; rw [← Ny174.out] at ho; have n0_ := Aside0.mk (Kd.R_after (ok := (fun _ => True)) (by (with_reducible repeat (first | apply Kd.R_alloc | apply Kd.R_drewN | apply Kd.R_drew)); exact HO173.out) hg hat); have n1_ := Aside0.mk (hb); have n2_ := Aside0.mk (ho); clear HO173; clear HB; clear HO170; have HO173 := n0_; have HB := n1_; have HO176 := n2_; clear n0_ n1_ n2_; clear ho hb hg hat))
      go_ret
      exact ⟨_, by first | rfl | (simp [errW_none, errW_some] <;> rfl) | (simp [*, errW_none, errW_some] <;> rfl), by (with_reducible repeat (first | apply Kd.R_alloc | apply Kd.R_drewN | apply Kd.R_drew)); exact Kd.R_mono HO176.out (fun _ hk => trivial), by repeat (first | (with_reducible first | exact HB.out | apply below_alloc | apply pw_below_drewN | apply below_drew1) | exact HB.out)⟩
    · rw [if_neg c4] at H
      exact absurd H (by simp)
  · rw [if_neg c3] at H
    exact absurd H (by simp)
end Go.Proofs.Ytopfjmeejpamjaa.PCellGets
end
section
namespace Go.Proofs.Ytopfjmeejpamjaa.PCellGets
open Go.RowKit Go.Proofs.YtopfjmeejpamjaaW.PrintWords Go.Proofs.YtopfjmeejpamjaaW.PrintLast Go.Proofs.YtopfjmeejpamjaaW.PrintMore
attribute [local go_sem] max2_int min2_int max_two min_two max_three min_three max_four min_four
set_option linter.unusedVariables false
set_option linter.unusedSimpArgs false
set_option linter.ambiguousOpen false
open Go.Proofs.Ytopfjmeejpamjaa.PSuper
mutual
def chantryref01_Unfix.j0 : Nat → List Int → Bool → Option (Int × Int)
  | 0, _, _ => none
  | k + 1, x0, x13 => if x13 = true then (some (0, 1)) else (chantryref01_Unfix.l0 k x0 0 (wrap64 ((x0.length : Int) - 1)))
def chantryref01_Unfix.l0 : Nat → List Int → Int → Int → Option (Int × Int)
  | 0, _, _, _ => none
  | k + 1, x0, x4, x5 => if x5 ≥ 0 then (if 0 ≤ x5 then (if x5 < (x0.length : Int) then (chantryref01_Unfix.l0 k x0 (wrap64 ((wrap64 (256 * x4)) + (wrap64 (rd x0 x5)))) (wrap64 (x5 - 1))) else (none)) else (none)) else (if x4 > 2147483647 then (some (0, 5)) else (some (x4, 0)))
end
def chantryref01_Unfix.f (k : Nat) (l0 : List Int) : Option (Int × Int) := if (l0.length : Int) < 1 then (chantryref01_Unfix.j0 k l0 true) else (chantryref01_Unfix.j0 k l0 (decide ((l0.length : Int) > 4)))
theorem chantryref01_Unfix.mono_l : ∀ k, (∀ y0 y1, LeO (chantryref01_Unfix.j0 k y0 y1) (chantryref01_Unfix.j0 (k + 1) y0 y1)) ∧ (∀ y0 y1 y2, LeO (chantryref01_Unfix.l0 k y0 y1 y2) (chantryref01_Unfix.l0 (k + 1) y0 y1 y2))
  | 0 => ⟨fun _ _ r h => by simp [chantryref01_Unfix.j0] at h, fun _ _ _ r h => by simp [chantryref01_Unfix.l0] at h⟩
  | k + 1 => by
    obtain ⟨ih0, ih1⟩ := chantryref01_Unfix.mono_l k
    refine ⟨?_, ?_⟩
    · intro y0 y1
      unfold chantryref01_Unfix.j0
      repeat' first
      | (with_reducible exact ih0 _ _)
      | (with_reducible exact ih1 _ _ _)
      | (with_reducible exact LeO.refl _)
      | (with_reducible exact LeO.none _)
      | (with_reducible refine LeO.ite ?_ ?_)
      | (with_reducible refine LeO.bind ?_ (fun _ => ?_))
      | exact ih0 _ _
      | exact ih1 _ _ _
      | exact LeO.none _
      | refine LeO.ite ?_ ?_
      | refine LeO.bind ?_ (fun _ => ?_)
    · intro y0 y1 y2
      unfold chantryref01_Unfix.l0
      repeat' first
      | (with_reducible exact ih0 _ _)
      | (with_reducible exact ih1 _ _ _)
      | (with_reducible exact LeO.refl _)
      | (with_reducible exact LeO.none _)
      | (with_reducible refine LeO.ite ?_ ?_)
      | (with_reducible refine LeO.bind ?_ (fun _ => ?_))
      | exact ih0 _ _
      | exact ih1 _ _ _
      | exact LeO.none _
      | refine LeO.ite ?_ ?_
      | refine LeO.bind ?_ (fun _ => ?_)
theorem chantryref01_Unfix.mono : ∀ a0 k, LeO (chantryref01_Unfix.f k a0) (chantryref01_Unfix.f (k + 1) a0) := by
  intro a0 k
  obtain ⟨ih0, ih1⟩ := chantryref01_Unfix.mono_l k
  unfold chantryref01_Unfix.f
  repeat' first
      | (with_reducible exact ih0 _ _)
      | (with_reducible exact ih1 _ _ _)
      | (with_reducible exact LeO.refl _)
      | (with_reducible exact LeO.none _)
      | (with_reducible refine LeO.ite ?_ ?_)
      | (with_reducible refine LeO.bind ?_ (fun _ => ?_))
      | exact ih0 _ _
      | exact ih1 _ _ _
      | exact LeO.none _
      | refine LeO.ite ?_ ?_
      | refine LeO.bind ?_ (fun _ => ?_)
set_option maxHeartbeats 8000000 in
set_option maxRecDepth 100000 in
theorem chantryref01_Unfix.calls (k : Nat) (A0 : Option Addr) (c0 : Nat) (l0 : List Int) (r1 : Int) (r2 : Int) (w : World) (hr0 : Kd.C (Kd.int .u8) w A0 l0.length l0) (hc0 : l0.length ≤ c0) (h : chantryref01_Unfix.f k l0 = some (r1, r2)) :
    Calls Try.prog 43 #[.slice A0 l0.length c0] w fun e w' => e = .returned (.tuple #[.int .i64 r1, .int .i64 r2]) ∧ Drawn0 w w' := by
  have HR0 := Aside0.mk hr0
  have HC0 := Aside0.mk hc0
  clear hr0 hc0
  have H : (if (l0.length : Int) < 1 then (chantryref01_Unfix.j0 k l0 true) else (chantryref01_Unfix.j0 k l0 (decide ((l0.length : Int) > 4)))) = some (r1, r2) := h
  clear h
  have HC2 := Aside0.mk H
  clear H
  go_enter Try.func43, Try.ntmps43
  go_upto_region 1 with (fail)
  go_cut [13] (fun v13 wc => ∃ (kq : Nat) (x13_1 : Bool), v13 = .bool x13_1 ∧ Aside0 (chantryref01_Unfix.j0 kq l0 x13_1 = some (r1, r2)) ∧ Aside0 (kq ≤ k) ∧ Drawn0 w wc)
  case first =>
    have H := HC2.out
    clear HC2
    by_cases c3 : (l0.length : Int) < 1
    · rw [if_pos c3] at H
      have c3b0 : decide ((l0.length : Int) < 1) = true := decide_eq_true c3
      have c3b1 : decide (l0.length < 1) = true := decide_eq_true (by omega)
      clear c3
      (first | rw [c3b0] | (simp only [i64_w, i32_w]; rw [c3b0]) | skip)
      have H' := Aside0.mk H
      clear H
      go_wp2
      go_meet
      case rel => exact ⟨_, (true), (by first | rfl | (simp; done) | (simp [*]; done)), H', ⟨by first | omega | exact Nat.le_refl _⟩, by repeat (first | exact Drawn0.refl _ | apply Drawn0.step)⟩
    · rw [if_neg c3] at H
      have c3b0 : decide ((l0.length : Int) < 1) = false := decide_eq_false c3
      have c3b1 : decide (l0.length < 1) = false := decide_eq_false (by omega)
      clear c3
      (first | rw [c3b0] | (simp only [i64_w, i32_w]; rw [c3b0]) | skip)
      have H' := Aside0.mk H
      clear H
      go_wp2
      go_meet
      case rel => exact ⟨_, (decide ((l0.length : Int) > 4)), (by first | rfl | (simp; done) | (simp [*]; done)), H', ⟨by first | omega | exact Nat.le_refl _⟩, by repeat (first | exact Drawn0.refl _ | apply Drawn0.step)⟩
  case rest =>
    clear HC2
    try clear p2
    try clear c3
    try clear c3b0
    try clear c3b1
    obtain ⟨kq, x13_1, rfl, HA, HJ1, ⟨mc1, rfl⟩⟩ := hcut
    cases kq with
    | zero => exact absurd HA.out (by simp [chantryref01_Unfix.j0])
    | succ kj1 =>
      have H := HA.out
      clear HA
      simp only [chantryref01_Unfix.j0] at H
      by_cases c4 : x13_1 = true
      · subst c4
        have H1 : (some (0, 1)) = some (r1, r2) := by rw [if_pos rfl] at H; exact H
        clear H
        have H := H1
        clear H1
        simp only [Option.some.injEq, Prod.mk.injEq] at H
        obtain ⟨rfl, rfl⟩ := H
        go_wp2
        go_ret2
        exact ⟨by first | rfl | (simp; done) | (simp [*]; done), by repeat (first | exact Drawn0.refl _ | apply Drawn0.step)⟩
      · replace c4 := Bool.eq_false_iff.mpr c4
        subst c4
        have H1 : (chantryref01_Unfix.l0 kj1 l0 0 (wrap64 ((l0.length : Int) - 1))) = some (r1, r2) := by rw [if_neg (show ¬ (false = true) by decide)] at H; exact H
        clear H
        have H := H1
        clear H1
        have H' := Aside0.mk H
        clear H
        go_wp2
        go_loopg [4, 5] kj1 (fun kq v4 v5 w' => ∃ (x4_2 : Int) (x5_2 : Int), v4 = .int .i64 x4_2 ∧ v5 = .int .i64 x5_2 ∧ Aside0 (chantryref01_Unfix.l0 kq l0 x4_2 x5_2 = some (r1, r2)) ∧ Aside0 (kq ≤ kj1) ∧ Drawn0 w w')
        case atStart => exact ⟨(0), (wrap64 ((l0.length : Int) - 1)), (by first | rfl | (simp; done) | (simp [*]; done)), (by first | rfl | (simp; done) | (simp [*]; done)), H', ⟨Nat.le_refl _⟩, by repeat (first | exact Drawn0.refl _ | apply Drawn0.step)⟩
        case round =>
          clear H'
          try clear c1
          try clear p2
          try clear c3
          try clear c3b0
          try clear c3b1
          try clear c4
          try clear p2
          obtain ⟨x4_2, x5_2, rfl, rfl, HA, HK2, ⟨m2, rfl⟩⟩ := hrel
          cases gk with
          | zero => exact absurd HA.out (by simp [chantryref01_Unfix.l0])
          | succ k2 =>
            have H := HA.out
            clear HA
            simp only [chantryref01_Unfix.l0] at H
            by_cases c5 : x5_2 ≥ 0
            · rw [if_pos c5] at H
              have c5b0 : decide (0 ≤ x5_2) = true := decide_eq_true c5
              clear c5
              by_cases c6 : 0 ≤ x5_2
              · rw [if_pos c6] at H
                have c6b0 : decide (0 ≤ x5_2) = true := decide_eq_true c6
                clear c6
                by_cases c7 : x5_2 < (l0.length : Int)
                · rw [if_pos c7] at H
                  have c7b0 : decide (x5_2 < (l0.length : Int)) = true := decide_eq_true c7
                  clear c7
                  have H' := Aside0.mk H
                  clear H
                  have p280 : 0 ≤ (x5_2 : Int) := of_decide_eq_true (by first | (with_reducible assumption) | assumption)
                  have q280 : x5_2 < (l0.length : Int) := of_decide_eq_true (by first | (with_reducible assumption) | assumption)
                  obtain ⟨ad280, e280, hx280_0⟩ := Kd.at_int HR0.out x5_2 p280 q280
                  cases e280
                  replace p280 := eq_true p280
                  replace q280 := eq_true q280
                  go_wp2
                  go_roundg k2
                  case measure => have := HJ1.out; have := HK2.out; omega
                  case rel => exact ⟨(wrap64 ((wrap64 (256 * x4_2)) + (wrap64 (rd l0 x5_2)))), (wrap64 (x5_2 - 1)), (by first | rfl | (simp; done) | (simp [*]; done)), (by first | rfl | (simp; done) | (simp [*]; done)), H', ⟨by have := HJ1.out; have := HK2.out; omega⟩, by repeat (first | exact Drawn0.refl _ | apply Drawn0.step)⟩
                · rw [if_neg c7] at H
                  exact absurd H (by simp)
              · rw [if_neg c6] at H
                exact absurd H (by simp)
            · rw [if_neg c5] at H
              have c5b0 : decide (0 ≤ x5_2) = false := decide_eq_false c5
              clear c5
              by_cases c8 : x4_2 > 2147483647
              · rw [if_pos c8] at H
                have c8b0 : decide (2147483647 < x4_2) = true := decide_eq_true c8
                clear c8
                simp only [Option.some.injEq, Prod.mk.injEq] at H
                obtain ⟨rfl, rfl⟩ := H
                go_wp2
                go_ret2
                exact ⟨by first | rfl | (simp; done) | (simp [*]; done), by repeat (first | exact Drawn0.refl _ | apply Drawn0.step)⟩
              · rw [if_neg c8] at H
                have c8b0 : decide (2147483647 < x4_2) = false := decide_eq_false c8
                clear c8
                simp only [Option.some.injEq, Prod.mk.injEq] at H
                obtain ⟨rfl, rfl⟩ := H
                go_wp2
                go_ret2
                exact ⟨by first | rfl | (simp; done) | (simp [*]; done), by repeat (first | exact Drawn0.refl _ | apply Drawn0.step)⟩
end Go.Proofs.Ytopfjmeejpamjaa.PCellGets
end
section
namespace Go.Proofs.Ytopfjmeejpamjaa
set_option linter.unusedVariables false
set_option linter.unusedSimpArgs false
open Go.RowKit Go.Proofs.YtopfjmeejpamjaaW.PrintWords Go.Proofs.YtopfjmeejpamjaaW.PrintLast Go.Proofs.YtopfjmeejpamjaaW.PrintMore
namespace Cell
open Go.Num Go.Crc PCellGets
theorem wid (z : Int) (h0 : -9223372036854775808 ≤ z) (h1 : z ≤ 9223372036854775807) : wrap64 z = z := by
  unfold wrap64
  omega
theorem is_plain (n : Int) : num_is.f n = some (decide (0 ≤ n ∧ n ≤ 2147483647)) := by
  unfold num_is.f
  by_cases h : n ≥ 0
  · rw [if_pos h]
    congr 1
    simp [h]
  · rw [if_neg h]
    congr 1
    simp
    omega
theorem xfix_yes (k : Nat) (n : Int) (w : Nat) (hw : 1 ≤ w ∧ w ≤ 4) (hn : 0 ≤ n ∧ n ≤ 2147483647) : chantryref01_Fix.j0 (k + 7) n w false = some (if 256 ^ w ≤ n then ([], 1) else (leB n w, 0)) := by
  have d1 : ∀ m : Int, 0 ≤ m → Int.tdiv m 256 = m / 256 := fun m h => Int.tdiv_eq_ediv_of_nonneg h
  have m1 : ∀ m : Int, 0 ≤ m → Int.tmod m 256 % 256 = m % 256 := fun m h => by rw [Int.tmod_eq_emod_of_nonneg h]; omega
  have e1 := d1 n (by omega)
  have e2 := d1 (n / 256) (by omega)
  have e3 := d1 (n / 256 / 256) (by omega)
  have e4 := d1 (n / 256 / 256 / 256) (by omega)
  have f1 := m1 n (by omega)
  have f2 := m1 (n / 256) (by omega)
  have f3 := m1 (n / 256 / 256) (by omega)
  have f4 := m1 (n / 256 / 256 / 256) (by omega)
  have g1 : wrap64 (n / 256) = n / 256 := wid _ (by omega) (by omega)
  have g2 : wrap64 (n / 256 / 256) = n / 256 / 256 := wid _ (by omega) (by omega)
  have g3 : wrap64 (n / 256 / 256 / 256) = n / 256 / 256 / 256 := wid _ (by omega) (by omega)
  have g4 : wrap64 (n / 256 / 256 / 256 / 256) = n / 256 / 256 / 256 / 256 := wid _ (by omega) (by omega)
  have v1 : wrap64 1 = 1 := wid _ (by omega) (by omega)
  have v2 : wrap64 2 = 2 := wid _ (by omega) (by omega)
  have v3 : wrap64 3 = 3 := wid _ (by omega) (by omega)
  have v4 : wrap64 4 = 4 := wid _ (by omega) (by omega)
  rcases (show w = 1 ∨ w = 2 ∨ w = 3 ∨ w = 4 by omega) with rfl | rfl | rfl | rfl
  all_goals
    simp only [chantryref01_Fix.j0, chantryref01_Fix.l0, e1, e2, e3, e4, f1, f2, f3, f4, g1, g2, g3, g4, leB]
    simp [v1, v2, v3, v4, e1, e2, e3, e4, f1, f2, f3, f4, g1, g2, g3, g4]
    split <;> first | rfl | (split <;> first | rfl | omega)
theorem xfix_no (k : Nat) (n w : Int) : chantryref01_Fix.j0 (k + 1) n w true = some ([], 1) := by
  simp only [chantryref01_Fix.j0]
  rfl
theorem xfix_plain (k : Nat) (n w : Int) : chantryref01_Fix.f (k + 7) n w = some (fixP n w) := by
  unfold chantryref01_Fix.f fixP
  by_cases h1 : w < 1
  · rw [if_pos h1, if_pos (.inl h1)]
    exact xfix_no _ _ _
  rw [if_neg h1]
  by_cases h4 : w > 4
  · rw [if_pos h4, if_pos (.inr (.inl h4))]
    exact xfix_no _ _ _
  rw [if_neg h4]
  by_cases h0 : n < 0
  · rw [if_pos h0, if_pos (by omega)]
    exact xfix_no _ _ _
  rw [if_neg h0]
  by_cases hm : n > 2147483647
  · rw [decide_eq_true hm, if_pos (by omega)]
    exact xfix_no _ _ _
  rw [decide_eq_false hm]
  obtain ⟨v, rfl⟩ : ∃ v : Nat, w = v := ⟨w.toNat, by omega⟩
  rw [xfix_yes k n v (by omega) (by omega), Int.toNat_natCast]
  congr 1
  by_cases hb : (256 : Int) ^ v ≤ n
  · rw [if_pos hb, if_pos (by omega)]
  · rw [if_neg hb, if_neg (by omega)]
theorem xunfix_yes (k : Nat) (l : List Int) (h : ∀ x ∈ l, 0 ≤ x ∧ x ≤ 255) (hl : 1 ≤ l.length ∧ l.length ≤ 4) : chantryref01_Unfix.j0 (k + 7) l false = some (if 2147483647 < unB l then (0, 5) else (unB l, 0)) := by
  match l, hl with
  | [a], _ =>
    have ha := h a (by simp)
    simp [chantryref01_Unfix.j0, chantryref01_Unfix.l0, unB, rd, wid]
    try simp only [wid a (by omega) (by omega)]
    split <;> first | rfl | (split <;> first | rfl | omega)
  | [a, b], _ =>
    have ha := h a (by simp); have hb := h b (by simp)
    simp [chantryref01_Unfix.j0, chantryref01_Unfix.l0, unB, rd, wid]
    simp only [wid b (by omega) (by omega), wid (256 * b) (by omega) (by omega), wid a (by omega) (by omega), wid (256 * b + a) (by omega) (by omega)]
    rw [show 256 * b + a = a + 256 * b by omega]
    split <;> first | rfl | (split <;> first | rfl | omega)
  | [a, b, c], _ =>
    have ha := h a (by simp); have hb := h b (by simp); have hc := h c (by simp)
    simp [chantryref01_Unfix.j0, chantryref01_Unfix.l0, unB, rd, wid]
    simp only [wid c (by omega) (by omega), wid (256 * c) (by omega) (by omega), wid b (by omega) (by omega), wid (256 * c + b) (by omega) (by omega), wid (256 * (256 * c + b)) (by omega) (by omega), wid a (by omega) (by omega), wid (256 * (256 * c + b) + a) (by omega) (by omega)]
    rw [show 256 * (256 * c + b) + a = a + 256 * (b + 256 * c) by omega]
    split <;> first | rfl | (split <;> first | rfl | omega)
  | [a, b, c, d], _ =>
    have ha := h a (by simp); have hb := h b (by simp); have hc := h c (by simp); have hd := h d (by simp)
    simp [chantryref01_Unfix.j0, chantryref01_Unfix.l0, unB, rd, wid]
    simp only [wid d (by omega) (by omega), wid (256 * d) (by omega) (by omega), wid c (by omega) (by omega), wid (256 * d + c) (by omega) (by omega), wid (256 * (256 * d + c)) (by omega) (by omega), wid b (by omega) (by omega), wid (256 * (256 * d + c) + b) (by omega) (by omega), wid (256 * (256 * (256 * d + c) + b)) (by omega) (by omega), wid a (by omega) (by omega), wid (256 * (256 * (256 * d + c) + b) + a) (by omega) (by omega)]
    rw [show 256 * (256 * (256 * d + c) + b) + a = a + 256 * (b + 256 * (c + 256 * d)) by omega]
    split <;> first | rfl | (split <;> first | rfl | omega)
theorem xunfix_plain (k : Nat) (l : List Int) (h : ∀ x ∈ l, 0 ≤ x ∧ x ≤ 255) : chantryref01_Unfix.f (k + 7) l = some (unfixP l) := by
  unfold chantryref01_Unfix.f unfixP
  have hno : chantryref01_Unfix.j0 (k + 7) l true = some (0, 1) := by simp only [chantryref01_Unfix.j0]; rfl
  by_cases h1 : l.length < 1
  · rw [if_pos (by omega), if_pos (.inl h1), hno]
  rw [if_neg (by omega)]
  by_cases h4 : 4 < l.length
  · rw [decide_eq_true (by omega), if_pos (.inr h4), hno]
  · rw [decide_eq_false (by omega), if_neg (by omega)]
    exact xunfix_yes k l h (by omega)
theorem or_low (x y : Int) (k : Nat) (hk : k ≤ 32) (hx : 0 ≤ x ∧ x < 2 ^ k) (hy : 0 ≤ y ∧ y ≤ 255) : Go.bits .or .i64 x (shl .i64 y (k : Int)) = x + y * 2 ^ k := by
  obtain ⟨n, rfl⟩ := Int.eq_ofNat_of_zero_le hx.1
  obtain ⟨m, rfl⟩ := Int.eq_ofNat_of_zero_le hy.1
  have hn : n < 2 ^ k := by have := hx.2; exact_mod_cast this
  have h40 : m * 2 ^ k < 2 ^ 40 := by
    have h1 : m * 2 ^ k ≤ 255 * 2 ^ k := Nat.mul_le_mul_right _ (by omega)
    have h2 : (2 : Nat) ^ k ≤ 2 ^ 32 := Nat.pow_le_pow_right (by omega) hk
    omega
  have hn40 : n < 2 ^ 40 := Nat.lt_of_lt_of_le hn (Nat.pow_le_pow_right (by omega) (by omega))
  have hs : shl .i64 (m : Int) (k : Int) = ((m * 2 ^ k : Nat) : Int) := by
    unfold shl
    rw [Int.toNat_natCast, Nat.min_eq_left (show k ≤ IntKind.bits .i64 by show k ≤ 64; omega)]
    rw [show (m : Int) * 2 ^ k = ((m * 2 ^ k : Nat) : Int) by simp]
    exact IntWalk.i64_in _ (by omega)
  rw [hs]
  unfold Go.bits
  simp only
  show IntKind.wrap .i64 ((BitVec.ofInt 64 (n : Int) ||| BitVec.ofInt 64 ((m * 2 ^ k : Nat) : Int)).toNat : Int) = _
  rw [BitVec.toNat_or, BitVec.ofInt_natCast, BitVec.ofInt_natCast, BitVec.toNat_ofNat, BitVec.toNat_ofNat, Nat.mod_eq_of_lt (by omega), Nat.mod_eq_of_lt (by omega)]
  have ho : n ||| m * 2 ^ k = m * 2 ^ k + n := by rw [Nat.or_comm, Nat.mul_comm, Nat.two_pow_add_eq_or_of_lt hn]
  rw [ho]
  rw [show ((m * 2 ^ k + n : Nat) : Int) = (n : Int) + (m : Int) * 2 ^ k by simp; omega]
  refine IntWalk.i64_in _ ?_
  have : (m : Int) * 2 ^ k = ((m * 2 ^ k : Nat) : Int) := by simp
  rw [this]
  omega
end Cell
end Go.Proofs.Ytopfjmeejpamjaa
end
section
namespace Go.Proofs.Ytopfjmeejpamjaa
set_option linter.unusedVariables false
set_option linter.unusedSimpArgs false
open Go.RowKit Go.Proofs.YtopfjmeejpamjaaW.PrintWords Go.Proofs.YtopfjmeejpamjaaW.PrintLast Go.Proofs.YtopfjmeejpamjaaW.PrintMore
namespace Cell
open Go.Num Go.Crc PCellGets
theorem bits_xor32 (x y : Int) : Go.bits .xor .u32 x y = ((b32 x ^^^ b32 y).toNat : Int) := by
  unfold Go.bits
  simp only
  show IntKind.wrap .u32 ((BitVec.ofInt 32 x ^^^ BitVec.ofInt 32 y).toNat : Int) = _
  have h := (b32 x ^^^ b32 y).isLt
  rw [IntKind.wrap_u32]
  show ((b32 x ^^^ b32 y).toNat : Int) % 4294967296 = _
  omega
theorem bits_and32 (x y : Int) : Go.bits .and .u32 x y = ((b32 x &&& b32 y).toNat : Int) := by
  unfold Go.bits
  simp only
  show IntKind.wrap .u32 ((BitVec.ofInt 32 x &&& BitVec.ofInt 32 y).toNat : Int) = _
  have h := (b32 x &&& b32 y).isLt
  rw [IntKind.wrap_u32]
  show ((b32 x &&& b32 y).toNat : Int) % 4294967296 = _
  omega
theorem lsb_odd (c : BitVec 32) : c.getLsbD 0 = decide (c.toNat % 2 = 1) := by
  rw [BitVec.getLsbD, Nat.testBit_zero]
theorem half_nat (c : BitVec 32) : (Int.tdiv (c.toNat : Int) 2) % (4294967296 : Int) = ((c >>> 1).toNat : Int) := by
  have h := c.isLt
  rw [Int.tdiv_eq_ediv_of_nonneg (by omega), BitVec.toNat_ushiftRight, Nat.shiftRight_eq_div_pow]
  omega
theorem bit_step (c : BitVec 32) : (if Int.tmod (c.toNat : Int) 2 = 1 then Go.bits .xor .u32 ((Int.tdiv (c.toNat : Int) 2) % 4294967296) 2197175160 else (Int.tdiv (c.toNat : Int) 2) % 4294967296) = ((Go.Crc.step c).toNat : Int) := by
  unfold Go.Crc.step
  rw [lsb_odd, half_nat, Int.tmod_eq_emod_of_nonneg (by omega)]
  by_cases h : c.toNat % 2 = 1
  · rw [if_pos (by omega), if_pos (by simpa using h), bits_xor32, b32_toInt]
    rfl
  · rw [if_neg (by omega), if_neg (by simpa using h), BitVec.xor_zero]
theorem more_in (l : List Int) (i : Int) : ∀ (j : Nat) (c : BitVec 32) (k : Nat), j ≤ 8 → chantryref02_More.l1 (k + j + 1) l (c.toNat : Int) i ((8 - j : Nat) : Int) = chantryref02_More.l0 k l ((steps j c).toNat : Int) (wrap64 (i + 1))
  | 0, c, k, _ => by
    simp only [chantryref02_More.l1]
    rw [if_neg (by omega)]
    rfl
  | j + 1, c, k, h => by
    rw [show k + (j + 1) + 1 = (k + j + 1) + 1 by omega]
    simp only [chantryref02_More.l1]
    rw [if_pos (by omega), wid _ (by omega) (by omega), show ((8 - (j + 1) : Nat) : Int) + 1 = ((8 - j : Nat) : Int) by omega]
    have hb := bit_step c
    have ih := more_in l i j (Go.Crc.step c) k (by omega)
    by_cases ho : Int.tmod (c.toNat : Int) 2 = 1
    · rw [if_pos ho] at hb ⊢
      rw [hb]
      exact ih
    · rw [if_neg ho] at hb ⊢
      rw [hb]
      exact ih
theorem more_out (l : List Int) (hb : ∀ x ∈ l, 0 ≤ x ∧ x ≤ 255) (hl : l.length ≤ 1000000) : ∀ (d i : Nat) (c : BitVec 32) (k : Nat), i + d = l.length → chantryref02_More.l0 (k + 11 * d + 1) l (c.toNat : Int) (i : Int) = some (((run c (l.drop i) ^^^ ones).toNat : Int))
  | 0, i, c, k, h => by
    simp only [chantryref02_More.l0]
    rw [if_neg (by omega), List.drop_eq_nil_of_le (by omega), bits_xor32, b32_toInt]
    rfl
  | d + 1, i, c, k, h => by
    have hi : i < l.length := by omega
    have hx := hb l[i] (List.getElem_mem hi)
    have hrd : rd l (i : Int) = l[i] := by unfold rd; rw [Int.toNat_natCast, List.getD_eq_getElem?_getD, List.getElem?_eq_getElem hi]; rfl
    rw [show k + 11 * (d + 1) + 1 = (k + 11 * d + 1 + 1 + 8 + 1) + 1 by omega]
    simp only [chantryref02_More.l0]
    rw [if_pos (by omega), if_pos (by omega), hrd, bits_xor32, b32_toInt, show l[i] % 4294967296 = l[i] by omega]
    have hin := more_in l (i : Int) 8 (c ^^^ b32 l[i]) (k + 11 * d + 1 + 1) (by omega)
    rw [show k + 11 * d + 1 + 1 + 8 + 1 = k + 11 * d + 1 + 1 + 8 + 1 from rfl] at hin
    rw [show ((8 - 8 : Nat) : Int) = 0 from rfl] at hin
    rw [hin, wid _ (by omega) (by omega), show (i : Int) + 1 = ((i + 1 : Nat) : Int) by omega]
    rw [show k + 11 * d + 1 + 1 = (k + 1) + 11 * d + 1 by omega, more_out l hb hl d (i + 1) _ (k + 1) (by omega)]
    rw [List.drop_eq_getElem_cons hi]
    rfl
theorem xmore_plain (k : Nat) (l : List Int) (hb : ∀ x ∈ l, 0 ≤ x ∧ x ≤ 255) (hl : l.length ≤ 1000000) : chantryref02_More.f (k + 11 * l.length + 1) 0 l = some (sum l) := by
  unfold chantryref02_More.f
  rw [bits_xor32]
  have := more_out l hb hl l.length 0 (b32 0 ^^^ b32 4294967295) k (by omega)
  rw [List.drop_zero] at this
  exact this
theorem xsum_plain (k : Nat) (l : List Int) (hb : ∀ x ∈ l, 0 ≤ x ∧ x ≤ 255) (hl : l.length ≤ 1000000) : chantryref02_Sum.f (k + 11 * l.length + 1) l = some (sum l) := by
  unfold chantryref02_Sum.f
  rw [xmore_plain k l hb hl]
  rfl
def sealB (l : List Int) : List Int := l ++ leB (sum l) 4
theorem xseal_plain (k : Nat) (l : List Int) (hb : ∀ x ∈ l, 0 ≤ x ∧ x ≤ 255) (hl : l.length ≤ 1000000) : chantryref02_Seal.f (k + 11 * l.length + 1) l = some (sealB l) := by
  unfold chantryref02_Seal.f
  rw [xsum_plain k l hb hl]
  have hs := sum_range l
  generalize hS : sum l = S at hs
  simp only [Option.bind_some, List.nil_append]
  rw [if_pos (by simp; omega), if_pos (by simp; omega)]
  unfold sealB
  rw [hS]
  congr 2
  simp only [leB]
  rw [Int.tmod_eq_emod_of_nonneg hs.1, Int.tdiv_eq_ediv_of_nonneg hs.1, Int.tdiv_eq_ediv_of_nonneg hs.1, Int.tdiv_eq_ediv_of_nonneg hs.1]
  simp only [List.cons.injEq, and_true]
  refine ⟨by omega, by omega, by omega, by omega⟩
theorem seal_len (l : List Int) : (sealB l).length = l.length + 4 := by unfold sealB; rw [List.length_append, leB_len]
theorem seal_byte {l : List Int} (hb : ∀ x ∈ l, 0 ≤ x ∧ x ≤ 255) : ∀ x ∈ sealB l, 0 ≤ x ∧ x ≤ 255 := by
  intro x hx
  rcases List.mem_append.1 hx with h | h
  · exact hb x h
  · exact leB_byte _ _ x h
theorem or_lit (x y : Int) (k : Nat) (hk : k ≤ 32) (hx : 0 ≤ x ∧ x < 2 ^ k) (hy : 0 ≤ y ∧ y ≤ 255) (z : Int) (hz : z = (k : Int)) : Go.bits .or .i64 x (shl .i64 y z) = x + y * 2 ^ k := by subst hz; exact or_low x y k hk hx hy
theorem unfix_yes (k : Nat) (l : List Int) (h : ∀ x ∈ l, 0 ≤ x ∧ x ≤ 255) (hl : 1 ≤ l.length ∧ l.length ≤ 4) : num_Unfix.j0 (k + 7) l false = some (if 2147483647 < unB l then (0, 5) else (unB l, 0)) := by
  have fin : ∀ x : Int, 0 ≤ x → ((num_is.f x).bind fun t149 => if t149 = true then some (x, (0 : Int)) else some (0, 5)) = some (if 2147483647 < x then (0, 5) else (x, 0)) := fun x hx => by
    rw [is_plain]
    show (if decide (0 ≤ x ∧ x ≤ 2147483647) = true then some (x, (0 : Int)) else some (0, 5)) = _
    by_cases hh : 2147483647 < x
    · rw [if_pos hh, if_neg (by simp; omega)]
    · rw [if_neg hh, if_pos (by simp; omega)]
  match l, hl with
  | [a], _ =>
    have ha := h a (by simp)
    simp [num_Unfix.j0, num_Unfix.l0, unB, rd, wid]
    simp only [wid a (by omega) (by omega)]
    rw [or_lit 0 a 0 (by omega) (by omega) ha 0 rfl]
    rw [show (0 : Int) + a * 2 ^ 0 = a by omega]
    exact fin _ (by omega)
  | [a, b], _ =>
    have ha := h a (by simp); have hb := h b (by simp)
    simp [num_Unfix.j0, num_Unfix.l0, unB, rd, wid]
    simp only [wid a (by omega) (by omega), wid b (by omega) (by omega)]
    rw [or_lit 0 a 0 (by omega) (by omega) ha 0 rfl, or_lit _ b 8 (by omega) (by omega) hb 8 rfl]
    rw [show (0 : Int) + a * 2 ^ 0 + b * 2 ^ 8 = a + 256 * b by omega]
    exact fin _ (by omega)
  | [a, b, c], _ =>
    have ha := h a (by simp); have hb := h b (by simp); have hc := h c (by simp)
    simp [num_Unfix.j0, num_Unfix.l0, unB, rd, wid]
    simp only [wid a (by omega) (by omega), wid b (by omega) (by omega), wid c (by omega) (by omega)]
    rw [or_lit 0 a 0 (by omega) (by omega) ha 0 rfl, or_lit _ b 8 (by omega) (by omega) hb 8 rfl, or_lit _ c 16 (by omega) (by omega) hc 16 rfl]
    rw [show (0 : Int) + a * 2 ^ 0 + b * 2 ^ 8 + c * 2 ^ 16 = a + 256 * (b + 256 * c) by omega]
    exact fin _ (by omega)
  | [a, b, c, d], _ =>
    have ha := h a (by simp); have hb := h b (by simp); have hc := h c (by simp); have hd := h d (by simp)
    simp [num_Unfix.j0, num_Unfix.l0, unB, rd, wid]
    simp only [wid a (by omega) (by omega), wid b (by omega) (by omega), wid c (by omega) (by omega), wid d (by omega) (by omega)]
    rw [or_lit 0 a 0 (by omega) (by omega) ha 0 rfl, or_lit _ b 8 (by omega) (by omega) hb 8 rfl, or_lit _ c 16 (by omega) (by omega) hc 16 rfl, or_lit _ d 24 (by omega) (by omega) hd 24 rfl]
    rw [show (0 : Int) + a * 2 ^ 0 + b * 2 ^ 8 + c * 2 ^ 16 + d * 2 ^ 24 = a + 256 * (b + 256 * (c + 256 * d)) by omega]
    exact fin _ (by omega)
theorem unfix_plain (k : Nat) (l : List Int) (h : ∀ x ∈ l, 0 ≤ x ∧ x ≤ 255) : num_Unfix.f (k + 7) l = some (unfixP l) := by
  unfold num_Unfix.f unfixP
  have hno : num_Unfix.j0 (k + 7) l true = some (0, 1) := by simp only [num_Unfix.j0]; rfl
  by_cases h1 : l.length < 1
  · rw [if_pos (by omega), if_pos (.inl h1), hno]
  rw [if_neg (by omega)]
  by_cases h4 : 4 < l.length
  · rw [decide_eq_true (by omega), if_pos (.inr h4), hno]
  · rw [decide_eq_false (by omega), if_neg (by omega)]
    exact unfix_yes k l h (by omega)
theorem equal_l (a b : List Int) (hl : a.length = b.length) (hm : a.length ≤ 1000000) : ∀ (d i k : Nat), i + d = a.length → a.take i = b.take i → slices_Equal_byte_byte.l0 (k + d + 1) a b (a.length : Int) (i : Int) = some (decide (a = b))
  | 0, i, k, h, he => by
    simp only [slices_Equal_byte_byte.l0]
    rw [if_neg (by omega)]
    have : a = b := by rw [List.take_of_length_le (by omega), List.take_of_length_le (by omega)] at he; exact he
    rw [decide_eq_true this]
  | d + 1, i, k, h, he => by
    have hi : i < a.length := by omega
    have hj : i < b.length := by omega
    have ra : rd a (i : Int) = a[i] := by unfold rd; rw [Int.toNat_natCast, List.getD_eq_getElem?_getD, List.getElem?_eq_getElem hi]; rfl
    have rb : rd b (i : Int) = b[i] := by unfold rd; rw [Int.toNat_natCast, List.getD_eq_getElem?_getD, List.getElem?_eq_getElem hj]; rfl
    rw [show k + (d + 1) + 1 = (k + d + 1) + 1 by omega]
    simp only [slices_Equal_byte_byte.l0]
    rw [if_pos (by omega), if_pos (by omega), if_pos (by omega), if_pos (by omega), ra, rb]
    by_cases hx : a[i] = b[i]
    · rw [if_pos hx, wid _ (by omega) (by omega), show (i : Int) + 1 = ((i + 1 : Nat) : Int) by omega]
      exact equal_l a b hl hm d (i + 1) k (by omega) (by rw [List.take_succ_eq_append_getElem hi, List.take_succ_eq_append_getElem hj, he, hx])
    · rw [if_neg hx, decide_eq_false (fun e => hx (by subst e; rfl))]
theorem equal_plain (a b : List Int) (k : Nat) (hm : a.length ≤ 1000000) : slices_Equal_byte_byte.f (k + a.length + 1) a b = some (decide (a = b)) := by
  unfold slices_Equal_byte_byte.f
  by_cases hl : a.length = b.length
  · rw [if_pos (by omega)]
    exact equal_l a b hl hm a.length 0 k (by omega) rfl
  · rw [if_neg (by omega), decide_eq_false (fun e => hl (by rw [e]))]
end Cell
end Go.Proofs.Ytopfjmeejpamjaa
end
section
namespace Go.Proofs.Ytopfjmeejpamjaa
set_option linter.unusedVariables false
set_option linter.unusedSimpArgs false
open Go.RowKit Go.Proofs.YtopfjmeejpamjaaW.PrintWords Go.Proofs.YtopfjmeejpamjaaW.PrintLast Go.Proofs.YtopfjmeejpamjaaW.PrintMore
namespace Cell
open Go.Num Go.Crc PCellGets
def bytesN (n : Int) : List Int := [n % 256, n / 256 % 256, n / 65536 % 256, n / 16777216 % 256]
theorem leB1_eq (n : Int) : leB n 1 = [n % 256] := rfl
theorem leB2_eq (n : Int) : leB n 2 = [n % 256, n / 256 % 256] := rfl
theorem leB4_eq (n : Int) : leB n 4 = [n % 256, n / 256 % 256, n / 65536 % 256, n / 16777216 % 256] := by
  simp only [leB, List.cons.injEq, and_true, true_and]
  exact ⟨by omega, by omega⟩
theorem infoU8 : (Try.prog.info? 5).map (fun i => (i.zero, i.size, i.bytes)) = some (some (.int .u8 0), 1, 1) := by kernel_rfl
theorem cell_blk {w : World} {b k t : Nat} {cs : Array Value} (h : w.heap[b]? = some (.cells cs t (0, 0))) : w.cell? ⟨b, k, none⟩ = cs[k]? := blk_cell h k
theorem frozen_blk {w : World} {b k t : Nat} {cs : Array Value} (h : w.heap[b]? = some (.cells cs t (0, 0))) : w.frozen? ⟨b, k, none⟩ = false := blk_frozen h k
theorem row_at {w : World} {base : Nat} {ok : Nat → Prop} {A : Option Addr} {l c : Nat} {xs : List Int} (h : Kd.R (Kd.int .u8) 5 w base ok (.slice A l c) xs) : Kd.C (Kd.int .u8) w A xs.length xs := (Kd.R_reads' h).2.2
theorem row_of {w : World} {base g cap : Nat} {ok : Nat → Prop} {xs : List Int} {sp : List Value} (hb : w.heap[g]? = some (.cells (xs.map (Value.int .u8) ++ sp).toArray 5 (0, 0))) (hbase : base ≤ g) (hok : ok g) (hc : xs.length + sp.length = cap) (hm : cap ≤ 9223372036854775807) : Kd.R (Kd.int .u8) 5 w base ok (.slice (some ⟨g, 0, none⟩) xs.length cap) xs := by
  refine Kd.R_of_own (enc := Value.int .u8) ?_ (fun k hk => ?_)
  · refine ⟨by simp [encs], .inr ⟨g, cap, _, rfl, hbase, hb, by omega, hm, by simp; omega, ?_⟩⟩
    simp [encs]
  · obtain rfl : g = k := by simpa [Value.ownBlock] using hk
    exact hok
theorem make8 (m : Nat) (hm : m ≤ 1000000) (W : World) : (Instr.makeSlice 26 (.int .i64 (m : Int)) (.int .i64 (m : Int))).run Try.prog W = .ok (.slice (some ⟨W.heap.size, 0, none⟩) m m) (W.alloc (.cells (madeCells #[.int .u8 0] m) 5)) :=
  print_make 26 5 .u8 1 Try.underlying26 infoU8 (by decide) m (by omega) W
theorem made8 (m : Nat) : madeCells #[.int .u8 0] m = ((List.replicate m (0 : Int)).map (Value.int .u8)).toArray := by
  apply Array.ext
  · rw [size_madeCells]; simp
  · intro i h1 h2
    rw [size_madeCells] at h1
    simp [madeCells, Nat.mod_one]
set_option maxHeartbeats 8000000 in
set_option maxRecDepth 100000 in
theorem fix1_any (n : Int) (w : World) (hn : -9223372036854775808 ≤ n ∧ n ≤ 9223372036854775807) :
    Calls Try.prog 27 #[.int .i64 n, .int .i64 1] w fun e w' => ∃ v, e = .returned (.tuple #[v, .int .i64 (fixP n 1).2]) ∧ Kd.R (Kd.int .u8) 5 w' w.heap.size (fun _ => True) v (fixP n 1).1 ∧ Below w.heap.size w w' := by
  by_cases h0 : 0 ≤ n ∧ n ≤ 2147483647
  · by_cases hL : n < 256
    · have hf : fixP n 1 = (leB n 1, 0) := by unfold fixP; rw [if_neg (by rw [show (256 : Int) ^ ((1 : Int)).toNat = 256 from by decide]; omega)]; rfl
      rw [hf]
      have hmk : ∀ W : World, (Instr.makeSlice 26 (.int .i64 1) (.int .i64 1)).run Try.prog W = .ok (.slice (some ⟨W.heap.size, 0, none⟩) 1 1) (W.alloc (.cells #[.int .u8 0] 5)) := fun W => by
        have := make8 1 (by omega) W
        rw [made8] at this
        exact this
      have hq : n / 256 = 0 := Int.ediv_eq_zero_of_lt h0.1 hL
      have HN := Aside0.mk h0
      have EL := Aside0.mk (show n % 256 = n by omega)
      obtain ⟨hn0, hn1⟩ := h0
      clear hf hn
      go_enter Try.func27, Try.ntmps27
      go_wp2_with fail
      refine (num_is.calls n true w (by rw [is_plain, decide_eq_true HN.out])).mono ?_
      rintro e w1 ⟨rfl, hd⟩
      have HB1 := Aside0.mk hd.below
      clear hd
      go_wp2_with fail
      obtain ⟨w2, hw2⟩ : ∃ w2, w2 = w1.alloc (.cells #[.int .u8 0] 5) := ⟨_, rfl⟩
      have hb2 : Below w.heap.size w w2 := by rw [hw2]; exact HB1.out.alloc HB1.out.size _
      have hc2 : w2.heap[w1.heap.size]? = some (.cells #[.int .u8 0] 5 (0, 0)) := by rw [hw2]; exact heap_alloc_new w1 _
      rw [← hw2]
      obtain ⟨g, hg⟩ : ∃ g, g = w1.heap.size := ⟨_, rfl⟩
      rw [← hg] at hc2 ⊢
      have HG := Aside0.mk (show w.heap.size ≤ g by rw [hg]; exact HB1.out.size)
      have HB2 := Aside0.mk hb2
      have HC2 := Aside0.mk hc2
      clear hw2 hb2 hc2 hg
      go_loopg [30, 7] 1 (fun gk v30 v7 wr => ∃ (i : Nat), Aside0 (i + gk = 1) ∧ v30 = .int .i64 i ∧ Aside0 (wr.heap[g]? = some (.cells (((bytesN n).take i ++ List.replicate (1 - i) 0).map (Value.int .u8)).toArray 5 (0, 0))) ∧ Aside0 (Below w.heap.size w wr))
      case atStart => exact ⟨0, ⟨by omega⟩, rfl, HC2, HB2⟩
      case round =>
        clear HC2 HB2
        obtain ⟨i, HI, rfl, HX, HB⟩ := hrel
        rcases (show i = 0 ∨ i = 1 by have := HI.out; omega) with rfl | rfl
        · have c0 : wr.cell? ⟨g, 0, none⟩ = some (.int .u8 0) := by rw [cell_blk HX.out]; rfl
          have f0 : wr.frozen? ⟨g, 0, none⟩ = false := frozen_blk HX.out
          go_wp2_with fail
          go_roundg (1 - 1)
          case measure => have := HI.out; omega
          case rel => exact ⟨1, ⟨by have := HI.out; omega⟩, by go_num, ⟨by rw [blk_set HX.out]; first | rfl | simp [bytesN, EL.out]⟩, ⟨HB.out.setCell (p := ⟨g, 0, none⟩) HG.out _⟩⟩
        · go_wp2_with fail
          go_ret2
          refine ⟨_, rfl, ?_, HB.out⟩
          rw [leB1_eq]
          exact row_of (xs := [n % 256]) (sp := []) (by rw [HX.out]; rfl) HG.out trivial rfl (by omega)
    · have hf : fixP n 1 = ([], 1) := by unfold fixP; rw [if_pos (by rw [show (256 : Int) ^ ((1 : Int)).toNat = 256 from by decide]; omega)]
      rw [hf]
      have hq : 0 < n / 256 := by omega
      have HN := Aside0.mk h0
      obtain ⟨hn0, hn1⟩ := h0
      clear hf hn
      go_enter Try.func27, Try.ntmps27
      go_wp2_with fail
      refine (num_is.calls n true w (by rw [is_plain, decide_eq_true HN.out])).mono ?_
      rintro e w1 ⟨rfl, hd⟩
      have HB1 := Aside0.mk hd.below
      clear hd
      go_wp2_with fail
      go_ret2
      exact ⟨_, rfl, Kd.R_nil _ _ _ _ _, HB1.out⟩
  · have hf : fixP n 1 = ([], 1) := by unfold fixP; rw [if_pos (by omega)]
    rw [hf]
    have HN := Aside0.mk h0
    clear hf h0
    go_enter Try.func27, Try.ntmps27
    go_wp2_with fail
    refine (num_is.calls n false w (by rw [is_plain, decide_eq_false HN.out])).mono ?_
    rintro e w1 ⟨rfl, hd⟩
    have HB1 := Aside0.mk hd.below
    clear hd
    go_wp2_with fail
    go_ret2
    exact ⟨_, rfl, Kd.R_nil _ _ _ _ _, HB1.out⟩
set_option maxHeartbeats 8000000 in
set_option maxRecDepth 100000 in
theorem fix2_any (n : Int) (w : World) (hn : -9223372036854775808 ≤ n ∧ n ≤ 9223372036854775807) :
    Calls Try.prog 27 #[.int .i64 n, .int .i64 2] w fun e w' => ∃ v, e = .returned (.tuple #[v, .int .i64 (fixP n 2).2]) ∧ Kd.R (Kd.int .u8) 5 w' w.heap.size (fun _ => True) v (fixP n 2).1 ∧ Below w.heap.size w w' := by
  by_cases h0 : 0 ≤ n ∧ n ≤ 2147483647
  · by_cases hL : n < 65536
    · have hf : fixP n 2 = (leB n 2, 0) := by unfold fixP; rw [if_neg (by rw [show (256 : Int) ^ ((2 : Int)).toNat = 65536 from by decide]; omega)]; rfl
      rw [hf]
      have hmk : ∀ W : World, (Instr.makeSlice 26 (.int .i64 2) (.int .i64 2)).run Try.prog W = .ok (.slice (some ⟨W.heap.size, 0, none⟩) 2 2) (W.alloc (.cells #[.int .u8 0, .int .u8 0] 5)) := fun W => by
        have := make8 2 (by omega) W
        rw [made8] at this
        exact this
      have hq : n / 65536 = 0 := Int.ediv_eq_zero_of_lt h0.1 hL
      have HN := Aside0.mk h0
      have EL := Aside0.mk (show n / 256 % 256 = n / 256 by omega)
      obtain ⟨hn0, hn1⟩ := h0
      clear hf hn
      go_enter Try.func27, Try.ntmps27
      go_wp2_with fail
      refine (num_is.calls n true w (by rw [is_plain, decide_eq_true HN.out])).mono ?_
      rintro e w1 ⟨rfl, hd⟩
      have HB1 := Aside0.mk hd.below
      clear hd
      go_wp2_with fail
      obtain ⟨w2, hw2⟩ : ∃ w2, w2 = w1.alloc (.cells #[.int .u8 0, .int .u8 0] 5) := ⟨_, rfl⟩
      have hb2 : Below w.heap.size w w2 := by rw [hw2]; exact HB1.out.alloc HB1.out.size _
      have hc2 : w2.heap[w1.heap.size]? = some (.cells #[.int .u8 0, .int .u8 0] 5 (0, 0)) := by rw [hw2]; exact heap_alloc_new w1 _
      rw [← hw2]
      obtain ⟨g, hg⟩ : ∃ g, g = w1.heap.size := ⟨_, rfl⟩
      rw [← hg] at hc2 ⊢
      have HG := Aside0.mk (show w.heap.size ≤ g by rw [hg]; exact HB1.out.size)
      have HB2 := Aside0.mk hb2
      have HC2 := Aside0.mk hc2
      clear hw2 hb2 hc2 hg
      go_loopg [30, 7] 2 (fun gk v30 v7 wr => ∃ (i : Nat), Aside0 (i + gk = 2) ∧ v30 = .int .i64 i ∧ Aside0 (wr.heap[g]? = some (.cells (((bytesN n).take i ++ List.replicate (2 - i) 0).map (Value.int .u8)).toArray 5 (0, 0))) ∧ Aside0 (Below w.heap.size w wr))
      case atStart => exact ⟨0, ⟨by omega⟩, rfl, HC2, HB2⟩
      case round =>
        clear HC2 HB2
        obtain ⟨i, HI, rfl, HX, HB⟩ := hrel
        rcases (show i = 0 ∨ i = 1 ∨ i = 2 by have := HI.out; omega) with rfl | rfl | rfl
        · have c0 : wr.cell? ⟨g, 0, none⟩ = some (.int .u8 0) := by rw [cell_blk HX.out]; rfl
          have f0 : wr.frozen? ⟨g, 0, none⟩ = false := frozen_blk HX.out
          go_wp2_with fail
          go_roundg (2 - 1)
          case measure => have := HI.out; omega
          case rel => exact ⟨1, ⟨by have := HI.out; omega⟩, by go_num, ⟨by rw [blk_set HX.out]; first | rfl | simp [bytesN, EL.out]⟩, ⟨HB.out.setCell (p := ⟨g, 0, none⟩) HG.out _⟩⟩
        · have c0 : wr.cell? ⟨g, 1, none⟩ = some (.int .u8 0) := by rw [cell_blk HX.out]; rfl
          have f0 : wr.frozen? ⟨g, 1, none⟩ = false := frozen_blk HX.out
          go_wp2_with fail
          go_roundg (2 - 2)
          case measure => have := HI.out; omega
          case rel => exact ⟨2, ⟨by have := HI.out; omega⟩, by go_num, ⟨by rw [blk_set HX.out]; first | rfl | simp [bytesN, EL.out]⟩, ⟨HB.out.setCell (p := ⟨g, 1, none⟩) HG.out _⟩⟩
        · go_wp2_with fail
          go_ret2
          refine ⟨_, rfl, ?_, HB.out⟩
          rw [leB2_eq]
          exact row_of (xs := [n % 256, n / 256 % 256]) (sp := []) (by rw [HX.out]; rfl) HG.out trivial rfl (by omega)
    · have hf : fixP n 2 = ([], 1) := by unfold fixP; rw [if_pos (by rw [show (256 : Int) ^ ((2 : Int)).toNat = 65536 from by decide]; omega)]
      rw [hf]
      have hq : 0 < n / 65536 := by omega
      have HN := Aside0.mk h0
      obtain ⟨hn0, hn1⟩ := h0
      clear hf hn
      go_enter Try.func27, Try.ntmps27
      go_wp2_with fail
      refine (num_is.calls n true w (by rw [is_plain, decide_eq_true HN.out])).mono ?_
      rintro e w1 ⟨rfl, hd⟩
      have HB1 := Aside0.mk hd.below
      clear hd
      go_wp2_with fail
      go_ret2
      exact ⟨_, rfl, Kd.R_nil _ _ _ _ _, HB1.out⟩
  · have hf : fixP n 2 = ([], 1) := by unfold fixP; rw [if_pos (by omega)]
    rw [hf]
    have HN := Aside0.mk h0
    clear hf h0
    go_enter Try.func27, Try.ntmps27
    go_wp2_with fail
    refine (num_is.calls n false w (by rw [is_plain, decide_eq_false HN.out])).mono ?_
    rintro e w1 ⟨rfl, hd⟩
    have HB1 := Aside0.mk hd.below
    clear hd
    go_wp2_with fail
    go_ret2
    exact ⟨_, rfl, Kd.R_nil _ _ _ _ _, HB1.out⟩
set_option maxHeartbeats 8000000 in
set_option maxRecDepth 100000 in
theorem fix4_any (n : Int) (w : World) (hn : -9223372036854775808 ≤ n ∧ n ≤ 9223372036854775807) :
    Calls Try.prog 27 #[.int .i64 n, .int .i64 4] w fun e w' => ∃ v, e = .returned (.tuple #[v, .int .i64 (fixP n 4).2]) ∧ Kd.R (Kd.int .u8) 5 w' w.heap.size (fun _ => True) v (fixP n 4).1 ∧ Below w.heap.size w w' := by
  by_cases h0 : 0 ≤ n ∧ n ≤ 2147483647
  · by_cases hL : n < 4294967296
    · have hf : fixP n 4 = (leB n 4, 0) := by unfold fixP; rw [if_neg (by rw [show (256 : Int) ^ ((4 : Int)).toNat = 4294967296 from by decide]; omega)]; rfl
      rw [hf]
      have hmk : ∀ W : World, (Instr.makeSlice 26 (.int .i64 4) (.int .i64 4)).run Try.prog W = .ok (.slice (some ⟨W.heap.size, 0, none⟩) 4 4) (W.alloc (.cells #[.int .u8 0, .int .u8 0, .int .u8 0, .int .u8 0] 5)) := fun W => by
        have := make8 4 (by omega) W
        rw [made8] at this
        exact this
      have hq : n / 4294967296 = 0 := Int.ediv_eq_zero_of_lt h0.1 hL
      have HN := Aside0.mk h0
      have EL := Aside0.mk (show n / 16777216 % 256 = n / 16777216 by omega)
      obtain ⟨hn0, hn1⟩ := h0
      clear hf hn
      go_enter Try.func27, Try.ntmps27
      go_wp2_with fail
      refine (num_is.calls n true w (by rw [is_plain, decide_eq_true HN.out])).mono ?_
      rintro e w1 ⟨rfl, hd⟩
      have HB1 := Aside0.mk hd.below
      clear hd
      go_wp2_with fail
      obtain ⟨w2, hw2⟩ : ∃ w2, w2 = w1.alloc (.cells #[.int .u8 0, .int .u8 0, .int .u8 0, .int .u8 0] 5) := ⟨_, rfl⟩
      have hb2 : Below w.heap.size w w2 := by rw [hw2]; exact HB1.out.alloc HB1.out.size _
      have hc2 : w2.heap[w1.heap.size]? = some (.cells #[.int .u8 0, .int .u8 0, .int .u8 0, .int .u8 0] 5 (0, 0)) := by rw [hw2]; exact heap_alloc_new w1 _
      rw [← hw2]
      obtain ⟨g, hg⟩ : ∃ g, g = w1.heap.size := ⟨_, rfl⟩
      rw [← hg] at hc2 ⊢
      have HG := Aside0.mk (show w.heap.size ≤ g by rw [hg]; exact HB1.out.size)
      have HB2 := Aside0.mk hb2
      have HC2 := Aside0.mk hc2
      clear hw2 hb2 hc2 hg
      go_loopg [30, 7] 4 (fun gk v30 v7 wr => ∃ (i : Nat), Aside0 (i + gk = 4) ∧ v30 = .int .i64 i ∧ Aside0 (wr.heap[g]? = some (.cells (((bytesN n).take i ++ List.replicate (4 - i) 0).map (Value.int .u8)).toArray 5 (0, 0))) ∧ Aside0 (Below w.heap.size w wr))
      case atStart => exact ⟨0, ⟨by omega⟩, rfl, HC2, HB2⟩
      case round =>
        clear HC2 HB2
        obtain ⟨i, HI, rfl, HX, HB⟩ := hrel
        rcases (show i = 0 ∨ i = 1 ∨ i = 2 ∨ i = 3 ∨ i = 4 by have := HI.out; omega) with rfl | rfl | rfl | rfl | rfl
        · have c0 : wr.cell? ⟨g, 0, none⟩ = some (.int .u8 0) := by rw [cell_blk HX.out]; rfl
          have f0 : wr.frozen? ⟨g, 0, none⟩ = false := frozen_blk HX.out
          go_wp2_with fail
          go_roundg (4 - 1)
          case measure => have := HI.out; omega
          case rel => exact ⟨1, ⟨by have := HI.out; omega⟩, by go_num, ⟨by rw [blk_set HX.out]; first | rfl | simp [bytesN, EL.out]⟩, ⟨HB.out.setCell (p := ⟨g, 0, none⟩) HG.out _⟩⟩
        · have c0 : wr.cell? ⟨g, 1, none⟩ = some (.int .u8 0) := by rw [cell_blk HX.out]; rfl
          have f0 : wr.frozen? ⟨g, 1, none⟩ = false := frozen_blk HX.out
          go_wp2_with fail
          go_roundg (4 - 2)
          case measure => have := HI.out; omega
          case rel => exact ⟨2, ⟨by have := HI.out; omega⟩, by go_num, ⟨by rw [blk_set HX.out]; first | rfl | simp [bytesN, EL.out]⟩, ⟨HB.out.setCell (p := ⟨g, 1, none⟩) HG.out _⟩⟩
        · have c0 : wr.cell? ⟨g, 2, none⟩ = some (.int .u8 0) := by rw [cell_blk HX.out]; rfl
          have f0 : wr.frozen? ⟨g, 2, none⟩ = false := frozen_blk HX.out
          go_wp2_with fail
          go_roundg (4 - 3)
          case measure => have := HI.out; omega
          case rel => exact ⟨3, ⟨by have := HI.out; omega⟩, by go_num, ⟨by rw [blk_set HX.out]; first | rfl | simp [bytesN, EL.out]⟩, ⟨HB.out.setCell (p := ⟨g, 2, none⟩) HG.out _⟩⟩
        · have c0 : wr.cell? ⟨g, 3, none⟩ = some (.int .u8 0) := by rw [cell_blk HX.out]; rfl
          have f0 : wr.frozen? ⟨g, 3, none⟩ = false := frozen_blk HX.out
          go_wp2_with fail
          go_roundg (4 - 4)
          case measure => have := HI.out; omega
          case rel => exact ⟨4, ⟨by have := HI.out; omega⟩, by go_num, ⟨by rw [blk_set HX.out]; first | rfl | simp [bytesN, EL.out]⟩, ⟨HB.out.setCell (p := ⟨g, 3, none⟩) HG.out _⟩⟩
        · go_wp2_with fail
          go_ret2
          refine ⟨_, rfl, ?_, HB.out⟩
          rw [leB4_eq]
          exact row_of (xs := [n % 256, n / 256 % 256, n / 65536 % 256, n / 16777216 % 256]) (sp := []) (by rw [HX.out]; rfl) HG.out trivial rfl (by omega)
    · have hf : fixP n 4 = ([], 1) := by unfold fixP; rw [if_pos (by rw [show (256 : Int) ^ ((4 : Int)).toNat = 4294967296 from by decide]; omega)]
      rw [hf]
      have hq : 0 < n / 4294967296 := by omega
      have HN := Aside0.mk h0
      obtain ⟨hn0, hn1⟩ := h0
      clear hf hn
      go_enter Try.func27, Try.ntmps27
      go_wp2_with fail
      refine (num_is.calls n true w (by rw [is_plain, decide_eq_true HN.out])).mono ?_
      rintro e w1 ⟨rfl, hd⟩
      have HB1 := Aside0.mk hd.below
      clear hd
      go_wp2_with fail
      go_ret2
      exact ⟨_, rfl, Kd.R_nil _ _ _ _ _, HB1.out⟩
  · have hf : fixP n 4 = ([], 1) := by unfold fixP; rw [if_pos (by omega)]
    rw [hf]
    have HN := Aside0.mk h0
    clear hf h0
    go_enter Try.func27, Try.ntmps27
    go_wp2_with fail
    refine (num_is.calls n false w (by rw [is_plain, decide_eq_false HN.out])).mono ?_
    rintro e w1 ⟨rfl, hd⟩
    have HB1 := Aside0.mk hd.below
    clear hd
    go_wp2_with fail
    go_ret2
    exact ⟨_, rfl, Kd.R_nil _ _ _ _ _, HB1.out⟩
end Cell
end Go.Proofs.Ytopfjmeejpamjaa
end
section
namespace Go.Proofs.Ytopfjmeejpamjaa
set_option linter.unusedVariables false
set_option linter.unusedSimpArgs false
open Go.RowKit Go.Proofs.YtopfjmeejpamjaaW.PrintWords Go.Proofs.YtopfjmeejpamjaaW.PrintLast Go.Proofs.YtopfjmeejpamjaaW.PrintMore
namespace Cell
open Go.Num Go.Crc PCellGets
theorem and_one (d : Nat) (hd : d < 4294967296) : Go.bits .and .u32 (d : Int) 1 = ((d % 2 : Nat) : Int) := by
  rw [bits_and32, BitVec.toNat_and, b32_nat d hd]
  show ((d &&& 1 : Nat) : Int) = _
  rw [Nat.and_one_is_mod]
theorem pstep (d : Nat) (hd : d < 4294967296) : Go.bits .xor .u32 ((d : Int) / 2) (Go.bits .and .u32 2197175160 (-Go.bits .and .u32 (d : Int) 1 % 4294967296)) = ((Go.Crc.step (BitVec.ofNat 32 d)).toNat : Int) := by
  rw [and_one d hd, bits_xor32]
  congr 2
  unfold Go.Crc.step
  rw [lsb_odd, BitVec.toNat_ofNat, Nat.mod_eq_of_lt hd]
  have hh : b32 ((d : Int) / 2) = BitVec.ofNat 32 d >>> 1 := by
    rw [show (d : Int) / 2 = ((d / 2 : Nat) : Int) by omega]
    apply BitVec.eq_of_toNat_eq
    rw [b32_nat _ (by omega), BitVec.toNat_ushiftRight, BitVec.toNat_ofNat, Nat.mod_eq_of_lt hd, Nat.shiftRight_eq_div_pow]
  rw [hh]
  congr 1
  by_cases h : d % 2 = 1
  · rw [if_pos (by simpa using h), show (-((d % 2 : Nat) : Int)) % 4294967296 = 4294967295 by omega]
    decide
  · rw [if_neg (by simpa using h), show (-((d % 2 : Nat) : Int)) % 4294967296 = 0 by omega]
    decide
theorem steps_succ (j : Nat) (c : BitVec 32) : steps (j + 1) c = Go.Crc.step (steps j c) := by rw [steps_add]; rfl
theorem of_toNat (c : BitVec 32) : BitVec.ofNat 32 c.toNat = c := by simp
theorem rd_byte {l : List Int} (hb : ∀ x ∈ l, 0 ≤ x ∧ x ≤ 255) (i : Nat) : 0 ≤ rd l (i : Int) ∧ rd l (i : Int) ≤ 255 := by
  unfold rd
  rw [Int.toNat_natCast, List.getD_eq_getElem?_getD]
  by_cases hi : i < l.length
  · rw [List.getElem?_eq_getElem hi]; exact hb _ (List.getElem_mem hi)
  · rw [List.getElem?_eq_none (by omega)]; exact ⟨by decide, by decide⟩
theorem rd_get {l : List Int} (i : Nat) (hi : i < l.length) : rd l (i : Int) = l[i] := by
  unfold rd
  rw [Int.toNat_natCast, List.getD_eq_getElem?_getD, List.getElem?_eq_getElem hi]
  rfl
set_option maxHeartbeats 8000000 in
set_option maxRecDepth 100000 in
theorem more_any (s : Int) (A : Option Addr) (cc : Nat) (l : List Int) (w : World) (hC : Kd.C (Kd.int .u8) w A l.length l) (hb : ∀ x ∈ l, 0 ≤ x ∧ x ≤ 255) (hs : 0 ≤ s ∧ s < 4294967296) (hl : l.length ≤ 1000000) :
    Calls Try.prog 96 #[.int .u32 s, .slice A l.length cc] w fun e w' => e = .returned (.int .u32 (more s l)) ∧ w' = w := by
  have HC := Aside0.mk hC
  have HBY := Aside0.mk hb
  have HMR := Aside0.mk (show more s l = Go.bits .xor .u32 IntKind.u32.max ((run (b32 s ^^^ ones) l).toNat : Int) by
    rw [bits_xor32, b32_toInt, BitVec.xor_comm]
    rfl)
  have HST := Aside0.mk (show Go.bits .xor .u32 IntKind.u32.max s = ((b32 s ^^^ ones).toNat : Int) by
    rw [bits_xor32, BitVec.xor_comm]
    rfl)
  clear hC hb
  obtain ⟨hs0, hs1⟩ := hs
  go_enter Try.func96, Try.ntmps96
  go_wp2_with fail
  go_loopg [12, 7, 5] l.length (fun g v12 v7 v5 wr => ∃ (i : Nat) (c : Nat), Aside0 (i + g = l.length) ∧ v12 = .int .i64 i ∧ v5 = .int .u32 c ∧ Aside0 (c = (run (b32 s ^^^ ones) (l.take i)).toNat) ∧ Aside0 (wr = w))
  case atStart => exact ⟨0, (b32 s ^^^ ones).toNat, ⟨by omega⟩, rfl, by rw [HST.out], ⟨rfl⟩, ⟨rfl⟩⟩
  case round =>
    obtain ⟨i, c, HI, rfl, rfl, HCC, HW⟩ := hrel
    have hlt : c < 4294967296 := by rw [HCC.out]; exact (run (b32 s ^^^ ones) (l.take i)).isLt
    by_cases hi : i < l.length
    · obtain ⟨ad, rfl, hcell⟩ := Kd.at_int HC.out (i : Int) (by omega) (by omega)
      rw [← HW.out, Int.toNat_natCast] at hcell
      have HRN := Aside0.mk (show run (b32 s ^^^ ones) (l.take (i + 1)) = steps 8 (run (b32 s ^^^ ones) (l.take i) ^^^ b32 (rd l (i : Int))) by
        rw [List.take_succ_eq_append_getElem hi, run_append, rd_get i hi]
        rfl)
      have hxb := rd_byte HBY.out i
      obtain ⟨x, hx⟩ : ∃ x, x = rd l (i : Int) := ⟨_, rfl⟩
      rw [← hx] at hcell hxb HRN
      obtain ⟨hx0, hx1⟩ := hxb
      clear hx
      have HXO := Aside0.mk (show Go.bits .xor .u32 (c : Int) x = ((run (b32 s ^^^ ones) (l.take i) ^^^ b32 x).toNat : Int) by
        rw [bits_xor32, HCC.out, b32_toInt])
      go_wp2_with fail
      go_loopg [20, 5] 8 (fun g v20 v5 wq => ∃ (j : Nat) (d : Nat), Aside0 (j + g = 8) ∧ v20 = .int .i64 j ∧ v5 = .int .u32 d ∧ d < 4294967296 ∧ Aside0 (d = (steps j (run (b32 s ^^^ ones) (l.take i) ^^^ b32 x)).toNat) ∧ Aside0 (wq = w))
      case atStart => exact ⟨0, (run (b32 s ^^^ ones) (l.take i) ^^^ b32 x).toNat, ⟨by omega⟩, rfl, by rw [HXO.out], (run (b32 s ^^^ ones) (l.take i) ^^^ b32 x).isLt, ⟨rfl⟩, HW⟩
      case round =>
        obtain ⟨j, d, HJ, rfl, rfl, hd, HD, HW2⟩ := hrel
        by_cases hj : j < 8
        · have HPS := Aside0.mk (pstep d hd)
          have HNX := Aside0.mk (show BitVec.ofNat 32 d = steps j (run (b32 s ^^^ ones) (l.take i) ^^^ b32 x) by rw [HD.out, of_toNat])
          go_wp2_with fail
          go_roundg (8 - (j + 1))
          case measure => have := HJ.out; omega
          case rel => exact ⟨j + 1, (Go.Crc.step (BitVec.ofNat 32 d)).toNat, ⟨by have := HJ.out; omega⟩, by go_num, by rw [HPS.out], (Go.Crc.step (BitVec.ofNat 32 d)).isLt, ⟨by rw [HNX.out, steps_succ]⟩, HW2⟩
        · have hj8 : j = 8 := by have := HJ.out; omega
          subst hj8
          go_wp2_with fail
          go_roundg (l.length - (i + 1))
          case measure => have := HI.out; omega
          case rel => exact ⟨i + 1, d, ⟨by have := HI.out; omega⟩, by go_num, rfl, ⟨by rw [HRN.out]; exact HD.out⟩, HW2⟩
    · have hin : i = l.length := by have := HI.out; omega
      subst hin
      rw [List.take_length] at HCC
      go_wp2_with fail
      go_ret
      exact ⟨by rw [HMR.out, ← HCC.out]; rfl, HW.out⟩
set_option maxRecDepth 100000 in
theorem sum_any (A : Option Addr) (cc : Nat) (l : List Int) (w : World) (hC : Kd.C (Kd.int .u8) w A l.length l) (hb : ∀ x ∈ l, 0 ≤ x ∧ x ≤ 255) (hl : l.length ≤ 1000000) :
    Calls Try.prog 90 #[.slice A l.length cc] w fun e w' => e = .returned (.int .u32 (Crc.sum l)) ∧ w' = w := by
  have HM := Aside0.mk (more_any 0 A cc l w hC hb ⟨by decide, by decide⟩ hl)
  clear hC hb
  go_enter Try.func90, Try.ntmps90
  go_wp2_with fail
  refine HM.out.mono ?_
  rintro e w1 ⟨rfl, rfl⟩
  go_wp2_with fail
  go_ret
  exact ⟨rfl, rfl⟩
set_option maxHeartbeats 8000000 in
set_option maxRecDepth 100000 in
theorem grow_any (n : Nat) (w : World) (h0 : 0 < n) (hn : n ≤ 1000000) :
    Calls Try.prog 95 #[.slice none 0 0, .int .i64 n] w fun e w' => ∃ v, e = .returned v ∧ Kd.R (Kd.int .u8) 5 w' w.heap.size (fun _ => True) v [] ∧ Below w.heap.size w w' := by
  obtain ⟨i0, hi0, hzz⟩ := Option.map_eq_some_iff.1 infoU8
  simp only [Prod.mk.injEq] at hzz
  obtain ⟨hz0, hz1, hz2⟩ := hzz
  have hrz : ∀ ty, (Builtin.append_ #[26, 3] ty #[.slice none 0 0, .int .i64 (n : Int)]).run Try.prog w =
      .ok (.slice (some ⟨w.heap.size, 0, none⟩) n (grownCap w n 0 5)) (w.drew.alloc (.cells ((#[] : Array Value) ++ Builtin.zeroCells (Value.int .u8 0).cells n ++ Builtin.zeroCells (Value.int .u8 0).cells (grownCap w n 0 5 - n)) 5)) := fun ty => by
    have h := Lib.run_append_grow_zeros w 26 3 ty 5 i0 (.int .u8 0) .i64 .i64 Try.underlying26 Try.underlying3 hi0 hz0 none 0 0 [] (by rw [hz1]; exact run_firstCells_none w.drew 1 0 0 0) n (by omega) (by omega) (by omega) (by omega) (by rw [hz2]; omega)
      (by rw [hz2]; exact growslice_fits (by omega) (by omega))
    rw [Nat.zero_add] at h
    exact h
  have hGn : n ≤ grownCap w n 0 5 := grownCap_ge w _ _ _
  have hG63 : grownCap w n 0 5 ≤ 9223372036854775807 := by
    have := grownCap_le_maxLen w n 0 5 (by unfold maxLen; omega)
    unfold maxLen at this
    omega
  obtain ⟨G, hG⟩ : ∃ G, G = grownCap w n 0 5 := ⟨_, rfl⟩
  rw [← hG] at hrz hGn hG63
  obtain ⟨Z, hZ⟩ : ∃ Z, Z = (#[] : Array Value) ++ Builtin.zeroCells (Value.int .u8 0).cells n ++ Builtin.zeroCells (Value.int .u8 0).cells (G - n) := ⟨_, rfl⟩
  have HZ := Aside0.mk (show Z.size = G by rw [hZ]; simp [Builtin.zeroCells, Value.cells]; omega)
  rw [← hZ] at hrz
  have HR := Aside0.mk hrz
  have hn0 : (n : Int) > 0 := by omega
  clear hrz hG hZ hi0 hz0 hz1 hz2
  go_enter Try.func95, Try.ntmps95
  go_wp2_with (at_builtin; refine Lib.wpList_append_run _ rfl _ _ _ _ rfl _ _ rfl rfl _ _ (HR.out _) ?_)
  all_goals
    go_ret
    obtain ⟨w2, hw2⟩ : ∃ w2, w2 = w.drew.alloc (.cells Z 5) := ⟨_, rfl⟩
    have hx : w2.heap[w.heap.size]? = some (.cells Z 5 (0, 0)) := by rw [hw2]; exact heap_alloc_new w.drew _
    have hb : Below w.heap.size w w2 := by rw [hw2]; exact (below_drew1 (Below.refl _ _)).alloc (Nat.le_refl _) _
    refine ⟨.slice (some ⟨w.heap.size, 0, none⟩) 0 G, rfl, ?_, ?_⟩
    · have := row_of (w := w2) (base := w.heap.size) (g := w.heap.size) (cap := G) (ok := fun _ => True) (xs := []) (sp := Z.toList) (by rw [hx]; simp) (Nat.le_refl _) trivial (by have := HZ.out; simp; omega) hG63
      rw [hw2] at this
      exact this
    · rw [hw2] at hb
      exact hb
def sz2 (n1 n2 : Nat) (i : Nat) : Nat := match i with
  | 0 => 0
  | 1 => n1
  | _ => n1 + n2
def ct2 (xs ys : List Int) (i : Nat) : List Int := match i with
  | 0 => []
  | 1 => xs
  | _ => xs ++ ys
set_option maxHeartbeats 8000000 in
set_option maxRecDepth 100000 in
theorem concat_any {w : World} (g : Nat) (A B : Option Addr) (ca cb : Nat) (xs ys : List Int) (hg : g < w.heap.size) (h0 : w.cell? ⟨g, 0, none⟩ = some (.slice A xs.length ca)) (h1 : w.cell? ⟨g, 1, none⟩ = some (.slice B ys.length cb)) (hA : Kd.C (Kd.int .u8) w A xs.length xs) (hB : Kd.C (Kd.int .u8) w B ys.length ys) (hy : 0 < ys.length) (hm : xs.length + ys.length ≤ 1000000) :
    Calls Try.prog 88 #[.slice (some ⟨g, 0, none⟩) 2 2] w fun e w' => ∃ v, e = .returned v ∧ Kd.R (Kd.int .u8) 5 w' w.heap.size (fun _ => True) v (xs ++ ys) ∧ Below w.heap.size w w' := by
  have HA := Aside0.mk hA
  have HB := Aside0.mk hB
  clear hA hB
  go_enter Try.func88, Try.ntmps88
  go_wp2_with fail
  go_loopg [11, 3, 5] 2 (fun gk v11 v3 v5 wr => ∃ i : Nat, Aside0 (i + gk = 2) ∧ v11 = .int .i64 i ∧ v3 = .int .i64 (sz2 xs.length ys.length i) ∧ Aside0 (wr = w))
  case atStart => exact ⟨0, ⟨by omega⟩, rfl, rfl, ⟨rfl⟩⟩
  case round =>
    obtain ⟨i, HI, rfl, rfl, HW⟩ := hrel
    have h0' : wr.cell? ⟨g, 0, none⟩ = some (.slice A xs.length ca) := by rw [HW.out]; exact h0
    have h1' : wr.cell? ⟨g, 1, none⟩ = some (.slice B ys.length cb) := by rw [HW.out]; exact h1
    rcases (show i = 0 ∨ i = 1 ∨ i = 2 by have := HI.out; omega) with rfl | rfl | rfl
    · rw [show sz2 xs.length ys.length 0 = 0 from rfl]
      go_wp2_with fail
      go_roundg 1
      case measure => have := HI.out; omega
      case rel => exact ⟨1, ⟨by omega⟩, by go_num, by rw [show sz2 xs.length ys.length 1 = xs.length from rfl], HW⟩
    · rw [show sz2 xs.length ys.length 1 = xs.length from rfl]
      go_wp2_with fail
      go_roundg 0
      case measure => have := HI.out; omega
      case rel => exact ⟨2, ⟨by omega⟩, by go_num, by rw [show sz2 xs.length ys.length 2 = xs.length + ys.length from rfl]; go_num, HW⟩
    · rw [show sz2 xs.length ys.length 2 = xs.length + ys.length from rfl]
      clear h0' h1'
      go_wp2_with fail
      have hgr := grow_any (xs.length + ys.length) wr (by omega) hm
      rw [Int.natCast_add] at hgr
      refine hgr.mono ?_
      rintro e w2 ⟨v2, rfl, hr2, b2⟩
      clear hgr
      rw [HW.out] at hr2 b2
      obtain ⟨A2, c2, rfl⟩ := Kd.R_slice hr2
      have HR2 := Aside0.mk hr2
      have HB2 := Aside0.mk b2
      clear hr2 b2 HW
      rw [List.length_nil]
      go_wp2_with fail
      obtain ⟨wo, rfl⟩ : ∃ wo : World, wo = wr := ⟨_, rfl⟩
      go_loopg [27, 8, 6] 2 (fun gk v27 v8 v6 wr => ∃ (i : Nat) (A' : Option Addr) (c' : Nat), Aside0 (i + gk = 2) ∧ v27 = .int .i64 i ∧ v6 = .slice A' (ct2 xs ys i).length c' ∧ Aside0 (Kd.R (Kd.int .u8) 5 wr w.heap.size (fun _ => True) (.slice A' (ct2 xs ys i).length c') (ct2 xs ys i)) ∧ Aside0 (Below w.heap.size w wr))
      case atStart => exact ⟨0, A2, c2, ⟨by omega⟩, rfl, rfl, HR2, HB2⟩
      case round =>
        clear HR2 HB2
        obtain ⟨i, A', c', HI2, rfl, rfl, HR, HBq⟩ := hrel
        have k0 : wr.cell? ⟨g, 0, none⟩ = some (.slice A xs.length ca) := by rw [HBq.out.cell hg]; exact h0
        have k1 : wr.cell? ⟨g, 1, none⟩ = some (.slice B ys.length cb) := by rw [HBq.out.cell hg]; exact h1
        rcases (show i = 0 ∨ i = 1 ∨ i = 2 by have := HI2.out; omega) with rfl | rfl | rfl
        · rw [show ct2 xs ys 0 = [] from rfl] at HR ⊢
          go_wp2_with ((with_reducible refine gate_builtin (b := .append) (xs := #[.tmp 31, .tmp 32]) rfl ?_); at_builtin; refine Hid.out ?_)
          refine Lib.hid ?_
          refine Kd.R_append_rows (Kd.int .u8) (Rr := (Kd.int .u8).K wr) (w0 := w) w.heap.size rfl (.tmp 31) (.tmp 32) 26 5 (.int .u8 0) 1 rfl Try.underlying26 infoU8 rfl (by decide) (by omega) (.slice A' 0 c') [] xs A xs.length ca (fun _ => True) (fun _ => False) rfl rfl HR.out (Kd.C_below HA.out HBq.out) (fun x cs h => h) (fun _ hk => hk.elim) (fun _ _ => trivial) HBq.out HBq.out.size (by simp; omega) ?_
          intro v3 w3 ho hb _ _
          rw [List.nil_append] at ho
          obtain ⟨A3, c3, rfl⟩ := Kd.R_slice ho
          have HO3 := Aside0.mk ho
          have HB3 := Aside0.mk hb
          clear ho hb
          go_wp2_with fail
          go_roundg 1
          case measure => have := HI2.out; omega
          case rel => exact ⟨1, A3, c3, ⟨by omega⟩, by go_num, rfl, HO3, HB3⟩
        · rw [show ct2 xs ys 1 = xs from rfl] at HR ⊢
          go_wp2_with ((with_reducible refine gate_builtin (b := .append) (xs := #[.tmp 31, .tmp 32]) rfl ?_); at_builtin; refine Hid.out ?_)
          refine Lib.hid ?_
          refine Kd.R_append_rows (Kd.int .u8) (Rr := (Kd.int .u8).K wr) (w0 := w) w.heap.size rfl (.tmp 31) (.tmp 32) 26 5 (.int .u8 0) 1 rfl Try.underlying26 infoU8 rfl (by decide) (by omega) (.slice A' xs.length c') xs ys B ys.length cb (fun _ => True) (fun _ => False) rfl rfl HR.out (Kd.C_below HB.out HBq.out) (fun x cs h => h) (fun _ hk => hk.elim) (fun _ _ => trivial) HBq.out HBq.out.size (by omega) ?_
          intro v3 w3 ho hb _ _
          obtain ⟨A3, c3, rfl⟩ := Kd.R_slice ho
          have HO3 := Aside0.mk ho
          have HB3 := Aside0.mk hb
          clear ho hb
          go_wp2_with fail
          go_roundg 0
          case measure => have := HI2.out; omega
          case rel => exact ⟨2, A3, c3, ⟨by omega⟩, by go_num, by rw [show (ct2 xs ys 2).length = xs.length + ys.length from List.length_append], HO3, HB3⟩
        · rw [show ct2 xs ys 2 = xs ++ ys from rfl] at HR ⊢
          clear k0 k1
          go_wp2_with fail
          go_ret
          exact ⟨_, rfl, HR.out, HBq.out⟩
end Cell
end Go.Proofs.Ytopfjmeejpamjaa
end
