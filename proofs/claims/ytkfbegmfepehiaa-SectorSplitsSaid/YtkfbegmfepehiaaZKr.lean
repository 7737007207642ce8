import Derived.Test.YtkfbegmfepehiaaZKq
import Derived.Test.YtkfbegmfepehiaaZQc1
import Derived.Test.YtkfbegmfepehiaaZQc4
import Derived.Test.YtkfbegmfepehiaaZQc7
import Derived.Below
import Derived.Lib.Hide
import Derived.OwnWalk
import Derived.WalkKit
import Derived.KernelRfl
import Derived.RowKit3
import Derived.Deep.LoopGhost
import Derived.Deep.QuietTactic
import Derived.BigQuiet
import Derived.WideLaws
import Derived.Great.BuildSlice
import Derived.Outline
import Derived.Deep.DeepCutAuto
import Derived.WalkSpells
import Derived.RegionTactic
import Derived.BigRegion
import Derived.WalkLawsBesides
import Derived.IntWalk
namespace Go.Proofs.Ytkfbegmfepehiaa
set_option linter.unusedVariables false
set_option linter.unusedSimpArgs false
open Go.RowKit Go.Proofs.YtkfbegmfepehiaaW.PrintWords Go.Proofs.YtkfbegmfepehiaaW.PrintLast Go.Proofs.YtkfbegmfepehiaaW.PrintMore
namespace Cell
open Go.Num Go.Crc PCellGets
theorem wid (z : Int) (h0 : -9223372036854775808 ≤ z) (h1 : z ≤ 9223372036854775807) : wrap64 z = z := by
  unfold wrap64
  omega
theorem is_plain (n : Int) : num_is.f n = some (decide (0 ≤ n ∧ n ≤ 2147483647)) := by
  unfold num_is.f
  by_cases h : n ≥ 0
  · rw [if_pos h]
    congr 1
    simp [h]
  · rw [if_neg h]
    congr 1
    simp
    omega
theorem or_low (x y : Int) (k : Nat) (hk : k ≤ 32) (hx : 0 ≤ x ∧ x < 2 ^ k) (hy : 0 ≤ y ∧ y ≤ 255) : Go.bits .or .i64 x (shl .i64 y (k : Int)) = x + y * 2 ^ k := by
  obtain ⟨n, rfl⟩ := Int.eq_ofNat_of_zero_le hx.1
  obtain ⟨m, rfl⟩ := Int.eq_ofNat_of_zero_le hy.1
  have hn : n < 2 ^ k := by have := hx.2; exact_mod_cast this
  have h40 : m * 2 ^ k < 2 ^ 40 := by
    have h1 : m * 2 ^ k ≤ 255 * 2 ^ k := Nat.mul_le_mul_right _ (by omega)
    have h2 : (2 : Nat) ^ k ≤ 2 ^ 32 := Nat.pow_le_pow_right (by omega) hk
    omega
  have hn40 : n < 2 ^ 40 := Nat.lt_of_lt_of_le hn (Nat.pow_le_pow_right (by omega) (by omega))
  have hs : shl .i64 (m : Int) (k : Int) = ((m * 2 ^ k : Nat) : Int) := by
    unfold shl
    rw [Int.toNat_natCast, Nat.min_eq_left (show k ≤ IntKind.bits .i64 by show k ≤ 64; omega)]
    rw [show (m : Int) * 2 ^ k = ((m * 2 ^ k : Nat) : Int) by simp]
    exact IntWalk.i64_in _ (by omega)
  rw [hs]
  unfold Go.bits
  simp only
  show IntKind.wrap .i64 ((BitVec.ofInt 64 (n : Int) ||| BitVec.ofInt 64 ((m * 2 ^ k : Nat) : Int)).toNat : Int) = _
  rw [BitVec.toNat_or, BitVec.ofInt_natCast, BitVec.ofInt_natCast, BitVec.toNat_ofNat, BitVec.toNat_ofNat, Nat.mod_eq_of_lt (by omega), Nat.mod_eq_of_lt (by omega)]
  have ho : n ||| m * 2 ^ k = m * 2 ^ k + n := by rw [Nat.or_comm, Nat.mul_comm, Nat.two_pow_add_eq_or_of_lt hn]
  rw [ho]
  rw [show ((m * 2 ^ k + n : Nat) : Int) = (n : Int) + (m : Int) * 2 ^ k by simp; omega]
  refine IntWalk.i64_in _ ?_
  have : (m : Int) * 2 ^ k = ((m * 2 ^ k : Nat) : Int) := by simp
  rw [this]
  omega
end Cell
end Go.Proofs.Ytkfbegmfepehiaa
