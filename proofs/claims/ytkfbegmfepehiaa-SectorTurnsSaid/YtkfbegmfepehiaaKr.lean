/- What is printed of numbers and sums is the plain law -/
import Derived.Test.YtkfbegmfepehiaaKq
import Derived.Test.YtkfbegmfepehiaaQc1
import Derived.Test.YtkfbegmfepehiaaQc4
import Derived.Test.YtkfbegmfepehiaaQc7
import Derived.Below
import Derived.Lib.Hide
import Derived.OwnWalk
import Derived.WalkKit
import Derived.KernelRfl
import Derived.RowKit3
import Derived.Deep.LoopGhost
import Derived.Deep.QuietTactic
import Derived.BigQuiet
import Derived.WideLaws
import Derived.Great.BuildSlice
import Derived.Outline
import Derived.Deep.DeepCutAuto
import Derived.WalkSpells
import Derived.RegionTactic
import Derived.BigRegion
import Derived.WalkLawsBesides
import Derived.IntWalk
namespace Go.Proofs.Ytkfbegmfepehiaa
set_option linter.unusedVariables false
set_option linter.unusedSimpArgs false
open Go.RowKit Go.Proofs.YtkfbegmfepehiaaW.PrintWords Go.Proofs.YtkfbegmfepehiaaW.PrintLast Go.Proofs.YtkfbegmfepehiaaW.PrintMore
namespace Cell
open Go.Num Go.Crc PCellGets

theorem wid (z : Int) (h0 : -9223372036854775808 ≤ z) (h1 : z ≤ 9223372036854775807) : wrap64 z = z := by
  unfold wrap64
  omega
theorem shr_lit (n : Int) (k : Nat) (h : k ≤ 64) : shr .i64 n (k : Int) = n / 2 ^ k := by
  unfold shr
  rw [Int.toNat_natCast, Nat.min_eq_left (by show k ≤ 64; omega)]
theorem is_plain (n : Int) : num_is.f n = some (decide (0 ≤ n ∧ n ≤ 2147483647)) := by
  unfold num_is.f
  by_cases h : n ≥ 0
  · rw [if_pos h]
    congr 1
    simp [h]
  · rw [if_neg h]
    congr 1
    simp
    omega
theorem shr0 (n : Int) : shr .i64 n 0 = n := by have := shr_lit n 0 (by omega); simpa using this
theorem shr8 (n : Int) : shr .i64 n 8 = n / 256 := shr_lit n 8 (by omega)
theorem shr16 (n : Int) : shr .i64 n 16 = n / 65536 := shr_lit n 16 (by omega)
theorem shr24 (n : Int) : shr .i64 n 24 = n / 16777216 := shr_lit n 24 (by omega)
theorem shr32 (n : Int) : shr .i64 n 32 = n / 4294967296 := shr_lit n 32 (by omega)
theorem xfix_yes (k : Nat) (n : Int) (w : Nat) (hw : 1 ≤ w ∧ w ≤ 4) (hn : 0 ≤ n ∧ n ≤ 2147483647) : chantryref01_Fix.j0 (k + 7) n w false = some (if 256 ^ w ≤ n then ([], 1) else (leB n w, 0)) := by
  have d1 : ∀ m : Int, 0 ≤ m → Int.tdiv m 256 = m / 256 := fun m h => Int.tdiv_eq_ediv_of_nonneg h
  have m1 : ∀ m : Int, 0 ≤ m → Int.tmod m 256 % 256 = m % 256 := fun m h => by rw [Int.tmod_eq_emod_of_nonneg h]; omega
  have e1 := d1 n (by omega)
  have e2 := d1 (n / 256) (by omega)
  have e3 := d1 (n / 256 / 256) (by omega)
  have e4 := d1 (n / 256 / 256 / 256) (by omega)
  have f1 := m1 n (by omega)
  have f2 := m1 (n / 256) (by omega)
  have f3 := m1 (n / 256 / 256) (by omega)
  have f4 := m1 (n / 256 / 256 / 256) (by omega)
  have g1 : wrap64 (n / 256) = n / 256 := wid _ (by omega) (by omega)
  have g2 : wrap64 (n / 256 / 256) = n / 256 / 256 := wid _ (by omega) (by omega)
  have g3 : wrap64 (n / 256 / 256 / 256) = n / 256 / 256 / 256 := wid _ (by omega) (by omega)
  have g4 : wrap64 (n / 256 / 256 / 256 / 256) = n / 256 / 256 / 256 / 256 := wid _ (by omega) (by omega)
  have v1 : wrap64 1 = 1 := wid _ (by omega) (by omega)
  have v2 : wrap64 2 = 2 := wid _ (by omega) (by omega)
  have v3 : wrap64 3 = 3 := wid _ (by omega) (by omega)
  have v4 : wrap64 4 = 4 := wid _ (by omega) (by omega)
  rcases (show w = 1 ∨ w = 2 ∨ w = 3 ∨ w = 4 by omega) with rfl | rfl | rfl | rfl
  all_goals
    simp only [chantryref01_Fix.j0, chantryref01_Fix.l0, e1, e2, e3, e4, f1, f2, f3, f4, g1, g2, g3, g4, leB]
    simp [v1, v2, v3, v4, e1, e2, e3, e4, f1, f2, f3, f4, g1, g2, g3, g4]
    split <;> first | rfl | (split <;> first | rfl | omega)
theorem xfix_no (k : Nat) (n w : Int) : chantryref01_Fix.j0 (k + 1) n w true = some ([], 1) := by
  simp only [chantryref01_Fix.j0]
  rfl
theorem xfix_plain (k : Nat) (n w : Int) : chantryref01_Fix.f (k + 7) n w = some (fixP n w) := by
  unfold chantryref01_Fix.f fixP
  by_cases h1 : w < 1
  · rw [if_pos h1, if_pos (.inl h1)]
    exact xfix_no _ _ _
  rw [if_neg h1]
  by_cases h4 : w > 4
  · rw [if_pos h4, if_pos (.inr (.inl h4))]
    exact xfix_no _ _ _
  rw [if_neg h4]
  by_cases h0 : n < 0
  · rw [if_pos h0, if_pos (by omega)]
    exact xfix_no _ _ _
  rw [if_neg h0]
  by_cases hm : n > 2147483647
  · rw [decide_eq_true hm, if_pos (by omega)]
    exact xfix_no _ _ _
  rw [decide_eq_false hm]
  obtain ⟨v, rfl⟩ : ∃ v : Nat, w = v := ⟨w.toNat, by omega⟩
  rw [xfix_yes k n v (by omega) (by omega), Int.toNat_natCast]
  congr 1
  by_cases hb : (256 : Int) ^ v ≤ n
  · rw [if_pos hb, if_pos (by omega)]
  · rw [if_neg hb, if_neg (by omega)]

theorem unB_range (l : List Int) (h : ∀ x ∈ l, 0 ≤ x ∧ x ≤ 255) (hl : l.length ≤ 4) : 0 ≤ unB l ∧ unB l < 4294967296 := by
  have h1 := unB_lt l h
  have h2 : (256 : Int) ^ l.length ≤ 256 ^ 4 := by
    rcases (show l.length = 0 ∨ l.length = 1 ∨ l.length = 2 ∨ l.length = 3 ∨ l.length = 4 by omega) with e | e | e | e | e <;> rw [e] <;> decide
  have h3 : (256 : Int) ^ 4 = 4294967296 := by decide
  omega
theorem xunfix_yes (k : Nat) (l : List Int) (h : ∀ x ∈ l, 0 ≤ x ∧ x ≤ 255) (hl : 1 ≤ l.length ∧ l.length ≤ 4) : chantryref01_Unfix.j0 (k + 7) l false = some (if 2147483647 < unB l then (0, 5) else (unB l, 0)) := by
  match l, hl with
  | [a], _ =>
    have ha := h a (by simp)
    simp [chantryref01_Unfix.j0, chantryref01_Unfix.l0, unB, rd, wid]
    try simp only [wid a (by omega) (by omega)]
    split <;> first | rfl | (split <;> first | rfl | omega)
  | [a, b], _ =>
    have ha := h a (by simp); have hb := h b (by simp)
    simp [chantryref01_Unfix.j0, chantryref01_Unfix.l0, unB, rd, wid]
    simp only [wid b (by omega) (by omega), wid (256 * b) (by omega) (by omega), wid a (by omega) (by omega), wid (256 * b + a) (by omega) (by omega)]
    rw [show 256 * b + a = a + 256 * b by omega]
    split <;> first | rfl | (split <;> first | rfl | omega)
  | [a, b, c], _ =>
    have ha := h a (by simp); have hb := h b (by simp); have hc := h c (by simp)
    simp [chantryref01_Unfix.j0, chantryref01_Unfix.l0, unB, rd, wid]
    simp only [wid c (by omega) (by omega), wid (256 * c) (by omega) (by omega), wid b (by omega) (by omega), wid (256 * c + b) (by omega) (by omega), wid (256 * (256 * c + b)) (by omega) (by omega), wid a (by omega) (by omega), wid (256 * (256 * c + b) + a) (by omega) (by omega)]
    rw [show 256 * (256 * c + b) + a = a + 256 * (b + 256 * c) by omega]
    split <;> first | rfl | (split <;> first | rfl | omega)
  | [a, b, c, d], _ =>
    have ha := h a (by simp); have hb := h b (by simp); have hc := h c (by simp); have hd := h d (by simp)
    simp [chantryref01_Unfix.j0, chantryref01_Unfix.l0, unB, rd, wid]
    simp only [wid d (by omega) (by omega), wid (256 * d) (by omega) (by omega), wid c (by omega) (by omega), wid (256 * d + c) (by omega) (by omega), wid (256 * (256 * d + c)) (by omega) (by omega), wid b (by omega) (by omega), wid (256 * (256 * d + c) + b) (by omega) (by omega), wid (256 * (256 * (256 * d + c) + b)) (by omega) (by omega), wid a (by omega) (by omega), wid (256 * (256 * (256 * d + c) + b) + a) (by omega) (by omega)]
    rw [show 256 * (256 * (256 * d + c) + b) + a = a + 256 * (b + 256 * (c + 256 * d)) by omega]
    split <;> first | rfl | (split <;> first | rfl | omega)
theorem xunfix_plain (k : Nat) (l : List Int) (h : ∀ x ∈ l, 0 ≤ x ∧ x ≤ 255) : chantryref01_Unfix.f (k + 7) l = some (unfixP l) := by
  unfold chantryref01_Unfix.f unfixP
  have hno : chantryref01_Unfix.j0 (k + 7) l true = some (0, 1) := by simp only [chantryref01_Unfix.j0]; rfl
  by_cases h1 : l.length < 1
  · rw [if_pos (by omega), if_pos (.inl h1), hno]
  rw [if_neg (by omega)]
  by_cases h4 : 4 < l.length
  · rw [decide_eq_true (by omega), if_pos (.inr h4), hno]
  · rw [decide_eq_false (by omega), if_neg (by omega)]
    exact xunfix_yes k l h (by omega)
theorem or_low (x y : Int) (k : Nat) (hk : k ≤ 32) (hx : 0 ≤ x ∧ x < 2 ^ k) (hy : 0 ≤ y ∧ y ≤ 255) : Go.bits .or .i64 x (shl .i64 y (k : Int)) = x + y * 2 ^ k := by
  obtain ⟨n, rfl⟩ := Int.eq_ofNat_of_zero_le hx.1
  obtain ⟨m, rfl⟩ := Int.eq_ofNat_of_zero_le hy.1
  have hn : n < 2 ^ k := by have := hx.2; exact_mod_cast this
  have h40 : m * 2 ^ k < 2 ^ 40 := by
    have h1 : m * 2 ^ k ≤ 255 * 2 ^ k := Nat.mul_le_mul_right _ (by omega)
    have h2 : (2 : Nat) ^ k ≤ 2 ^ 32 := Nat.pow_le_pow_right (by omega) hk
    omega
  have hn40 : n < 2 ^ 40 := Nat.lt_of_lt_of_le hn (Nat.pow_le_pow_right (by omega) (by omega))
  have hs : shl .i64 (m : Int) (k : Int) = ((m * 2 ^ k : Nat) : Int) := by
    unfold shl
    rw [Int.toNat_natCast, Nat.min_eq_left (show k ≤ IntKind.bits .i64 by show k ≤ 64; omega)]
    rw [show (m : Int) * 2 ^ k = ((m * 2 ^ k : Nat) : Int) by simp]
    exact IntWalk.i64_in _ (by omega)
  rw [hs]
  unfold Go.bits
  simp only
  show IntKind.wrap .i64 ((BitVec.ofInt 64 (n : Int) ||| BitVec.ofInt 64 ((m * 2 ^ k : Nat) : Int)).toNat : Int) = _
  rw [BitVec.toNat_or, BitVec.ofInt_natCast, BitVec.ofInt_natCast, BitVec.toNat_ofNat, BitVec.toNat_ofNat, Nat.mod_eq_of_lt (by omega), Nat.mod_eq_of_lt (by omega)]
  have ho : n ||| m * 2 ^ k = m * 2 ^ k + n := by rw [Nat.or_comm, Nat.mul_comm, Nat.two_pow_add_eq_or_of_lt hn]
  rw [ho]
  rw [show ((m * 2 ^ k + n : Nat) : Int) = (n : Int) + (m : Int) * 2 ^ k by simp; omega]
  refine IntWalk.i64_in _ ?_
  have : (m : Int) * 2 ^ k = ((m * 2 ^ k : Nat) : Int) := by simp
  rw [this]
  omega
end Cell
end Go.Proofs.Ytkfbegmfepehiaa
