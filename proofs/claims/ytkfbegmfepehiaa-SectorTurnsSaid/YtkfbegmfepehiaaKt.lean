/- What is printed of sums is the plain law -/
import Derived.Test.YtkfbegmfepehiaaKr
import Derived.Below
import Derived.Lib.Hide
import Derived.OwnWalk
import Derived.WalkKit
import Derived.KernelRfl
import Derived.RowKit3
import Derived.Deep.LoopGhost
import Derived.Deep.QuietTactic
import Derived.BigQuiet
import Derived.WideLaws
import Derived.Great.BuildSlice
import Derived.Outline
import Derived.Deep.DeepCutAuto
import Derived.WalkSpells
import Derived.RegionTactic
import Derived.BigRegion
import Derived.WalkLawsBesides
import Derived.IntWalk
namespace Go.Proofs.Ytkfbegmfepehiaa
set_option linter.unusedVariables false
set_option linter.unusedSimpArgs false
open Go.RowKit Go.Proofs.YtkfbegmfepehiaaW.PrintWords Go.Proofs.YtkfbegmfepehiaaW.PrintLast Go.Proofs.YtkfbegmfepehiaaW.PrintMore
namespace Cell
open Go.Num Go.Crc PCellGets

theorem bits_xor32 (x y : Int) : Go.bits .xor .u32 x y = ((b32 x ^^^ b32 y).toNat : Int) := by
  unfold Go.bits
  simp only
  show IntKind.wrap .u32 ((BitVec.ofInt 32 x ^^^ BitVec.ofInt 32 y).toNat : Int) = _
  have h := (b32 x ^^^ b32 y).isLt
  rw [IntKind.wrap_u32]
  show ((b32 x ^^^ b32 y).toNat : Int) % 4294967296 = _
  omega
theorem bits_and32 (x y : Int) : Go.bits .and .u32 x y = ((b32 x &&& b32 y).toNat : Int) := by
  unfold Go.bits
  simp only
  show IntKind.wrap .u32 ((BitVec.ofInt 32 x &&& BitVec.ofInt 32 y).toNat : Int) = _
  have h := (b32 x &&& b32 y).isLt
  rw [IntKind.wrap_u32]
  show ((b32 x &&& b32 y).toNat : Int) % 4294967296 = _
  omega
theorem lsb_odd (c : BitVec 32) : c.getLsbD 0 = decide (c.toNat % 2 = 1) := by
  rw [BitVec.getLsbD, Nat.testBit_zero]
theorem half_nat (c : BitVec 32) : (Int.tdiv (c.toNat : Int) 2) % (4294967296 : Int) = ((c >>> 1).toNat : Int) := by
  have h := c.isLt
  rw [Int.tdiv_eq_ediv_of_nonneg (by omega), BitVec.toNat_ushiftRight, Nat.shiftRight_eq_div_pow]
  omega
theorem bit_step (c : BitVec 32) : (if Int.tmod (c.toNat : Int) 2 = 1 then Go.bits .xor .u32 ((Int.tdiv (c.toNat : Int) 2) % 4294967296) 2197175160 else (Int.tdiv (c.toNat : Int) 2) % 4294967296) = ((Go.Crc.step c).toNat : Int) := by
  unfold Go.Crc.step
  rw [lsb_odd, half_nat, Int.tmod_eq_emod_of_nonneg (by omega)]
  by_cases h : c.toNat % 2 = 1
  · rw [if_pos (by omega), if_pos (by simpa using h), bits_xor32, b32_toInt]
    rfl
  · rw [if_neg (by omega), if_neg (by simpa using h), BitVec.xor_zero]
theorem more_in (l : List Int) (i : Int) : ∀ (j : Nat) (c : BitVec 32) (k : Nat), j ≤ 8 → chantryref02_More.l1 (k + j + 1) l (c.toNat : Int) i ((8 - j : Nat) : Int) = chantryref02_More.l0 k l ((steps j c).toNat : Int) (wrap64 (i + 1))
  | 0, c, k, _ => by
    simp only [chantryref02_More.l1]
    rw [if_neg (by omega)]
    rfl
  | j + 1, c, k, h => by
    rw [show k + (j + 1) + 1 = (k + j + 1) + 1 by omega]
    simp only [chantryref02_More.l1]
    rw [if_pos (by omega), wid _ (by omega) (by omega), show ((8 - (j + 1) : Nat) : Int) + 1 = ((8 - j : Nat) : Int) by omega]
    have hb := bit_step c
    have ih := more_in l i j (Go.Crc.step c) k (by omega)
    by_cases ho : Int.tmod (c.toNat : Int) 2 = 1
    · rw [if_pos ho] at hb ⊢
      rw [hb]
      exact ih
    · rw [if_neg ho] at hb ⊢
      rw [hb]
      exact ih
theorem more_out (l : List Int) (hb : ∀ x ∈ l, 0 ≤ x ∧ x ≤ 255) (hl : l.length ≤ 1000000) : ∀ (d i : Nat) (c : BitVec 32) (k : Nat), i + d = l.length → chantryref02_More.l0 (k + 11 * d + 1) l (c.toNat : Int) (i : Int) = some (((run c (l.drop i) ^^^ ones).toNat : Int))
  | 0, i, c, k, h => by
    simp only [chantryref02_More.l0]
    rw [if_neg (by omega), List.drop_eq_nil_of_le (by omega), bits_xor32, b32_toInt]
    rfl
  | d + 1, i, c, k, h => by
    have hi : i < l.length := by omega
    have hx := hb l[i] (List.getElem_mem hi)
    have hrd : rd l (i : Int) = l[i] := by unfold rd; rw [Int.toNat_natCast, List.getD_eq_getElem?_getD, List.getElem?_eq_getElem hi]; rfl
    rw [show k + 11 * (d + 1) + 1 = (k + 11 * d + 1 + 1 + 8 + 1) + 1 by omega]
    simp only [chantryref02_More.l0]
    rw [if_pos (by omega), if_pos (by omega), hrd, bits_xor32, b32_toInt, show l[i] % 4294967296 = l[i] by omega]
    have hin := more_in l (i : Int) 8 (c ^^^ b32 l[i]) (k + 11 * d + 1 + 1) (by omega)
    rw [show k + 11 * d + 1 + 1 + 8 + 1 = k + 11 * d + 1 + 1 + 8 + 1 from rfl] at hin
    rw [show ((8 - 8 : Nat) : Int) = 0 from rfl] at hin
    rw [hin, wid _ (by omega) (by omega), show (i : Int) + 1 = ((i + 1 : Nat) : Int) by omega]
    rw [show k + 11 * d + 1 + 1 = (k + 1) + 11 * d + 1 by omega, more_out l hb hl d (i + 1) _ (k + 1) (by omega)]
    rw [List.drop_eq_getElem_cons hi]
    rfl
theorem xmore_plain (k : Nat) (l : List Int) (hb : ∀ x ∈ l, 0 ≤ x ∧ x ≤ 255) (hl : l.length ≤ 1000000) : chantryref02_More.f (k + 11 * l.length + 1) 0 l = some (sum l) := by
  unfold chantryref02_More.f
  rw [bits_xor32]
  have := more_out l hb hl l.length 0 (b32 0 ^^^ b32 4294967295) k (by omega)
  rw [List.drop_zero] at this
  exact this
theorem xsum_plain (k : Nat) (l : List Int) (hb : ∀ x ∈ l, 0 ≤ x ∧ x ≤ 255) (hl : l.length ≤ 1000000) : chantryref02_Sum.f (k + 11 * l.length + 1) l = some (sum l) := by
  unfold chantryref02_Sum.f
  rw [xmore_plain k l hb hl]
  rfl
/-- Bytes with their sum behind them. -/
def sealB (l : List Int) : List Int := l ++ leB (sum l) 4
theorem xseal_plain (k : Nat) (l : List Int) (hb : ∀ x ∈ l, 0 ≤ x ∧ x ≤ 255) (hl : l.length ≤ 1000000) : chantryref02_Seal.f (k + 11 * l.length + 1) l = some (sealB l) := by
  unfold chantryref02_Seal.f
  rw [xsum_plain k l hb hl]
  have hs := sum_range l
  generalize hS : sum l = S at hs
  simp only [Option.bind_some, List.nil_append]
  rw [if_pos (by simp; omega), if_pos (by simp; omega)]
  unfold sealB
  rw [hS]
  congr 2
  simp only [leB]
  rw [Int.tmod_eq_emod_of_nonneg hs.1, Int.tdiv_eq_ediv_of_nonneg hs.1, Int.tdiv_eq_ediv_of_nonneg hs.1, Int.tdiv_eq_ediv_of_nonneg hs.1]
  simp only [List.cons.injEq, and_true]
  refine ⟨by omega, by omega, by omega, by omega⟩
theorem seal_len (l : List Int) : (sealB l).length = l.length + 4 := by unfold sealB; rw [List.length_append, leB_len]
theorem seal_byte {l : List Int} (hb : ∀ x ∈ l, 0 ≤ x ∧ x ≤ 255) : ∀ x ∈ sealB l, 0 ≤ x ∧ x ≤ 255 := by
  intro x hx
  rcases List.mem_append.1 hx with h | h
  · exact hb x h
  · exact leB_byte _ _ x h
theorem or_lit (x y : Int) (k : Nat) (hk : k ≤ 32) (hx : 0 ≤ x ∧ x < 2 ^ k) (hy : 0 ≤ y ∧ y ≤ 255) (z : Int) (hz : z = (k : Int)) : Go.bits .or .i64 x (shl .i64 y z) = x + y * 2 ^ k := by subst hz; exact or_low x y k hk hx hy
theorem unfix_yes (k : Nat) (l : List Int) (h : ∀ x ∈ l, 0 ≤ x ∧ x ≤ 255) (hl : 1 ≤ l.length ∧ l.length ≤ 4) : num_Unfix.j0 (k + 7) l false = some (if 2147483647 < unB l then (0, 5) else (unB l, 0)) := by
  have fin : ∀ x : Int, 0 ≤ x → ((num_is.f x).bind fun t149 => if t149 = true then some (x, (0 : Int)) else some (0, 5)) = some (if 2147483647 < x then (0, 5) else (x, 0)) := fun x hx => by
    rw [is_plain]
    show (if decide (0 ≤ x ∧ x ≤ 2147483647) = true then some (x, (0 : Int)) else some (0, 5)) = _
    by_cases hh : 2147483647 < x
    · rw [if_pos hh, if_neg (by simp; omega)]
    · rw [if_neg hh, if_pos (by simp; omega)]
  match l, hl with
  | [a], _ =>
    have ha := h a (by simp)
    simp [num_Unfix.j0, num_Unfix.l0, unB, rd, wid]
    simp only [wid a (by omega) (by omega)]
    rw [or_lit 0 a 0 (by omega) (by omega) ha 0 rfl]
    rw [show (0 : Int) + a * 2 ^ 0 = a by omega]
    exact fin _ (by omega)
  | [a, b], _ =>
    have ha := h a (by simp); have hb := h b (by simp)
    simp [num_Unfix.j0, num_Unfix.l0, unB, rd, wid]
    simp only [wid a (by omega) (by omega), wid b (by omega) (by omega)]
    rw [or_lit 0 a 0 (by omega) (by omega) ha 0 rfl, or_lit _ b 8 (by omega) (by omega) hb 8 rfl]
    rw [show (0 : Int) + a * 2 ^ 0 + b * 2 ^ 8 = a + 256 * b by omega]
    exact fin _ (by omega)
  | [a, b, c], _ =>
    have ha := h a (by simp); have hb := h b (by simp); have hc := h c (by simp)
    simp [num_Unfix.j0, num_Unfix.l0, unB, rd, wid]
    simp only [wid a (by omega) (by omega), wid b (by omega) (by omega), wid c (by omega) (by omega)]
    rw [or_lit 0 a 0 (by omega) (by omega) ha 0 rfl, or_lit _ b 8 (by omega) (by omega) hb 8 rfl, or_lit _ c 16 (by omega) (by omega) hc 16 rfl]
    rw [show (0 : Int) + a * 2 ^ 0 + b * 2 ^ 8 + c * 2 ^ 16 = a + 256 * (b + 256 * c) by omega]
    exact fin _ (by omega)
  | [a, b, c, d], _ =>
    have ha := h a (by simp); have hb := h b (by simp); have hc := h c (by simp); have hd := h d (by simp)
    simp [num_Unfix.j0, num_Unfix.l0, unB, rd, wid]
    simp only [wid a (by omega) (by omega), wid b (by omega) (by omega), wid c (by omega) (by omega), wid d (by omega) (by omega)]
    rw [or_lit 0 a 0 (by omega) (by omega) ha 0 rfl, or_lit _ b 8 (by omega) (by omega) hb 8 rfl, or_lit _ c 16 (by omega) (by omega) hc 16 rfl, or_lit _ d 24 (by omega) (by omega) hd 24 rfl]
    rw [show (0 : Int) + a * 2 ^ 0 + b * 2 ^ 8 + c * 2 ^ 16 + d * 2 ^ 24 = a + 256 * (b + 256 * (c + 256 * d)) by omega]
    exact fin _ (by omega)
theorem unfix_plain (k : Nat) (l : List Int) (h : ∀ x ∈ l, 0 ≤ x ∧ x ≤ 255) : num_Unfix.f (k + 7) l = some (unfixP l) := by
  unfold num_Unfix.f unfixP
  have hno : num_Unfix.j0 (k + 7) l true = some (0, 1) := by simp only [num_Unfix.j0]; rfl
  by_cases h1 : l.length < 1
  · rw [if_pos (by omega), if_pos (.inl h1), hno]
  rw [if_neg (by omega)]
  by_cases h4 : 4 < l.length
  · rw [decide_eq_true (by omega), if_pos (.inr h4), hno]
  · rw [decide_eq_false (by omega), if_neg (by omega)]
    exact unfix_yes k l h (by omega)
theorem equal_l (a b : List Int) (hl : a.length = b.length) (hm : a.length ≤ 1000000) : ∀ (d i k : Nat), i + d = a.length → a.take i = b.take i → slices_Equal_byte_byte.l0 (k + d + 1) a b (a.length : Int) (i : Int) = some (decide (a = b))
  | 0, i, k, h, he => by
    simp only [slices_Equal_byte_byte.l0]
    rw [if_neg (by omega)]
    have : a = b := by rw [List.take_of_length_le (by omega), List.take_of_length_le (by omega)] at he; exact he
    rw [decide_eq_true this]
  | d + 1, i, k, h, he => by
    have hi : i < a.length := by omega
    have hj : i < b.length := by omega
    have ra : rd a (i : Int) = a[i] := by unfold rd; rw [Int.toNat_natCast, List.getD_eq_getElem?_getD, List.getElem?_eq_getElem hi]; rfl
    have rb : rd b (i : Int) = b[i] := by unfold rd; rw [Int.toNat_natCast, List.getD_eq_getElem?_getD, List.getElem?_eq_getElem hj]; rfl
    rw [show k + (d + 1) + 1 = (k + d + 1) + 1 by omega]
    simp only [slices_Equal_byte_byte.l0]
    rw [if_pos (by omega), if_pos (by omega), if_pos (by omega), if_pos (by omega), ra, rb]
    by_cases hx : a[i] = b[i]
    · rw [if_pos hx, wid _ (by omega) (by omega), show (i : Int) + 1 = ((i + 1 : Nat) : Int) by omega]
      exact equal_l a b hl hm d (i + 1) k (by omega) (by rw [List.take_succ_eq_append_getElem hi, List.take_succ_eq_append_getElem hj, he, hx])
    · rw [if_neg hx, decide_eq_false (fun e => hx (by subst e; rfl))]
theorem equal_plain (a b : List Int) (k : Nat) (hm : a.length ≤ 1000000) : slices_Equal_byte_byte.f (k + a.length + 1) a b = some (decide (a = b)) := by
  unfold slices_Equal_byte_byte.f
  by_cases hl : a.length = b.length
  · rw [if_pos (by omega)]
    exact equal_l a b hl hm a.length 0 k (by omega) rfl
  · rw [if_neg (by omega), decide_eq_false (fun e => hl (by rw [e]))]
end Cell
end Go.Proofs.Ytkfbegmfepehiaa
