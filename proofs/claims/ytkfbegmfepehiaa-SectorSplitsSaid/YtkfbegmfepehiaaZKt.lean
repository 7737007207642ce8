import Derived.Test.YtkfbegmfepehiaaZKr
import Derived.Below
import Derived.Lib.Hide
import Derived.OwnWalk
import Derived.WalkKit
import Derived.KernelRfl
import Derived.RowKit3
import Derived.Deep.LoopGhost
import Derived.Deep.QuietTactic
import Derived.BigQuiet
import Derived.WideLaws
import Derived.Great.BuildSlice
import Derived.Outline
import Derived.Deep.DeepCutAuto
import Derived.WalkSpells
import Derived.RegionTactic
import Derived.BigRegion
import Derived.WalkLawsBesides
import Derived.IntWalk
namespace Go.Proofs.Ytkfbegmfepehiaa
set_option linter.unusedVariables false
set_option linter.unusedSimpArgs false
open Go.RowKit Go.Proofs.YtkfbegmfepehiaaW.PrintWords Go.Proofs.YtkfbegmfepehiaaW.PrintLast Go.Proofs.YtkfbegmfepehiaaW.PrintMore
namespace Cell
open Go.Num Go.Crc PCellGets
theorem bits_xor32 (x y : Int) : Go.bits .xor .u32 x y = ((b32 x ^^^ b32 y).toNat : Int) := by
  unfold Go.bits
  simp only
  show IntKind.wrap .u32 ((BitVec.ofInt 32 x ^^^ BitVec.ofInt 32 y).toNat : Int) = _
  have h := (b32 x ^^^ b32 y).isLt
  rw [IntKind.wrap_u32]
  show ((b32 x ^^^ b32 y).toNat : Int) % 4294967296 = _
  omega
theorem bits_and32 (x y : Int) : Go.bits .and .u32 x y = ((b32 x &&& b32 y).toNat : Int) := by
  unfold Go.bits
  simp only
  show IntKind.wrap .u32 ((BitVec.ofInt 32 x &&& BitVec.ofInt 32 y).toNat : Int) = _
  have h := (b32 x &&& b32 y).isLt
  rw [IntKind.wrap_u32]
  show ((b32 x &&& b32 y).toNat : Int) % 4294967296 = _
  omega
theorem lsb_odd (c : BitVec 32) : c.getLsbD 0 = decide (c.toNat % 2 = 1) := by
  rw [BitVec.getLsbD, Nat.testBit_zero]
def sealB (l : List Int) : List Int := l ++ leB (sum l) 4
theorem seal_len (l : List Int) : (sealB l).length = l.length + 4 := by unfold sealB; rw [List.length_append, leB_len]
theorem seal_byte {l : List Int} (hb : ∀ x ∈ l, 0 ≤ x ∧ x ≤ 255) : ∀ x ∈ sealB l, 0 ≤ x ∧ x ≤ 255 := by
  intro x hx
  rcases List.mem_append.1 hx with h | h
  · exact hb x h
  · exact leB_byte _ _ x h
theorem or_lit (x y : Int) (k : Nat) (hk : k ≤ 32) (hx : 0 ≤ x ∧ x < 2 ^ k) (hy : 0 ≤ y ∧ y ≤ 255) (z : Int) (hz : z = (k : Int)) : Go.bits .or .i64 x (shl .i64 y z) = x + y * 2 ^ k := by subst hz; exact or_low x y k hk hx hy
theorem unfix_yes (k : Nat) (l : List Int) (h : ∀ x ∈ l, 0 ≤ x ∧ x ≤ 255) (hl : 1 ≤ l.length ∧ l.length ≤ 4) : num_Unfix.j0 (k + 7) l false = some (if 2147483647 < unB l then (0, 5) else (unB l, 0)) := by
  have fin : ∀ x : Int, 0 ≤ x → ((num_is.f x).bind fun t149 => if t149 = true then some (x, (0 : Int)) else some (0, 5)) = some (if 2147483647 < x then (0, 5) else (x, 0)) := fun x hx => by
    rw [is_plain]
    show (if decide (0 ≤ x ∧ x ≤ 2147483647) = true then some (x, (0 : Int)) else some (0, 5)) = _
    by_cases hh : 2147483647 < x
    · rw [if_pos hh, if_neg (by simp; omega)]
    · rw [if_neg hh, if_pos (by simp; omega)]
  match l, hl with
  | [a], _ =>
    have ha := h a (by simp)
    simp [num_Unfix.j0, num_Unfix.l0, unB, rd, wid]
    simp only [wid a (by omega) (by omega)]
    rw [or_lit 0 a 0 (by omega) (by omega) ha 0 rfl]
    rw [show (0 : Int) + a * 2 ^ 0 = a by omega]
    exact fin _ (by omega)
  | [a, b], _ =>
    have ha := h a (by simp); have hb := h b (by simp)
    simp [num_Unfix.j0, num_Unfix.l0, unB, rd, wid]
    simp only [wid a (by omega) (by omega), wid b (by omega) (by omega)]
    rw [or_lit 0 a 0 (by omega) (by omega) ha 0 rfl, or_lit _ b 8 (by omega) (by omega) hb 8 rfl]
    rw [show (0 : Int) + a * 2 ^ 0 + b * 2 ^ 8 = a + 256 * b by omega]
    exact fin _ (by omega)
  | [a, b, c], _ =>
    have ha := h a (by simp); have hb := h b (by simp); have hc := h c (by simp)
    simp [num_Unfix.j0, num_Unfix.l0, unB, rd, wid]
    simp only [wid a (by omega) (by omega), wid b (by omega) (by omega), wid c (by omega) (by omega)]
    rw [or_lit 0 a 0 (by omega) (by omega) ha 0 rfl, or_lit _ b 8 (by omega) (by omega) hb 8 rfl, or_lit _ c 16 (by omega) (by omega) hc 16 rfl]
    rw [show (0 : Int) + a * 2 ^ 0 + b * 2 ^ 8 + c * 2 ^ 16 = a + 256 * (b + 256 * c) by omega]
    exact fin _ (by omega)
  | [a, b, c, d], _ =>
    have ha := h a (by simp); have hb := h b (by simp); have hc := h c (by simp); have hd := h d (by simp)
    simp [num_Unfix.j0, num_Unfix.l0, unB, rd, wid]
    simp only [wid a (by omega) (by omega), wid b (by omega) (by omega), wid c (by omega) (by omega), wid d (by omega) (by omega)]
    rw [or_lit 0 a 0 (by omega) (by omega) ha 0 rfl, or_lit _ b 8 (by omega) (by omega) hb 8 rfl, or_lit _ c 16 (by omega) (by omega) hc 16 rfl, or_lit _ d 24 (by omega) (by omega) hd 24 rfl]
    rw [show (0 : Int) + a * 2 ^ 0 + b * 2 ^ 8 + c * 2 ^ 16 + d * 2 ^ 24 = a + 256 * (b + 256 * (c + 256 * d)) by omega]
    exact fin _ (by omega)
theorem unfix_plain (k : Nat) (l : List Int) (h : ∀ x ∈ l, 0 ≤ x ∧ x ≤ 255) : num_Unfix.f (k + 7) l = some (unfixP l) := by
  unfold num_Unfix.f unfixP
  have hno : num_Unfix.j0 (k + 7) l true = some (0, 1) := by simp only [num_Unfix.j0]; rfl
  by_cases h1 : l.length < 1
  · rw [if_pos (by omega), if_pos (.inl h1), hno]
  rw [if_neg (by omega)]
  by_cases h4 : 4 < l.length
  · rw [decide_eq_true (by omega), if_pos (.inr h4), hno]
  · rw [decide_eq_false (by omega), if_neg (by omega)]
    exact unfix_yes k l h (by omega)
theorem equal_l (a b : List Int) (hl : a.length = b.length) (hm : a.length ≤ 1000000) : ∀ (d i k : Nat), i + d = a.length → a.take i = b.take i → slices_Equal_byte_byte.l0 (k + d + 1) a b (a.length : Int) (i : Int) = some (decide (a = b))
  | 0, i, k, h, he => by
    simp only [slices_Equal_byte_byte.l0]
    rw [if_neg (by omega)]
    have : a = b := by rw [List.take_of_length_le (by omega), List.take_of_length_le (by omega)] at he; exact he
    rw [decide_eq_true this]
  | d + 1, i, k, h, he => by
    have hi : i < a.length := by omega
    have hj : i < b.length := by omega
    have ra : rd a (i : Int) = a[i] := by unfold rd; rw [Int.toNat_natCast, List.getD_eq_getElem?_getD, List.getElem?_eq_getElem hi]; rfl
    have rb : rd b (i : Int) = b[i] := by unfold rd; rw [Int.toNat_natCast, List.getD_eq_getElem?_getD, List.getElem?_eq_getElem hj]; rfl
    rw [show k + (d + 1) + 1 = (k + d + 1) + 1 by omega]
    simp only [slices_Equal_byte_byte.l0]
    rw [if_pos (by omega), if_pos (by omega), if_pos (by omega), if_pos (by omega), ra, rb]
    by_cases hx : a[i] = b[i]
    · rw [if_pos hx, wid _ (by omega) (by omega), show (i : Int) + 1 = ((i + 1 : Nat) : Int) by omega]
      exact equal_l a b hl hm d (i + 1) k (by omega) (by rw [List.take_succ_eq_append_getElem hi, List.take_succ_eq_append_getElem hj, he, hx])
    · rw [if_neg hx, decide_eq_false (fun e => hx (by subst e; rfl))]
theorem equal_plain (a b : List Int) (k : Nat) (hm : a.length ≤ 1000000) : slices_Equal_byte_byte.f (k + a.length + 1) a b = some (decide (a = b)) := by
  unfold slices_Equal_byte_byte.f
  by_cases hl : a.length = b.length
  · rw [if_pos (by omega)]
    exact equal_l a b hl hm a.length 0 k (by omega) rfl
  · rw [if_neg (by omega), decide_eq_false (fun e => hl (by rw [e]))]
end Cell
end Go.Proofs.Ytkfbegmfepehiaa
