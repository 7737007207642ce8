/- Part 13 of the proof of ChainWrites: lemmas alone. -/
import Derived.Test.YtclneeamemofoaaGreatZChainWritesP0
import Derived.Test.YtclneeamemofoaaGreatZChainWritesP6
import Derived.Below
import Derived.Lib.Hide
import Derived.OwnWalk
import Derived.WalkKit
import Derived.KernelRfl
import Derived.RowKit3
import Derived.Deep.LoopGhost
import Derived.Deep.QuietTactic
import Derived.BigQuiet
import Derived.WideLaws
import Derived.Great.BuildSlice
import Derived.Outline
import Derived.Deep.DeepCutAuto
import Derived.WalkSpells
import Derived.RegionTactic
import Derived.BigRegion
import Derived.WalkLawsBesides
import Derived.IntWalk
section
namespace Go.Proofs.YtclneeamemofoaaGreat
set_option linter.unusedVariables false
set_option linter.unusedSimpArgs false
open Go.RowKit Go.Proofs.YtclneeamemofoaaGreatW.PrintWords Go.Proofs.YtclneeamemofoaaGreatW.PrintLast Go.Proofs.YtclneeamemofoaaGreatW.PrintMore
namespace Cell
open Go.Num Go.Crc PCellGets PChain
theorem wid (z : Int) (h0 : -9223372036854775808 ≤ z) (h1 : z ≤ 9223372036854775807) : wrap64 z = z := by
  unfold wrap64
  omega
theorem is_plain (n : Int) : num_is.f n = some (decide (0 ≤ n ∧ n ≤ 2147483647)) := by
  unfold num_is.f
  by_cases h : n ≥ 0
  · rw [if_pos h]
    congr 1
    simp [h]
  · rw [if_neg h]
    congr 1
    simp
    omega
theorem xfix_yes (k : Nat) (n : Int) (w : Nat) (hw : 1 ≤ w ∧ w ≤ 4) (hn : 0 ≤ n ∧ n ≤ 2147483647) : chantryref01_Fix.j0 (k + 7) n w false = some (if 256 ^ w ≤ n then ([], 1) else (leB n w, 0)) := by
  have d1 : ∀ m : Int, 0 ≤ m → Int.tdiv m 256 = m / 256 := fun m h => Int.tdiv_eq_ediv_of_nonneg h
  have m1 : ∀ m : Int, 0 ≤ m → Int.tmod m 256 % 256 = m % 256 := fun m h => by rw [Int.tmod_eq_emod_of_nonneg h]; omega
  have e1 := d1 n (by omega)
  have e2 := d1 (n / 256) (by omega)
  have e3 := d1 (n / 256 / 256) (by omega)
  have e4 := d1 (n / 256 / 256 / 256) (by omega)
  have f1 := m1 n (by omega)
  have f2 := m1 (n / 256) (by omega)
  have f3 := m1 (n / 256 / 256) (by omega)
  have f4 := m1 (n / 256 / 256 / 256) (by omega)
  have g1 : wrap64 (n / 256) = n / 256 := wid _ (by omega) (by omega)
  have g2 : wrap64 (n / 256 / 256) = n / 256 / 256 := wid _ (by omega) (by omega)
  have g3 : wrap64 (n / 256 / 256 / 256) = n / 256 / 256 / 256 := wid _ (by omega) (by omega)
  have g4 : wrap64 (n / 256 / 256 / 256 / 256) = n / 256 / 256 / 256 / 256 := wid _ (by omega) (by omega)
  have v1 : wrap64 1 = 1 := wid _ (by omega) (by omega)
  have v2 : wrap64 2 = 2 := wid _ (by omega) (by omega)
  have v3 : wrap64 3 = 3 := wid _ (by omega) (by omega)
  have v4 : wrap64 4 = 4 := wid _ (by omega) (by omega)
  rcases (show w = 1 ∨ w = 2 ∨ w = 3 ∨ w = 4 by omega) with rfl | rfl | rfl | rfl
  all_goals
    simp only [chantryref01_Fix.j0, chantryref01_Fix.l0, e1, e2, e3, e4, f1, f2, f3, f4, g1, g2, g3, g4, leB]
    simp [v1, v2, v3, v4, e1, e2, e3, e4, f1, f2, f3, f4, g1, g2, g3, g4]
    split <;> first | rfl | (split <;> first | rfl | omega)
theorem xfix_no (k : Nat) (n w : Int) : chantryref01_Fix.j0 (k + 1) n w true = some ([], 1) := by
  simp only [chantryref01_Fix.j0]
  rfl
theorem xfix_plain (k : Nat) (n w : Int) : chantryref01_Fix.f (k + 7) n w = some (fixP n w) := by
  unfold chantryref01_Fix.f fixP
  by_cases h1 : w < 1
  · rw [if_pos h1, if_pos (.inl h1)]
    exact xfix_no _ _ _
  rw [if_neg h1]
  by_cases h4 : w > 4
  · rw [if_pos h4, if_pos (.inr (.inl h4))]
    exact xfix_no _ _ _
  rw [if_neg h4]
  by_cases h0 : n < 0
  · rw [if_pos h0, if_pos (by omega)]
    exact xfix_no _ _ _
  rw [if_neg h0]
  by_cases hm : n > 2147483647
  · rw [decide_eq_true hm, if_pos (by omega)]
    exact xfix_no _ _ _
  rw [decide_eq_false hm]
  obtain ⟨v, rfl⟩ : ∃ v : Nat, w = v := ⟨w.toNat, by omega⟩
  rw [xfix_yes k n v (by omega) (by omega), Int.toNat_natCast]
  congr 1
  by_cases hb : (256 : Int) ^ v ≤ n
  · rw [if_pos hb, if_pos (by omega)]
  · rw [if_neg hb, if_neg (by omega)]
theorem or_low (x y : Int) (k : Nat) (hk : k ≤ 32) (hx : 0 ≤ x ∧ x < 2 ^ k) (hy : 0 ≤ y ∧ y ≤ 255) : Go.bits .or .i64 x (shl .i64 y (k : Int)) = x + y * 2 ^ k := by
  obtain ⟨n, rfl⟩ := Int.eq_ofNat_of_zero_le hx.1
  obtain ⟨m, rfl⟩ := Int.eq_ofNat_of_zero_le hy.1
  have hn : n < 2 ^ k := by have := hx.2; exact_mod_cast this
  have h40 : m * 2 ^ k < 2 ^ 40 := by
    have h1 : m * 2 ^ k ≤ 255 * 2 ^ k := Nat.mul_le_mul_right _ (by omega)
    have h2 : (2 : Nat) ^ k ≤ 2 ^ 32 := Nat.pow_le_pow_right (by omega) hk
    omega
  have hn40 : n < 2 ^ 40 := Nat.lt_of_lt_of_le hn (Nat.pow_le_pow_right (by omega) (by omega))
  have hs : shl .i64 (m : Int) (k : Int) = ((m * 2 ^ k : Nat) : Int) := by
    unfold shl
    rw [Int.toNat_natCast, Nat.min_eq_left (show k ≤ IntKind.bits .i64 by show k ≤ 64; omega)]
    rw [show (m : Int) * 2 ^ k = ((m * 2 ^ k : Nat) : Int) by simp]
    exact IntWalk.i64_in _ (by omega)
  rw [hs]
  unfold Go.bits
  simp only
  show IntKind.wrap .i64 ((BitVec.ofInt 64 (n : Int) ||| BitVec.ofInt 64 ((m * 2 ^ k : Nat) : Int)).toNat : Int) = _
  rw [BitVec.toNat_or, BitVec.ofInt_natCast, BitVec.ofInt_natCast, BitVec.toNat_ofNat, BitVec.toNat_ofNat, Nat.mod_eq_of_lt (by omega), Nat.mod_eq_of_lt (by omega)]
  have ho : n ||| m * 2 ^ k = m * 2 ^ k + n := by rw [Nat.or_comm, Nat.mul_comm, Nat.two_pow_add_eq_or_of_lt hn]
  rw [ho]
  rw [show ((m * 2 ^ k + n : Nat) : Int) = (n : Int) + (m : Int) * 2 ^ k by simp; omega]
  refine IntWalk.i64_in _ ?_
  have : (m : Int) * 2 ^ k = ((m * 2 ^ k : Nat) : Int) := by simp
  rw [this]
  omega
end Cell
end Go.Proofs.YtclneeamemofoaaGreat
end
section
namespace Go.Proofs.YtclneeamemofoaaGreat
set_option linter.unusedVariables false
set_option linter.unusedSimpArgs false
open Go.RowKit Go.Proofs.YtclneeamemofoaaGreatW.PrintWords Go.Proofs.YtclneeamemofoaaGreatW.PrintLast Go.Proofs.YtclneeamemofoaaGreatW.PrintMore
namespace Cell
open Go.Num Go.Crc PCellGets PChain
theorem bits_xor32 (x y : Int) : Go.bits .xor .u32 x y = ((b32 x ^^^ b32 y).toNat : Int) := by
  unfold Go.bits
  simp only
  show IntKind.wrap .u32 ((BitVec.ofInt 32 x ^^^ BitVec.ofInt 32 y).toNat : Int) = _
  have h := (b32 x ^^^ b32 y).isLt
  rw [IntKind.wrap_u32]
  show ((b32 x ^^^ b32 y).toNat : Int) % 4294967296 = _
  omega
theorem bits_and32 (x y : Int) : Go.bits .and .u32 x y = ((b32 x &&& b32 y).toNat : Int) := by
  unfold Go.bits
  simp only
  show IntKind.wrap .u32 ((BitVec.ofInt 32 x &&& BitVec.ofInt 32 y).toNat : Int) = _
  have h := (b32 x &&& b32 y).isLt
  rw [IntKind.wrap_u32]
  show ((b32 x &&& b32 y).toNat : Int) % 4294967296 = _
  omega
theorem lsb_odd (c : BitVec 32) : c.getLsbD 0 = decide (c.toNat % 2 = 1) := by
  rw [BitVec.getLsbD, Nat.testBit_zero]
theorem half_nat (c : BitVec 32) : (Int.tdiv (c.toNat : Int) 2) % (4294967296 : Int) = ((c >>> 1).toNat : Int) := by
  have h := c.isLt
  rw [Int.tdiv_eq_ediv_of_nonneg (by omega), BitVec.toNat_ushiftRight, Nat.shiftRight_eq_div_pow]
  omega
theorem bit_step (c : BitVec 32) : (if Int.tmod (c.toNat : Int) 2 = 1 then Go.bits .xor .u32 ((Int.tdiv (c.toNat : Int) 2) % 4294967296) 2197175160 else (Int.tdiv (c.toNat : Int) 2) % 4294967296) = ((Go.Crc.step c).toNat : Int) := by
  unfold Go.Crc.step
  rw [lsb_odd, half_nat, Int.tmod_eq_emod_of_nonneg (by omega)]
  by_cases h : c.toNat % 2 = 1
  · rw [if_pos (by omega), if_pos (by simpa using h), bits_xor32, b32_toInt]
    rfl
  · rw [if_neg (by omega), if_neg (by simpa using h), BitVec.xor_zero]
theorem more_in (l : List Int) (i : Int) : ∀ (j : Nat) (c : BitVec 32) (k : Nat), j ≤ 8 → chantryref02_More.l1 (k + j + 1) l (c.toNat : Int) i ((8 - j : Nat) : Int) = chantryref02_More.l0 k l ((steps j c).toNat : Int) (wrap64 (i + 1))
  | 0, c, k, _ => by
    simp only [chantryref02_More.l1]
    rw [if_neg (by omega)]
    rfl
  | j + 1, c, k, h => by
    rw [show k + (j + 1) + 1 = (k + j + 1) + 1 by omega]
    simp only [chantryref02_More.l1]
    rw [if_pos (by omega), wid _ (by omega) (by omega), show ((8 - (j + 1) : Nat) : Int) + 1 = ((8 - j : Nat) : Int) by omega]
    have hb := bit_step c
    have ih := more_in l i j (Go.Crc.step c) k (by omega)
    by_cases ho : Int.tmod (c.toNat : Int) 2 = 1
    · rw [if_pos ho] at hb ⊢
      rw [hb]
      exact ih
    · rw [if_neg ho] at hb ⊢
      rw [hb]
      exact ih
theorem more_out (l : List Int) (hb : ∀ x ∈ l, 0 ≤ x ∧ x ≤ 255) (hl : l.length ≤ 1000000) : ∀ (d i : Nat) (c : BitVec 32) (k : Nat), i + d = l.length → chantryref02_More.l0 (k + 11 * d + 1) l (c.toNat : Int) (i : Int) = some (((run c (l.drop i) ^^^ ones).toNat : Int))
  | 0, i, c, k, h => by
    simp only [chantryref02_More.l0]
    rw [if_neg (by omega), List.drop_eq_nil_of_le (by omega), bits_xor32, b32_toInt]
    rfl
  | d + 1, i, c, k, h => by
    have hi : i < l.length := by omega
    have hx := hb l[i] (List.getElem_mem hi)
    have hrd : rd l (i : Int) = l[i] := by unfold rd; rw [Int.toNat_natCast, List.getD_eq_getElem?_getD, List.getElem?_eq_getElem hi]; rfl
    rw [show k + 11 * (d + 1) + 1 = (k + 11 * d + 1 + 1 + 8 + 1) + 1 by omega]
    simp only [chantryref02_More.l0]
    rw [if_pos (by omega), if_pos (by omega), hrd, bits_xor32, b32_toInt, show l[i] % 4294967296 = l[i] by omega]
    have hin := more_in l (i : Int) 8 (c ^^^ b32 l[i]) (k + 11 * d + 1 + 1) (by omega)
    rw [show k + 11 * d + 1 + 1 + 8 + 1 = k + 11 * d + 1 + 1 + 8 + 1 from rfl] at hin
    rw [show ((8 - 8 : Nat) : Int) = 0 from rfl] at hin
    rw [hin, wid _ (by omega) (by omega), show (i : Int) + 1 = ((i + 1 : Nat) : Int) by omega]
    rw [show k + 11 * d + 1 + 1 = (k + 1) + 11 * d + 1 by omega, more_out l hb hl d (i + 1) _ (k + 1) (by omega)]
    rw [List.drop_eq_getElem_cons hi]
    rfl
theorem xmore_plain (k : Nat) (l : List Int) (hb : ∀ x ∈ l, 0 ≤ x ∧ x ≤ 255) (hl : l.length ≤ 1000000) : chantryref02_More.f (k + 11 * l.length + 1) 0 l = some (sum l) := by
  unfold chantryref02_More.f
  rw [bits_xor32]
  have := more_out l hb hl l.length 0 (b32 0 ^^^ b32 4294967295) k (by omega)
  rw [List.drop_zero] at this
  exact this
theorem xsum_plain (k : Nat) (l : List Int) (hb : ∀ x ∈ l, 0 ≤ x ∧ x ≤ 255) (hl : l.length ≤ 1000000) : chantryref02_Sum.f (k + 11 * l.length + 1) l = some (sum l) := by
  unfold chantryref02_Sum.f
  rw [xmore_plain k l hb hl]
  rfl
def sealB (l : List Int) : List Int := l ++ leB (sum l) 4
theorem xseal_plain (k : Nat) (l : List Int) (hb : ∀ x ∈ l, 0 ≤ x ∧ x ≤ 255) (hl : l.length ≤ 1000000) : chantryref02_Seal.f (k + 11 * l.length + 1) l = some (sealB l) := by
  unfold chantryref02_Seal.f
  rw [xsum_plain k l hb hl]
  have hs := sum_range l
  generalize hS : sum l = S at hs
  simp only [Option.bind_some, List.nil_append]
  rw [if_pos (by simp; omega), if_pos (by simp; omega)]
  unfold sealB
  rw [hS]
  congr 2
  simp only [leB]
  rw [Int.tmod_eq_emod_of_nonneg hs.1, Int.tdiv_eq_ediv_of_nonneg hs.1, Int.tdiv_eq_ediv_of_nonneg hs.1, Int.tdiv_eq_ediv_of_nonneg hs.1]
  simp only [List.cons.injEq, and_true]
  refine ⟨by omega, by omega, by omega, by omega⟩
theorem seal_len (l : List Int) : (sealB l).length = l.length + 4 := by unfold sealB; rw [List.length_append, leB_len]
theorem seal_byte {l : List Int} (hb : ∀ x ∈ l, 0 ≤ x ∧ x ≤ 255) : ∀ x ∈ sealB l, 0 ≤ x ∧ x ≤ 255 := by
  intro x hx
  rcases List.mem_append.1 hx with h | h
  · exact hb x h
  · exact leB_byte _ _ x h
theorem or_lit (x y : Int) (k : Nat) (hk : k ≤ 32) (hx : 0 ≤ x ∧ x < 2 ^ k) (hy : 0 ≤ y ∧ y ≤ 255) (z : Int) (hz : z = (k : Int)) : Go.bits .or .i64 x (shl .i64 y z) = x + y * 2 ^ k := by subst hz; exact or_low x y k hk hx hy
theorem unfix_yes (k : Nat) (l : List Int) (h : ∀ x ∈ l, 0 ≤ x ∧ x ≤ 255) (hl : 1 ≤ l.length ∧ l.length ≤ 4) : num_Unfix.j0 (k + 7) l false = some (if 2147483647 < unB l then (0, 5) else (unB l, 0)) := by
  have fin : ∀ x : Int, 0 ≤ x → ((num_is.f x).bind fun t149 => if t149 = true then some (x, (0 : Int)) else some (0, 5)) = some (if 2147483647 < x then (0, 5) else (x, 0)) := fun x hx => by
    rw [is_plain]
    show (if decide (0 ≤ x ∧ x ≤ 2147483647) = true then some (x, (0 : Int)) else some (0, 5)) = _
    by_cases hh : 2147483647 < x
    · rw [if_pos hh, if_neg (by simp; omega)]
    · rw [if_neg hh, if_pos (by simp; omega)]
  match l, hl with
  | [a], _ =>
    have ha := h a (by simp)
    simp [num_Unfix.j0, num_Unfix.l0, unB, rd, wid]
    simp only [wid a (by omega) (by omega)]
    rw [or_lit 0 a 0 (by omega) (by omega) ha 0 rfl]
    rw [show (0 : Int) + a * 2 ^ 0 = a by omega]
    exact fin _ (by omega)
  | [a, b], _ =>
    have ha := h a (by simp); have hb := h b (by simp)
    simp [num_Unfix.j0, num_Unfix.l0, unB, rd, wid]
    simp only [wid a (by omega) (by omega), wid b (by omega) (by omega)]
    rw [or_lit 0 a 0 (by omega) (by omega) ha 0 rfl, or_lit _ b 8 (by omega) (by omega) hb 8 rfl]
    rw [show (0 : Int) + a * 2 ^ 0 + b * 2 ^ 8 = a + 256 * b by omega]
    exact fin _ (by omega)
  | [a, b, c], _ =>
    have ha := h a (by simp); have hb := h b (by simp); have hc := h c (by simp)
    simp [num_Unfix.j0, num_Unfix.l0, unB, rd, wid]
    simp only [wid a (by omega) (by omega), wid b (by omega) (by omega), wid c (by omega) (by omega)]
    rw [or_lit 0 a 0 (by omega) (by omega) ha 0 rfl, or_lit _ b 8 (by omega) (by omega) hb 8 rfl, or_lit _ c 16 (by omega) (by omega) hc 16 rfl]
    rw [show (0 : Int) + a * 2 ^ 0 + b * 2 ^ 8 + c * 2 ^ 16 = a + 256 * (b + 256 * c) by omega]
    exact fin _ (by omega)
  | [a, b, c, d], _ =>
    have ha := h a (by simp); have hb := h b (by simp); have hc := h c (by simp); have hd := h d (by simp)
    simp [num_Unfix.j0, num_Unfix.l0, unB, rd, wid]
    simp only [wid a (by omega) (by omega), wid b (by omega) (by omega), wid c (by omega) (by omega), wid d (by omega) (by omega)]
    rw [or_lit 0 a 0 (by omega) (by omega) ha 0 rfl, or_lit _ b 8 (by omega) (by omega) hb 8 rfl, or_lit _ c 16 (by omega) (by omega) hc 16 rfl, or_lit _ d 24 (by omega) (by omega) hd 24 rfl]
    rw [show (0 : Int) + a * 2 ^ 0 + b * 2 ^ 8 + c * 2 ^ 16 + d * 2 ^ 24 = a + 256 * (b + 256 * (c + 256 * d)) by omega]
    exact fin _ (by omega)
theorem unfix_plain (k : Nat) (l : List Int) (h : ∀ x ∈ l, 0 ≤ x ∧ x ≤ 255) : num_Unfix.f (k + 7) l = some (unfixP l) := by
  unfold num_Unfix.f unfixP
  have hno : num_Unfix.j0 (k + 7) l true = some (0, 1) := by simp only [num_Unfix.j0]; rfl
  by_cases h1 : l.length < 1
  · rw [if_pos (by omega), if_pos (.inl h1), hno]
  rw [if_neg (by omega)]
  by_cases h4 : 4 < l.length
  · rw [decide_eq_true (by omega), if_pos (.inr h4), hno]
  · rw [decide_eq_false (by omega), if_neg (by omega)]
    exact unfix_yes k l h (by omega)
theorem equal_l (a b : List Int) (hl : a.length = b.length) (hm : a.length ≤ 1000000) : ∀ (d i k : Nat), i + d = a.length → a.take i = b.take i → slices_Equal_byte_byte.l0 (k + d + 1) a b (a.length : Int) (i : Int) = some (decide (a = b))
  | 0, i, k, h, he => by
    simp only [slices_Equal_byte_byte.l0]
    rw [if_neg (by omega)]
    have : a = b := by rw [List.take_of_length_le (by omega), List.take_of_length_le (by omega)] at he; exact he
    rw [decide_eq_true this]
  | d + 1, i, k, h, he => by
    have hi : i < a.length := by omega
    have hj : i < b.length := by omega
    have ra : rd a (i : Int) = a[i] := by unfold rd; rw [Int.toNat_natCast, List.getD_eq_getElem?_getD, List.getElem?_eq_getElem hi]; rfl
    have rb : rd b (i : Int) = b[i] := by unfold rd; rw [Int.toNat_natCast, List.getD_eq_getElem?_getD, List.getElem?_eq_getElem hj]; rfl
    rw [show k + (d + 1) + 1 = (k + d + 1) + 1 by omega]
    simp only [slices_Equal_byte_byte.l0]
    rw [if_pos (by omega), if_pos (by omega), if_pos (by omega), if_pos (by omega), ra, rb]
    by_cases hx : a[i] = b[i]
    · rw [if_pos hx, wid _ (by omega) (by omega), show (i : Int) + 1 = ((i + 1 : Nat) : Int) by omega]
      exact equal_l a b hl hm d (i + 1) k (by omega) (by rw [List.take_succ_eq_append_getElem hi, List.take_succ_eq_append_getElem hj, he, hx])
    · rw [if_neg hx, decide_eq_false (fun e => hx (by subst e; rfl))]
theorem equal_plain (a b : List Int) (k : Nat) (hm : a.length ≤ 1000000) : slices_Equal_byte_byte.f (k + a.length + 1) a b = some (decide (a = b)) := by
  unfold slices_Equal_byte_byte.f
  by_cases hl : a.length = b.length
  · rw [if_pos (by omega)]
    exact equal_l a b hl hm a.length 0 k (by omega) rfl
  · rw [if_neg (by omega), decide_eq_false (fun e => hl (by rw [e]))]
end Cell
end Go.Proofs.YtclneeamemofoaaGreat
end
section
namespace Go.Proofs.YtclneeamemofoaaGreat
set_option linter.unusedVariables false
set_option linter.unusedSimpArgs false
open Go.RowKit Go.Proofs.YtclneeamemofoaaGreatW.PrintWords Go.Proofs.YtclneeamemofoaaGreatW.PrintLast Go.Proofs.YtclneeamemofoaaGreatW.PrintMore
namespace Cell
open Go.Num Go.Crc PCellGets PChain
def bytesN (n : Int) : List Int := [n % 256, n / 256 % 256, n / 65536 % 256, n / 16777216 % 256]
theorem leB2_eq (n : Int) : leB n 2 = [n % 256, n / 256 % 256] := rfl
theorem leB4_eq (n : Int) : leB n 4 = [n % 256, n / 256 % 256, n / 65536 % 256, n / 16777216 % 256] := by
  simp only [leB, List.cons.injEq, and_true, true_and]
  exact ⟨by omega, by omega⟩
theorem infoU8 : (Tryz.prog.info? 5).map (fun i => (i.zero, i.size, i.bytes)) = some (some (.int .u8 0), 1, 1) := by kernel_rfl
theorem cell_blk {w : World} {b k t : Nat} {cs : Array Value} (h : w.heap[b]? = some (.cells cs t (0, 0))) : w.cell? ⟨b, k, none⟩ = cs[k]? := blk_cell h k
theorem frozen_blk {w : World} {b k t : Nat} {cs : Array Value} (h : w.heap[b]? = some (.cells cs t (0, 0))) : w.frozen? ⟨b, k, none⟩ = false := blk_frozen h k
theorem row_at {w : World} {base : Nat} {ok : Nat → Prop} {A : Option Addr} {l c : Nat} {xs : List Int} (h : Kd.R (Kd.int .u8) 5 w base ok (.slice A l c) xs) : Kd.C (Kd.int .u8) w A xs.length xs := (Kd.R_reads' h).2.2
theorem row_of {w : World} {base g cap : Nat} {ok : Nat → Prop} {xs : List Int} {sp : List Value} (hb : w.heap[g]? = some (.cells (xs.map (Value.int .u8) ++ sp).toArray 5 (0, 0))) (hbase : base ≤ g) (hok : ok g) (hc : xs.length + sp.length = cap) (hm : cap ≤ 9223372036854775807) : Kd.R (Kd.int .u8) 5 w base ok (.slice (some ⟨g, 0, none⟩) xs.length cap) xs := by
  refine Kd.R_of_own (enc := Value.int .u8) ?_ (fun k hk => ?_)
  · refine ⟨by simp [encs], .inr ⟨g, cap, _, rfl, hbase, hb, by omega, hm, by simp; omega, ?_⟩⟩
    simp [encs]
  · obtain rfl : g = k := by simpa [Value.ownBlock] using hk
    exact hok
theorem make8 (m : Nat) (hm : m ≤ 1000000) (W : World) : (Instr.makeSlice 39 (.int .i64 (m : Int)) (.int .i64 (m : Int))).run Tryz.prog W = .ok (.slice (some ⟨W.heap.size, 0, none⟩) m m) (W.alloc (.cells (madeCells #[.int .u8 0] m) 5)) :=
  print_make 39 5 .u8 1 Tryz.underlying39 infoU8 (by decide) m (by omega) W
theorem made8 (m : Nat) : madeCells #[.int .u8 0] m = ((List.replicate m (0 : Int)).map (Value.int .u8)).toArray := by
  apply Array.ext
  · rw [size_madeCells]; simp
  · intro i h1 h2
    rw [size_madeCells] at h1
    simp [madeCells, Nat.mod_one]
set_option maxHeartbeats 8000000 in
set_option maxRecDepth 100000 in
theorem fix2_any (n : Int) (w : World) (hn : -9223372036854775808 ≤ n ∧ n ≤ 9223372036854775807) :
    Calls Tryz.prog 50 #[.int .i64 n, .int .i64 2] w fun e w' => ∃ v, e = .returned (.tuple #[v, .int .i64 (fixP n 2).2]) ∧ Kd.R (Kd.int .u8) 5 w' w.heap.size (fun _ => True) v (fixP n 2).1 ∧ Below w.heap.size w w' := by
  by_cases h0 : 0 ≤ n ∧ n ≤ 2147483647
  · by_cases hL : n < 65536
    · have hf : fixP n 2 = (leB n 2, 0) := by unfold fixP; rw [if_neg (by rw [show (256 : Int) ^ ((2 : Int)).toNat = 65536 from by decide]; omega)]; rfl
      rw [hf]
      have hmk : ∀ W : World, (Instr.makeSlice 39 (.int .i64 2) (.int .i64 2)).run Tryz.prog W = .ok (.slice (some ⟨W.heap.size, 0, none⟩) 2 2) (W.alloc (.cells #[.int .u8 0, .int .u8 0] 5)) := fun W => by
        have := make8 2 (by omega) W
        rw [made8] at this
        exact this
      have hq : n / 65536 = 0 := Int.ediv_eq_zero_of_lt h0.1 hL
      have HN := Aside0.mk h0
      have EL := Aside0.mk (show n / 256 % 256 = n / 256 by omega)
      obtain ⟨hn0, hn1⟩ := h0
      clear hf hn
      go_enter Tryz.func50, Tryz.ntmps50
      go_wp2_with fail
      refine (num_is.calls n true w (by rw [is_plain, decide_eq_true HN.out])).mono ?_
      rintro e w1 ⟨rfl, hd⟩
      have HB1 := Aside0.mk hd.below
      clear hd
      go_wp2_with fail
      obtain ⟨w2, hw2⟩ : ∃ w2, w2 = w1.alloc (.cells #[.int .u8 0, .int .u8 0] 5) := ⟨_, rfl⟩
      have hb2 : Below w.heap.size w w2 := by rw [hw2]; exact HB1.out.alloc HB1.out.size _
      have hc2 : w2.heap[w1.heap.size]? = some (.cells #[.int .u8 0, .int .u8 0] 5 (0, 0)) := by rw [hw2]; exact heap_alloc_new w1 _
      rw [← hw2]
      obtain ⟨g, hg⟩ : ∃ g, g = w1.heap.size := ⟨_, rfl⟩
      rw [← hg] at hc2 ⊢
      have HG := Aside0.mk (show w.heap.size ≤ g by rw [hg]; exact HB1.out.size)
      have HB2 := Aside0.mk hb2
      have HC2 := Aside0.mk hc2
      clear hw2 hb2 hc2 hg
      go_loopg [30, 7] 2 (fun gk v30 v7 wr => ∃ (i : Nat), Aside0 (i + gk = 2) ∧ v30 = .int .i64 i ∧ Aside0 (wr.heap[g]? = some (.cells (((bytesN n).take i ++ List.replicate (2 - i) 0).map (Value.int .u8)).toArray 5 (0, 0))) ∧ Aside0 (Below w.heap.size w wr))
      case atStart => exact ⟨0, ⟨by omega⟩, rfl, HC2, HB2⟩
      case round =>
        clear HC2 HB2
        obtain ⟨i, HI, rfl, HX, HB⟩ := hrel
        rcases (show i = 0 ∨ i = 1 ∨ i = 2 by have := HI.out; omega) with rfl | rfl | rfl
        · have c0 : wr.cell? ⟨g, 0, none⟩ = some (.int .u8 0) := by rw [cell_blk HX.out]; rfl
          have f0 : wr.frozen? ⟨g, 0, none⟩ = false := frozen_blk HX.out
          go_wp2_with fail
          go_roundg (2 - 1)
          case measure => have := HI.out; omega
          case rel => exact ⟨1, ⟨by have := HI.out; omega⟩, by go_num, ⟨by rw [blk_set HX.out]; first | rfl | simp [bytesN, EL.out]⟩, ⟨HB.out.setCell (p := ⟨g, 0, none⟩) HG.out _⟩⟩
        · have c0 : wr.cell? ⟨g, 1, none⟩ = some (.int .u8 0) := by rw [cell_blk HX.out]; rfl
          have f0 : wr.frozen? ⟨g, 1, none⟩ = false := frozen_blk HX.out
          go_wp2_with fail
          go_roundg (2 - 2)
          case measure => have := HI.out; omega
          case rel => exact ⟨2, ⟨by have := HI.out; omega⟩, by go_num, ⟨by rw [blk_set HX.out]; first | rfl | simp [bytesN, EL.out]⟩, ⟨HB.out.setCell (p := ⟨g, 1, none⟩) HG.out _⟩⟩
        · go_wp2_with fail
          go_ret2
          refine ⟨_, rfl, ?_, HB.out⟩
          rw [leB2_eq]
          exact row_of (xs := [n % 256, n / 256 % 256]) (sp := []) (by rw [HX.out]; rfl) HG.out trivial rfl (by omega)
    · have hf : fixP n 2 = ([], 1) := by unfold fixP; rw [if_pos (by rw [show (256 : Int) ^ ((2 : Int)).toNat = 65536 from by decide]; omega)]
      rw [hf]
      have hq : 0 < n / 65536 := by omega
      have HN := Aside0.mk h0
      obtain ⟨hn0, hn1⟩ := h0
      clear hf hn
      go_enter Tryz.func50, Tryz.ntmps50
      go_wp2_with fail
      refine (num_is.calls n true w (by rw [is_plain, decide_eq_true HN.out])).mono ?_
      rintro e w1 ⟨rfl, hd⟩
      have HB1 := Aside0.mk hd.below
      clear hd
      go_wp2_with fail
      go_ret2
      exact ⟨_, rfl, Kd.R_nil _ _ _ _ _, HB1.out⟩
  · have hf : fixP n 2 = ([], 1) := by unfold fixP; rw [if_pos (by omega)]
    rw [hf]
    have HN := Aside0.mk h0
    clear hf h0
    go_enter Tryz.func50, Tryz.ntmps50
    go_wp2_with fail
    refine (num_is.calls n false w (by rw [is_plain, decide_eq_false HN.out])).mono ?_
    rintro e w1 ⟨rfl, hd⟩
    have HB1 := Aside0.mk hd.below
    clear hd
    go_wp2_with fail
    go_ret2
    exact ⟨_, rfl, Kd.R_nil _ _ _ _ _, HB1.out⟩
set_option maxHeartbeats 8000000 in
set_option maxRecDepth 100000 in
theorem fix4_any (n : Int) (w : World) (hn : -9223372036854775808 ≤ n ∧ n ≤ 9223372036854775807) :
    Calls Tryz.prog 50 #[.int .i64 n, .int .i64 4] w fun e w' => ∃ v, e = .returned (.tuple #[v, .int .i64 (fixP n 4).2]) ∧ Kd.R (Kd.int .u8) 5 w' w.heap.size (fun _ => True) v (fixP n 4).1 ∧ Below w.heap.size w w' := by
  by_cases h0 : 0 ≤ n ∧ n ≤ 2147483647
  · by_cases hL : n < 4294967296
    · have hf : fixP n 4 = (leB n 4, 0) := by unfold fixP; rw [if_neg (by rw [show (256 : Int) ^ ((4 : Int)).toNat = 4294967296 from by decide]; omega)]; rfl
      rw [hf]
      have hmk : ∀ W : World, (Instr.makeSlice 39 (.int .i64 4) (.int .i64 4)).run Tryz.prog W = .ok (.slice (some ⟨W.heap.size, 0, none⟩) 4 4) (W.alloc (.cells #[.int .u8 0, .int .u8 0, .int .u8 0, .int .u8 0] 5)) := fun W => by
        have := make8 4 (by omega) W
        rw [made8] at this
        exact this
      have hq : n / 4294967296 = 0 := Int.ediv_eq_zero_of_lt h0.1 hL
      have HN := Aside0.mk h0
      have EL := Aside0.mk (show n / 16777216 % 256 = n / 16777216 by omega)
      obtain ⟨hn0, hn1⟩ := h0
      clear hf hn
      go_enter Tryz.func50, Tryz.ntmps50
      go_wp2_with fail
      refine (num_is.calls n true w (by rw [is_plain, decide_eq_true HN.out])).mono ?_
      rintro e w1 ⟨rfl, hd⟩
      have HB1 := Aside0.mk hd.below
      clear hd
      go_wp2_with fail
      obtain ⟨w2, hw2⟩ : ∃ w2, w2 = w1.alloc (.cells #[.int .u8 0, .int .u8 0, .int .u8 0, .int .u8 0] 5) := ⟨_, rfl⟩
      have hb2 : Below w.heap.size w w2 := by rw [hw2]; exact HB1.out.alloc HB1.out.size _
      have hc2 : w2.heap[w1.heap.size]? = some (.cells #[.int .u8 0, .int .u8 0, .int .u8 0, .int .u8 0] 5 (0, 0)) := by rw [hw2]; exact heap_alloc_new w1 _
      rw [← hw2]
      obtain ⟨g, hg⟩ : ∃ g, g = w1.heap.size := ⟨_, rfl⟩
      rw [← hg] at hc2 ⊢
      have HG := Aside0.mk (show w.heap.size ≤ g by rw [hg]; exact HB1.out.size)
      have HB2 := Aside0.mk hb2
      have HC2 := Aside0.mk hc2
      clear hw2 hb2 hc2 hg
      go_loopg [30, 7] 4 (fun gk v30 v7 wr => ∃ (i : Nat), Aside0 (i + gk = 4) ∧ v30 = .int .i64 i ∧ Aside0 (wr.heap[g]? = some (.cells (((bytesN n).take i ++ List.replicate (4 - i) 0).map (Value.int .u8)).toArray 5 (0, 0))) ∧ Aside0 (Below w.heap.size w wr))
      case atStart => exact ⟨0, ⟨by omega⟩, rfl, HC2, HB2⟩
      case round =>
        clear HC2 HB2
        obtain ⟨i, HI, rfl, HX, HB⟩ := hrel
        rcases (show i = 0 ∨ i = 1 ∨ i = 2 ∨ i = 3 ∨ i = 4 by have := HI.out; omega) with rfl | rfl | rfl | rfl | rfl
        · have c0 : wr.cell? ⟨g, 0, none⟩ = some (.int .u8 0) := by rw [cell_blk HX.out]; rfl
          have f0 : wr.frozen? ⟨g, 0, none⟩ = false := frozen_blk HX.out
          go_wp2_with fail
          go_roundg (4 - 1)
          case measure => have := HI.out; omega
          case rel => exact ⟨1, ⟨by have := HI.out; omega⟩, by go_num, ⟨by rw [blk_set HX.out]; first | rfl | simp [bytesN, EL.out]⟩, ⟨HB.out.setCell (p := ⟨g, 0, none⟩) HG.out _⟩⟩
        · have c0 : wr.cell? ⟨g, 1, none⟩ = some (.int .u8 0) := by rw [cell_blk HX.out]; rfl
          have f0 : wr.frozen? ⟨g, 1, none⟩ = false := frozen_blk HX.out
          go_wp2_with fail
          go_roundg (4 - 2)
          case measure => have := HI.out; omega
          case rel => exact ⟨2, ⟨by have := HI.out; omega⟩, by go_num, ⟨by rw [blk_set HX.out]; first | rfl | simp [bytesN, EL.out]⟩, ⟨HB.out.setCell (p := ⟨g, 1, none⟩) HG.out _⟩⟩
        · have c0 : wr.cell? ⟨g, 2, none⟩ = some (.int .u8 0) := by rw [cell_blk HX.out]; rfl
          have f0 : wr.frozen? ⟨g, 2, none⟩ = false := frozen_blk HX.out
          go_wp2_with fail
          go_roundg (4 - 3)
          case measure => have := HI.out; omega
          case rel => exact ⟨3, ⟨by have := HI.out; omega⟩, by go_num, ⟨by rw [blk_set HX.out]; first | rfl | simp [bytesN, EL.out]⟩, ⟨HB.out.setCell (p := ⟨g, 2, none⟩) HG.out _⟩⟩
        · have c0 : wr.cell? ⟨g, 3, none⟩ = some (.int .u8 0) := by rw [cell_blk HX.out]; rfl
          have f0 : wr.frozen? ⟨g, 3, none⟩ = false := frozen_blk HX.out
          go_wp2_with fail
          go_roundg (4 - 4)
          case measure => have := HI.out; omega
          case rel => exact ⟨4, ⟨by have := HI.out; omega⟩, by go_num, ⟨by rw [blk_set HX.out]; first | rfl | simp [bytesN, EL.out]⟩, ⟨HB.out.setCell (p := ⟨g, 3, none⟩) HG.out _⟩⟩
        · go_wp2_with fail
          go_ret2
          refine ⟨_, rfl, ?_, HB.out⟩
          rw [leB4_eq]
          exact row_of (xs := [n % 256, n / 256 % 256, n / 65536 % 256, n / 16777216 % 256]) (sp := []) (by rw [HX.out]; rfl) HG.out trivial rfl (by omega)
    · have hf : fixP n 4 = ([], 1) := by unfold fixP; rw [if_pos (by rw [show (256 : Int) ^ ((4 : Int)).toNat = 4294967296 from by decide]; omega)]
      rw [hf]
      have hq : 0 < n / 4294967296 := by omega
      have HN := Aside0.mk h0
      obtain ⟨hn0, hn1⟩ := h0
      clear hf hn
      go_enter Tryz.func50, Tryz.ntmps50
      go_wp2_with fail
      refine (num_is.calls n true w (by rw [is_plain, decide_eq_true HN.out])).mono ?_
      rintro e w1 ⟨rfl, hd⟩
      have HB1 := Aside0.mk hd.below
      clear hd
      go_wp2_with fail
      go_ret2
      exact ⟨_, rfl, Kd.R_nil _ _ _ _ _, HB1.out⟩
  · have hf : fixP n 4 = ([], 1) := by unfold fixP; rw [if_pos (by omega)]
    rw [hf]
    have HN := Aside0.mk h0
    clear hf h0
    go_enter Tryz.func50, Tryz.ntmps50
    go_wp2_with fail
    refine (num_is.calls n false w (by rw [is_plain, decide_eq_false HN.out])).mono ?_
    rintro e w1 ⟨rfl, hd⟩
    have HB1 := Aside0.mk hd.below
    clear hd
    go_wp2_with fail
    go_ret2
    exact ⟨_, rfl, Kd.R_nil _ _ _ _ _, HB1.out⟩
end Cell
end Go.Proofs.YtclneeamemofoaaGreat
end
