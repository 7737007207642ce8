/- Sets of bits: contracts, fifth part. -/
import Derived.Test.YtbcifbogmjfpoaaBz
import Derived.Test.YtbcifbogmjfpoaaPBitsDoesx
import Derived.Below
import Derived.Deep.MidRow
import Derived.Deep.WholeRow
import Derived.Great.BuildSlice
import Derived.Lib.Hide
import Derived.OwnWalk
import Derived.WalkKit
import Derived.KernelRfl
import Derived.RowKit3
import Derived.Deep.LoopGhost
import Derived.Deep.QuietTactic
import Derived.BigQuiet
import Derived.WideLaws
import Derived.Outline
import Derived.Deep.DeepCutAuto
import Derived.Deep.CutBlock
import Derived.WalkSpells
import Derived.RegionTactic
import Derived.BigRegion
import Derived.WalkLawsBesides
namespace Go.Proofs.Ytbcifbogmjfpoaa
set_option linter.unusedVariables false
set_option linter.unusedSimpArgs false
open Go.RowKit Go.Proofs.YtbcifbogmjfpoaaW.PrintWords Go.Proofs.YtbcifbogmjfpoaaW.PrintLast Go.Proofs.YtbcifbogmjfpoaaW.PrintMore
namespace Bits
open Go.Bits
open PBitsDoes
theorem ref_of_yes (n : Nat) (h : n ≤ 4096) : chantryref05_Of.f n = some (List.replicate n false, 0) := by
  unfold chantryref05_Of.f
  rw [if_neg (by omega), if_neg (by omega), if_pos (by omega), if_pos (by omega)]
  simp
theorem ref_of_no (n : Int) (h : n < 0 ∨ 4096 < n) : chantryref05_Of.f n = some ([], 1) := by
  unfold chantryref05_Of.f
  by_cases h0 : n < 0
  · rw [if_pos h0]
  · rw [if_neg h0, if_pos (by omega)]
theorem rdOf_get (l : List Bool) (i : Int) (h : 0 ≤ i) : rdOf false l i = l.getD i.toNat false := by
  unfold rdOf
  first | rfl | simp
theorem ref_add (l : List Bool) (i : Int) (hl : l.length ≤ 4096) : chantryref05_Add.f 1 l i = some (addL l i) := by
  unfold chantryref05_Add.f addL
  by_cases h0 : i < 0
  · rw [if_pos h0, if_pos (.inl h0)]; rfl
  · rw [if_neg h0]
    by_cases h1 : i ≥ (l.length : Int)
    · rw [if_pos (.inr h1)]; simp [chantryref05_Add.j0, h1]
    · rw [if_neg (by omega)]
      simp only [chantryref05_Add.j0, h1, decide_false, Bool.false_eq_true, if_false]
      rw [if_pos (by omega), if_pos (by omega), rdOf_get l i (by omega)]
      split
      · rfl
      · simp only [chantryref05_put.f, Option.bind_some, List.nil_append, List.length_nil]
        rw [if_pos (by omega), if_pos (by omega), if_pos (by omega)]
        rfl
theorem ref_drop (l : List Bool) (i : Int) (hl : l.length ≤ 4096) : chantryref05_Drop.f 1 l i = some (dropL l i) := by
  unfold chantryref05_Drop.f dropL
  by_cases h0 : i < 0
  · rw [if_pos h0, if_pos (.inl h0)]; rfl
  · rw [if_neg h0]
    by_cases h1 : i ≥ (l.length : Int)
    · rw [if_pos (.inr h1)]; simp [chantryref05_Drop.j0, h1]
    · rw [if_neg (by omega)]
      simp only [chantryref05_Drop.j0, h1, decide_false, Bool.false_eq_true, if_false]
      rw [if_pos (by omega), if_pos (by omega), rdOf_get l i (by omega)]
      cases l.getD i.toNat false
      · simp
      · simp only [chantryref05_put.f, Option.bind_some, List.nil_append, List.length_nil]
        have e1 : l.length < 140737488355328 := by omega
        have e2 : (0 : Int) ≤ i := by omega
        have e3 : i < (l.length : Int) := by omega
        simp [e1, e2, e3]
theorem ref_has (l : List Bool) (i : Int) : chantryref05_Has.f l i = some (hasL l i) := by
  unfold chantryref05_Has.f
  by_cases h0 : i ≥ 0
  · rw [if_pos h0]
    by_cases h1 : i < l.length
    · rw [if_pos h1, if_pos h0, rdOf_get l i h0, hasL_in h0]
    · rw [if_neg h1, hasL_out (by omega)]
  · rw [if_neg h0, hasL_out (by omega)]
theorem wrap_small (x : Nat) (h : x < 5000) : wrap64 ((x : Int) + 1) = ((x + 1 : Nat) : Int) := by
  rw [show ((x : Int) + 1) = ((x + 1 : Nat) : Int) by omega]
  first | (unfold wrap64; omega) | (simp [wrap64]; omega)
theorem ref_list_l (l : List Bool) (hl : l.length ≤ 4096) : ∀ (k : Nat) (p : Nat) (xs : List Int), l.length < p + k → xs.length ≤ p → p ≤ l.length → chantryref05_List.l0 k xs p l = some (xs ++ listAt l true p)
  | 0, p, xs, h1, h2, h3 => by omega
  | k + 1, p, xs, h1, h2, h3 => by
    simp only [chantryref05_List.l0]
    by_cases hp : p < l.length
    · rw [if_pos (by omega), if_pos (by omega), rdOf_get l p (by omega), wrap_small p (by omega)]
      simp only [Int.toNat_natCast]
      by_cases hb : l.getD p false = true
      · rw [if_pos hb, if_pos (by omega), ref_list_l l hl k (p + 1) _ (by omega) (by simp; omega) (by omega), list_hit hp hb]
        simp
      · rw [if_neg hb, ref_list_l l hl k (p + 1) _ (by omega) (by omega) (by omega), list_miss (i := p) fun _ => hb]
    · rw [if_neg (by omega), list_end (by omega)]; simp
theorem ref_list (l : List Bool) (hl : l.length ≤ 4096) : chantryref05_List.f 5000 l = some (listL l) := by
  have := ref_list_l l hl 5000 0 [] (by omega) (Nat.le_refl _) (by omega)
  simpa [chantryref05_List.f, listL] using this
theorem ref_first_l (l : List Bool) (i : Int) (c : Bool) (hl : l.length ≤ 4096) : ∀ (k : Nat) (p : Nat), l.length < p + k → p ≤ l.length → chantryref05_First.l0 k i c p l = some (firstAt l c (max p i.toNat))
  | 0, p, h1, h3 => by omega
  | k + 1, p, h1, h3 => by
    simp only [chantryref05_First.l0]
    by_cases hp : p < l.length
    · rw [if_pos (by omega), rdOf_get l p (by omega), wrap_small p (by omega)]
      simp only [Int.toNat_natCast]
      by_cases hi : (p : Int) ≥ i
      · rw [if_pos hi, if_pos (by omega), show max p i.toNat = p by omega]
        by_cases hb : l.getD p false = c
        · rw [if_pos (by simpa using hb), first_hit hp hb]
        · rw [if_neg (by simpa using hb), ref_first_l l i c hl k (p + 1) (by omega) (by omega), first_miss (i := p) fun _ => hb, show max (p + 1) i.toNat = p + 1 by omega]
      · rw [if_neg hi, ref_first_l l i c hl k (p + 1) (by omega) (by omega), show max (p + 1) i.toNat = max p i.toNat by omega]
    · rw [if_neg (by omega), first_end (by omega)]
theorem ref_first (l : List Bool) (i : Int) (c : Bool) (hl : l.length ≤ 4096) : chantryref05_First.f 5000 l i c = some (firstL l i c) := by
  have := ref_first_l l i c hl 5000 0 (by omega) (by omega)
  simpa [chantryref05_First.f, firstL] using this
theorem ints_l (l : List Int) (hl : l.length ≤ 4096) : ∀ (k : Nat) (p : Nat), l.length < p + k → p ≤ l.length → chantryref01_Ints.l0 k l l p = some true
  | 0, p, h1, h3 => by omega
  | k + 1, p, h1, h3 => by
    simp only [chantryref01_Ints.l0]
    by_cases hp : p < l.length
    · rw [if_pos (by omega), if_pos (by omega), if_pos (by omega), if_pos True.intro, wrap_small p (by omega), ints_l l hl k (p + 1) (by omega) (by omega)]
    · rw [if_neg (by omega)]
theorem ints_same (l : List Int) (hl : l.length ≤ 4096) : chantryref01_Ints.f 5000 l l = some true := by
  unfold chantryref01_Ints.f
  rw [if_pos rfl]
  exact ints_l l hl 5000 0 (by omega) (by omega)
theorem listL_len (l : List Bool) (hl : l.length ≤ 4096) : (listL l).length ≤ 4096 := Nat.le_trans (list_len l true _ 0 rfl) (by omega)
theorem addL_len (l : List Bool) (i : Int) : (addL l i).1.length = l.length := by rw [addL_turn]; exact turnL_len _ _ _ _
theorem dropL_len (l : List Bool) (i : Int) : (dropL l i).1.length = l.length := by rw [dropL_turn]; exact turnL_len _ _ _ _
end Bits
end Go.Proofs.Ytbcifbogmjfpoaa
