/- Plain law of the turned sector: what was sealed and turned within four bytes in a row is sealed no more. -/
import Derived.Test.YtkfbegmfepehiaaSh
import Derived.Test.YtkfbegmfepehiaaKq
namespace Go.Proofs.Ytkfbegmfepehiaa
set_option linter.unusedVariables false
set_option linter.unusedSimpArgs false
set_option linter.ambiguousOpen false
open Go.RowKit Go.Proofs.YtkfbegmfepehiaaW.PrintWords Go.Proofs.YtkfbegmfepehiaaW.PrintLast Go.Proofs.YtkfbegmfepehiaaW.PrintMore
namespace Sect
open Go.Num Go.Crc Go.Proofs.Ytkfbegmfepehiaa.Cell
/-- The turn of each byte, when i of the four are done. -/
def turnAt (a : Nat) (ts : List Int) (i : Nat) (j : Nat) : Int := if a ≤ j ∧ j < a + i then ts.getD (j - a) 0 else 0
def turnL (a : Nat) (ts : List Int) (i : Nat) : List Int := (List.range 64).map (turnAt a ts i)
def bytesT (P : List Int) (a : Nat) (ts : List Int) (i : Nat) : List Int := (List.range 64).map (fun j => xb (P.getD j 0) (turnAt a ts i j))
theorem bytesT_len (P : List Int) (a : Nat) (ts : List Int) (i : Nat) : (bytesT P a ts i).length = 64 := by simp [bytesT]
theorem bytesT_get (P : List Int) (a : Nat) (ts : List Int) (i j : Nat) (hj : j < 64) : (bytesT P a ts i).getD j 0 = xb (P.getD j 0) (turnAt a ts i j) := by
  unfold bytesT
  rw [List.getD_eq_getElem?_getD, List.getElem?_map, List.getElem?_range hj]
  rfl
theorem bytesT_zip (P : List Int) (hP : P.length = 64) (a : Nat) (ts : List Int) (i : Nat) : bytesT P a ts i = List.zipWith xb P (turnL a ts i) := by
  apply List.ext_getElem
  · simp [bytesT, turnL, hP]
  · intro j h1 h2
    have hj : j < 64 := by simpa [bytesT] using h1
    simp [bytesT, turnL, List.getD_eq_getElem?_getD, List.getElem?_eq_getElem (show j < P.length by omega)]
theorem bytesT_zero (P : List Int) (hP : P.length = 64) (hb : ∀ x ∈ P, 0 ≤ x ∧ x ≤ 255) (a : Nat) (ts : List Int) : bytesT P a ts 0 = P := by
  apply List.ext_getElem
  · simp [bytesT, hP]
  · intro j h1 h2
    have hx := hb _ (List.getElem_mem h2)
    have ht : turnAt a ts 0 j = 0 := by unfold turnAt; rw [if_neg (by omega)]
    simp only [bytesT, List.getElem_map, List.getElem_range, ht]
    rw [List.getD_eq_getElem?_getD, List.getElem?_eq_getElem h2]
    exact xb_zero _ hx.1 (by have := hx.2; simp; omega)
theorem bytesT_succ (P : List Int) (hP : P.length = 64) (hb : ∀ x ∈ P, 0 ≤ x ∧ x ≤ 255) (a : Nat) (ts : List Int) (i : Nat) (hi : a + i < 64) : bytesT P a ts (i + 1) = (bytesT P a ts i).set (a + i) (xb ((bytesT P a ts i).getD (a + i) 0) (ts.getD i 0)) := by
  apply List.ext_getElem
  · simp [bytesT]
  · intro j h1 h2
    have hj : j < 64 := by simpa [bytesT] using h1
    rw [List.getElem_set]
    by_cases he : a + i = j
    · subst he
      have hm : P.getD (a + i) 0 ∈ P := by
        rw [List.getD_eq_getElem?_getD, List.getElem?_eq_getElem (show a + i < P.length by omega)]
        exact List.getElem_mem _
      have hx := hb _ hm
      have t0 : turnAt a ts i (a + i) = 0 := by unfold turnAt; rw [if_neg (by omega)]
      have t1 : turnAt a ts (i + 1) (a + i) = ts.getD i 0 := by unfold turnAt; rw [if_pos (by omega), show a + i - a = i by omega]
      rw [if_pos rfl, bytesT_get P a ts i _ hi, t0, xb_zero _ hx.1 (by omega)]
      simp only [bytesT, List.getElem_map, List.getElem_range, t1]
    · rw [if_neg he]
      have t1 : turnAt a ts (i + 1) j = turnAt a ts i j := by
        unfold turnAt
        by_cases h : a ≤ j ∧ j < a + i
        · rw [if_pos h, if_pos (by omega)]
        · rw [if_neg h, if_neg (by omega)]
      simp only [bytesT, List.getElem_map, List.getElem_range, t1]
theorem turnAt_byte (a : Nat) (ts : List Int) (hb : ∀ x ∈ ts, 0 ≤ x ∧ x ≤ 255) (i j : Nat) : 0 ≤ turnAt a ts i j ∧ turnAt a ts i j ≤ 255 := by
  unfold turnAt
  split
  · rw [List.getD_eq_getElem?_getD]
    cases h : ts[j - a]? with
    | none => simp
    | some x => exact hb x (List.mem_of_getElem? h)
  · omega
theorem bytesT_byte (P : List Int) (hb : ∀ x ∈ P, 0 ≤ x ∧ x ≤ 255) (a : Nat) (ts : List Int) (ht : ∀ x ∈ ts, 0 ≤ x ∧ x ≤ 255) (i : Nat) : ∀ x ∈ bytesT P a ts i, 0 ≤ x ∧ x ≤ 255 := by
  intro x hx
  unfold bytesT at hx
  obtain ⟨j, _, rfl⟩ := List.mem_map.1 hx
  refine xb_byte _ _ ?_ (turnAt_byte a ts ht i j)
  rw [List.getD_eq_getElem?_getD]
  cases h : P[j]? with
  | none => simp
  | some x => exact hb x (List.mem_of_getElem? h)
theorem turnL_eq (a : Nat) (ha : a ≤ 60) (ts : List Int) (ht : ts.length = 4) : turnL a ts 4 = List.replicate a 0 ++ (ts ++ List.replicate (60 - a) 0) := by
  apply List.ext_getElem
  · simp [turnL, ht]; omega
  · intro j h1 h2
    have hj : j < 64 := by simpa [turnL] using h1
    simp only [turnL, List.getElem_map, List.getElem_range, turnAt]
    by_cases h : a ≤ j ∧ j < a + 4
    · rw [if_pos h, List.getElem_append_right (by simp; omega), List.getElem_append_left (by simp; omega)]
      rw [List.getD_eq_getElem?_getD, List.getElem?_eq_getElem (by omega)]
      simp
    · rw [if_neg h]
      by_cases hl : j < a
      · rw [List.getElem_append_left (by simp; omega)]
        simp
      · rw [List.getElem_append_right (by simp; omega), List.getElem_append_right (by simp; omega)]
        simp
theorem turned_bad (B : List Int) (hB : B.length = 60) (a : Nat) (ha : a ≤ 60) (ts : List Int) (ht : ts.length = 4) (hb : ∀ x ∈ ts, 0 ≤ x ∧ x ≤ 255) (hne : ∃ t ∈ ts, t ≠ 0) :
    (openP (bytesT (sealB B) a ts 4)).2 = 12 := by
  have hl : (sealB B).length = 64 := by rw [seal_len, hB]
  obtain ⟨D, hD⟩ : ∃ D, D = turnL a ts 4 := ⟨_, rfl⟩
  have hDl : D.length = 64 := by rw [hD]; simp [turnL]
  have hDb : ∀ t ∈ D, 0 ≤ t ∧ t ≤ 255 := fun t h => by
    rw [hD] at h
    obtain ⟨j, _, rfl⟩ := List.mem_map.1 h
    exact turnAt_byte a ts hb 4 j
  have hz : bytesT (sealB B) a ts 4 = List.zipWith xb B (D.take 60) ++ List.zipWith xb (leB (Crc.sum B) 4) (D.drop 60) := by
    rw [bytesT_zip _ hl, ← hD]
    unfold sealB
    conv => lhs; rw [← List.take_append_drop 60 D]
    rw [List.zipWith_append (by rw [List.length_take, hB, hDl]; rfl)]
  have z1 : (List.zipWith xb B (D.take 60)).length = 60 := by rw [List.length_zipWith, List.length_take, hB, hDl]; rfl
  unfold openP
  by_cases h : (bytesT (sealB B) a ts 4).length < 4 ∨ (bytesT (sealB B) a ts 4).drop ((bytesT (sealB B) a ts 4).length - 4) ≠ leB (Crc.sum ((bytesT (sealB B) a ts 4).take ((bytesT (sealB B) a ts 4).length - 4))) 4
  · rw [if_pos h]
  · exfalso
    have h2 : (bytesT (sealB B) a ts 4).drop ((bytesT (sealB B) a ts 4).length - 4) = leB (Crc.sum ((bytesT (sealB B) a ts 4).take ((bytesT (sealB B) a ts 4).length - 4))) 4 := Classical.byContradiction (fun e => h (Or.inr e))
    rw [bytesT_len, hz] at h2
    rw [show 64 - 4 = (List.zipWith xb B (D.take 60)).length by rw [z1], List.drop_left, List.take_left] at h2
    have h3 := turned B D (by omega) (by rw [hB]; exact h2.symm) hDb
    rw [hD, turnL_eq a ha ts ht] at h3
    obtain ⟨t, htm, hn⟩ := hne
    exact hn (burst a (60 - a) ts ht hb h3 t htm)
theorem bits_xor8 (x y : Int) (hx : 0 ≤ x ∧ x ≤ 255) (hy : 0 ≤ y ∧ y ≤ 255) : Go.bits .xor .u8 x y = xb x y := by
  have hr := xb_byte x y hx hy
  obtain ⟨n, rfl⟩ := Int.eq_ofNat_of_zero_le hx.1
  obtain ⟨m, rfl⟩ := Int.eq_ofNat_of_zero_le hy.1
  have hxb : xb (n : Int) (m : Int) = ((n ^^^ m : Nat) : Int) := by
    unfold xb
    rw [BitVec.toNat_xor, b32_nat n (by omega), b32_nat m (by omega)]
  rw [hxb] at hr ⊢
  unfold Go.bits
  simp only
  show IntKind.wrap .u8 ((BitVec.ofInt 8 (n : Int) ^^^ BitVec.ofInt 8 (m : Int)).toNat : Int) = _
  rw [IntKind.wrap_u8, BitVec.toNat_xor, BitVec.ofInt_natCast, BitVec.ofInt_natCast, BitVec.toNat_ofNat, BitVec.toNat_ofNat, Nat.mod_eq_of_lt (show n < 2 ^ 8 by omega), Nat.mod_eq_of_lt (show m < 2 ^ 8 by omega)]
  omega
end Sect
end Go.Proofs.Ytkfbegmfepehiaa
