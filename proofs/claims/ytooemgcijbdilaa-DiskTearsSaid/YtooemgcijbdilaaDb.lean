/- The law's Block: bytes again and again. -/
import Derived.Test.YtooemgcijbdilaaDs
namespace Go.Proofs.Ytooemgcijbdilaa
set_option linter.unusedVariables false
set_option linter.unusedSimpArgs false
open Go.RowKit Go.Proofs.YtooemgcijbdilaaW.PrintWords Go.Proofs.YtooemgcijbdilaaW.PrintLast Go.Proofs.YtooemgcijbdilaaW.PrintMore
namespace Disk
open Go.Disk PDiskDoes
def fillTo (f : Nat → Int) (n i : Nat) : List Int := (List.range n).map fun j => if j < i then f j else 0
theorem fill_len (f : Nat → Int) (n i : Nat) : (fillTo f n i).length = n := by simp [fillTo]
theorem fill_zero (f : Nat → Int) (n : Nat) : fillTo f n 0 = List.replicate n 0 := by
  apply List.ext_getElem
  · rw [fill_len, List.length_replicate]
  · intro i h1 h2
    simp [fillTo]
theorem fill_set (f : Nat → Int) (n i : Nat) : (fillTo f n i).set i (f i) = fillTo f n (i + 1) := by
  apply List.ext_getElem
  · rw [List.length_set, fill_len, fill_len]
  · intro j h1 h2
    rw [List.getElem_set]
    simp only [fillTo, List.getElem_map, List.getElem_range]
    by_cases hj : i = j
    · subst hj; simp
    · rw [if_neg hj]
      by_cases hl : j < i
      · rw [if_pos hl, if_pos (by omega)]
      · rw [if_neg hl, if_neg (by omega)]
theorem fill_mem (f : Nat → Int) (n i : Nat) (P : Int → Prop) (h0 : P 0) (hf : ∀ j, P (f j)) : ∀ x ∈ fillTo f n i, P x := by
  intro x hx
  simp only [fillTo, List.mem_map] at hx
  obtain ⟨j, _, rfl⟩ := hx
  split
  · exact hf j
  · exact h0
def rep8 (bs : List Int) (j : Nat) : Int := bs.getD (j % bs.length) 0
/-- Bytes again and again; zeros, if there are none. -/
def blockOf (bs : List Int) : List Int := if bs.length = 0 then List.replicate 256 0 else fillTo (rep8 bs) 256 256
theorem block_len (bs : List Int) : (blockOf bs).length = 256 := by
  unfold blockOf
  split
  · exact List.length_replicate
  · exact fill_len _ _ _
theorem block_mem (bs : List Int) (h : ∀ x ∈ bs, 0 ≤ x ∧ x ≤ 255) : ∀ x ∈ blockOf bs, 0 ≤ x ∧ x ≤ 255 := by
  unfold blockOf
  split
  · intro x hx
    rw [(List.mem_replicate.1 hx).2]
    omega
  · refine fill_mem _ _ _ _ (by omega) (fun j => ?_)
    unfold rep8
    rw [List.getD_eq_getElem?_getD]
    cases hg : bs[j % bs.length]? with
    | none => simp
    | some x => exact h x (List.mem_of_getElem? hg)
theorem wrap_id (z : Int) (h0 : -9223372036854775808 ≤ z) (h1 : z ≤ 9223372036854775807) : wrap64 z = z := by
  first | (unfold wrap64; omega) | (simp [wrap64]; omega)
theorem block_l (bs : List Int) (hb : bs.length ≠ 0) : ∀ (k i : Nat), 256 < i + k → i ≤ 256 → chantrylaw06_Block.l0 k bs (fillTo (rep8 bs) 256 i) i = some (fillTo (rep8 bs) 256 256)
  | 0, i, h, _ => by omega
  | k + 1, i, h, hi => by
    simp only [chantrylaw06_Block.l0]
    by_cases hlt : i < 256
    · have hm : Int.tmod (i : Int) (bs.length : Int) = ((i % bs.length : Nat) : Int) := by rw [Int.tmod_eq_emod_of_nonneg (by omega)]; rfl
      have hmlt : i % bs.length < bs.length := Nat.mod_lt _ (by omega)
      rw [if_pos (by omega), if_pos (by omega), if_neg (by omega), hm, if_pos (by omega), if_pos (by omega), if_pos (by omega), fill_len, if_pos (by omega), Int.toNat_natCast]
      have hr : rd bs ((i % bs.length : Nat) : Int) = rep8 bs i := by unfold rd rep8; rw [Int.toNat_natCast]
      rw [hr, fill_set, wrap_id _ (by omega) (by omega)]
      exact block_l bs hb k (i + 1) (by omega) (by omega)
    · have : i = 256 := by omega
      subst this
      rw [if_neg (by omega)]
theorem block_nil (bs : List Int) (hb : bs.length = 0) (k : Nat) (acc : List Int) : chantrylaw06_Block.l0 (k + 1) bs acc 0 = some acc := by
  simp only [chantrylaw06_Block.l0]
  rw [if_pos (by omega), if_neg (by omega)]
theorem block_plain (bs : List Int) : chantrylaw06_Block.f 300 bs = some (blockOf bs) := by
  unfold chantrylaw06_Block.f blockOf
  rw [if_pos (by omega)]
  by_cases hb : bs.length = 0
  · rw [if_pos hb]
    exact block_nil bs hb 299 _
  · rw [if_neg hb, ← fill_zero (rep8 bs) 256]
    exact block_l bs hb 300 0 (by omega) (by omega)
theorem Block_any {w : World} (A : Option Addr) (c : Nat) (bs : List Int) (hC : Kd.C (Kd.int .u8) w A bs.length bs) (hc : bs.length ≤ c) :
    Calls Try.prog 11 #[.slice A bs.length c] w fun e w' => ∃ a c', e = .returned (.slice (some a) 256 c') ∧ 256 ≤ c' ∧ Kd.R (Kd.int .u8) 5 w' w.heap.size (fun _ => True) (.slice (some a) 256 c') (blockOf bs) ∧ Below w.heap.size w w' := by
  refine (chantrylaw06_Block.calls 300 A c bs (blockOf bs) w hC hc (block_plain bs)).mono ?_
  rintro e w' ⟨v, rfl, hr, hb⟩
  obtain ⟨A', c', rfl⟩ := Kd.R_slice hr
  have hl := block_len bs
  obtain ⟨a, ha, _⟩ := Kd.at_int (Kd.R_reads' hr).2.2 0 (by omega) (by omega)
  subst ha
  have hc' := (Kd.R_reads' hr).2.1
  rw [hl] at hr hc' ⊢
  exact ⟨a, c', rfl, hc', hr, hb⟩
end Disk
end Go.Proofs.Ytooemgcijbdilaa
