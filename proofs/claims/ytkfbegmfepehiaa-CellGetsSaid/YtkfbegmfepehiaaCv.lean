/- Plain law: what was cut is joined to the text. -/
import Derived.Test.YtkfbegmfepehiaaCu
import Derived.Test.YtkfbegmfepehiaaCp
import Derived.Test.YtkfbegmfepehiaaQk3
namespace Go.Proofs.Ytkfbegmfepehiaa
set_option linter.unusedVariables false
set_option linter.unusedSimpArgs false
open Go.RowKit Go.Proofs.YtkfbegmfepehiaaW.PrintWords Go.Proofs.YtkfbegmfepehiaaW.PrintLast Go.Proofs.YtkfbegmfepehiaaW.PrintMore
namespace Cell
open Go.Num Go.Crc
theorem short2_plain (n : Int) : PCellCuts.cell_short.f n = some (decide (0 ≤ n ∧ n ≤ 65535)) := short_plain n
theorem may2_plain (o n x : Int) (d : List Int) : PCellCuts.cell_may.f o n x d = some (cellOk o n x d) := may_plain o n x d
theorem cellsAt_get (owner : Int) (places text : List Int) (k i : Nat) (h : i < k) : PCellCuts.rd_T24 (cellsAt owner places text k) (i : Int) = cellOf owner places text i := by
  unfold PCellCuts.rd_T24 cellsAt
  rw [Int.toNat_natCast, List.getD_eq_getElem?_getD, List.getElem?_map, List.getElem?_range h]
  rfl
theorem take_piece (text : List Int) (i : Nat) : text.take (242 * i) ++ pieceOf text i = text.take (242 * (i + 1)) := by
  unfold pieceOf
  rw [Nat.mul_succ, List.take_add]
theorem okAt_iff {owner : Int} {places text : List Int} {j : Nat} (h : okAt owner places text j = true) : cellOk owner (j : Int) (nextOf places j) (pieceOf text j) = true ∧ 1 ≤ places.getD j 0 ∧ places.getD j 0 ≤ 65535 := by
  unfold okAt at h
  simp only [Bool.and_eq_true, decide_eq_true_eq] at h
  exact ⟨h.1, h.2⟩
theorem join_from (owner : Int) (places text : List Int) (N : Nat) (hN : places.length = N) (hT : N = needP text.length) (hpos : 0 < N) (hfew : text.length ≤ 100000) (hok : ∀ j, j < N → okAt owner places text j = true) :
    ∀ (d i k : Nat), i + d = N → PCellCuts.cell_Join.l0 (k + 2 * d + 1) (cellsAt owner places text N) (text.take (242 * i)) (cellsAt owner places text N) (N : Int) (i : Int) = some (text, true)
  | 0, i, k, h => by
    simp only [PCellCuts.cell_Join.l0]
    rw [if_neg (by omega), if_neg (by rw [cellsAt_len]; omega)]
    have e : text.take (242 * i) = text := List.take_of_length_le (by unfold needP at hT; omega)
    rw [e, if_neg (by omega)]
  | d + 1, i, k, h => by
    have hi : i < N := by omega
    have h0 := okAt_iff (hok i hi)
    simp only [PCellCuts.cell_Join.l0]
    rw [if_pos (by omega), if_pos (by omega), if_pos (by rw [cellsAt_len]; omega), cellsAt_get _ _ _ _ _ hi]
    rw [may2_plain, show cellOk (cellOf owner places text i).f0 (cellOf owner places text i).f1 (cellOf owner places text i).f2 (cellOf owner places text i).f3 = true from h0.1]
    simp only [Option.bind_some, if_true]
    rw [if_pos (by rw [cellsAt_len]; omega), if_pos (by have := cellsAt_get owner places text N 0 hpos; rw [show ((0 : Nat) : Int) = 0 from rfl] at this; rw [this]; rfl)]
    rw [show k + 2 * (d + 1) = (k + 2 * d + 1) + 1 by omega]
    simp only [PCellCuts.cell_Join.j1]
    have hw : wrap64 (((cellsAt owner places text N).length : Int) - 1) = (N : Int) - 1 := by
      rw [cellsAt_len]
      have : N ≤ 100000 := by rw [hT]; unfold needP; omega
      unfold wrap64
      omega
    rw [hw]
    have hw1 : wrap64 ((i : Int) + 1) = ((i + 1 : Nat) : Int) := by
      have : N ≤ 100000 := by rw [hT]; unfold needP; omega
      unfold wrap64
      omega
    rw [hw1]
    have h1 : ((cellOf owner places text i).f1 != (i : Int)) = false := by simp [cellOf]
    rw [h1, if_neg (by decide)]
    have hlen : (text.take (242 * i)).length + (cellOf owner places text i).f3.length < 140737488355328 := by
      have : (cellOf owner places text i).f3.length ≤ 242 := by
        show (pieceOf text i).length ≤ 242
        unfold pieceOf
        rw [List.length_take]
        omega
      rw [List.length_take]
      omega
    have hacc : text.take (242 * i) ++ (cellOf owner places text i).f3 = text.take (242 * (i + 1)) := take_piece text i
    by_cases hl : i + 1 = N
    · have e1 : ((i : Int) == (N : Int) - 1) = true := by simp; omega
      have e2 : ((cellOf owner places text i).f2 == 0) = true := by
        show (nextOf places i == 0) = true
        unfold nextOf
        rw [if_neg (by omega)]
        rfl
      rw [e1, e2, if_neg (by decide), if_pos rfl, if_pos hlen, hacc]
      exact join_from owner places text N hN hT hpos hfew hok d (i + 1) k (by omega)
    · have e1 : ((i : Int) == (N : Int) - 1) = false := by simp; omega
      have e2 : ((cellOf owner places text i).f2 == 0) = false := by
        show (nextOf places i == 0) = false
        unfold nextOf
        rw [if_pos (by omega)]
        have := (okAt_iff (hok (i + 1) (by omega))).2.1
        simp
        intro e
        rw [List.getD_eq_getElem?_getD] at this
        omega
      rw [e1, e2, if_neg (by decide), if_neg (by decide), if_neg (by
        show ¬ ((pieceOf text i).length : Int) < 242
        unfold pieceOf
        rw [List.length_take, List.length_drop]
        unfold needP at hT
        omega), if_pos hlen, hacc]
      exact join_from owner places text N hN hT hpos hfew hok d (i + 1) k (by omega)
/-- What was cut is joined to the text; nothing is joined out of nothing. -/
theorem join_cut (owner : Int) (places text : List Int) (hfew : text.length ≤ 100000) : ∃ k, PCellCuts.cell_Join.f k (cutP owner places text).1 = some (if (cutP owner places text).2 = 0 then text else [], decide ((cutP owner places text).2 = 0)) := by
  unfold cutP
  rw [if_neg (by omega)]
  by_cases h1 : places.length = 0 ∨ places.length ≠ needP text.length
  · rw [if_pos h1]
    exact ⟨1, rfl⟩
  · rw [if_neg h1]
    by_cases h2 : (List.range places.length).all (okAt owner places text) = true
    · rw [if_pos h2]
      refine ⟨0 + 2 * places.length + 1, ?_⟩
      unfold PCellCuts.cell_Join.f
      rw [cellsAt_len]
      have := join_from owner places text places.length rfl (by omega) (by omega) hfew (fun j hj => List.all_eq_true.1 h2 j (List.mem_range.2 hj)) places.length 0 0 (by omega)
      simpa using this
    · rw [if_neg h2]
      exact ⟨1, rfl⟩
end Cell
end Go.Proofs.Ytkfbegmfepehiaa
