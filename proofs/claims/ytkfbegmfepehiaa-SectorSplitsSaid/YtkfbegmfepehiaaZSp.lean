import Derived.Test.YtkfbegmfepehiaaZSc
import Derived.Test.YtkfbegmfepehiaaZQs2
namespace Go.Proofs.Ytkfbegmfepehiaa
set_option linter.unusedVariables false
set_option linter.unusedSimpArgs false
set_option linter.ambiguousOpen false
open Go.RowKit Go.Proofs.YtkfbegmfepehiaaW.PrintWords Go.Proofs.YtkfbegmfepehiaaW.PrintLast Go.Proofs.YtkfbegmfepehiaaW.PrintMore
namespace Sect
open Go.Num Go.Crc Go.Proofs.Ytkfbegmfepehiaa.Cell
theorem put_body {k e n l : Int} {d : List Int} (h : secOk k e n l d = true) : putS k e n l d = (sealB (bodyS k e n l d), 0) := by unfold putS; rw [if_pos h]
theorem body_eq (k e n l : Int) (d : List Int) : bodyS k e n l d = leB k 1 ++ (leB (d.length : Int) 1 ++ (leB l 2 ++ (leB e 4 ++ (leB n 4 ++ (d ++ List.replicate (48 - d.length) 0))))) := by
  unfold bodyS headS
  simp
theorem num_le (v : Int) (j : Nat) (h0 : 0 ≤ v) (h1 : v ≤ 2147483647) (hj1 : 1 ≤ j) (hj : j ≤ 4) (hs : v < 256 ^ j) : numP (leB v j) = v := by
  unfold numP
  rw [unfix_le v h0 h1 j hj1 hj hs]
  rfl
theorem raw_body (k e n l : Int) (d : List Int) (h : secOk k e n l d = true) : rawS (bodyS k e n l d) = ⟨k, e, n, l, d⟩ ∧ okS (bodyS k e n l d) = true := by
  obtain ⟨h1, h2, h3, h4, h5, h6, h7, h8, h9⟩ := ok_parts h
  obtain ⟨B, hB⟩ : ∃ B, B = bodyS k e n l d := ⟨_, rfl⟩
  rw [← hB]
  rw [body_eq] at hB
  have p1 : (256 : Int) ^ 1 = 256 := by decide
  have p : (256 : Int) ^ 2 = 65536 := by decide
  have p4 : (256 : Int) ^ 4 = 4294967296 := by decide
  obtain ⟨a1, b1⟩ := cut2 1 hB (leB_len _ _)
  obtain ⟨a2, b2⟩ := cut2 1 b1 (leB_len _ _)
  obtain ⟨a3, b3⟩ := cut2 2 b2 (leB_len _ _)
  obtain ⟨a4, b4⟩ := cut2 4 b3 (leB_len _ _)
  obtain ⟨a5, b5⟩ := cut2 4 b4 (leB_len _ _)
  obtain ⟨a6, b6⟩ := cut2 d.length b5 rfl
  simp only [List.drop_drop] at a2 a3 a4 a5 a6 b6
  have hs : sizeS B = (d.length : Int) := by
    unfold sizeS
    rw [a2, num_le _ 1 (by omega) (by omega) (by omega) (by omega) (by omega)]
  have hr : rawS B = ⟨k, e, n, l, d⟩ := by
    unfold rawS
    rw [hs, Int.toNat_natCast, List.drop_zero, a1, show (B.drop 12).take d.length = d from a6, show (B.drop 2).take 2 = leB l 2 from a3, show (B.drop 4).take 4 = leB e 4 from a4, show (B.drop 8).take 4 = leB n 4 from a5, num_le k 1 (by omega) (by omega) (by omega) (by omega) (by omega), num_le l 2 (by omega) (by omega) (by omega) (by omega) (by omega), num_le e 4 (by omega) (by omega) (by omega) (by omega) (by omega), num_le n 4 (by omega) (by omega) (by omega) (by omega) (by omega)]
  refine ⟨hr, ?_⟩
  unfold okS
  rw [hr, hs, Int.toNat_natCast, h, decide_eq_true (by omega)]
  have e : B.drop (12 + d.length) = List.replicate (48 - d.length) 0 := by
    rw [← b6]
  rw [e, maxL_rep]
  rfl
theorem get_put (k e n l : Int) (d : List Int) (h : secOk k e n l d = true) : getS (putS k e n l d).1 = (⟨k, e, n, l, d⟩, 0) := by
  obtain ⟨h1, h2⟩ := raw_body k e n l d h
  rw [put_body h]
  unfold getS
  rw [if_neg (by rw [seal_len, bodyS_len _ _ _ _ _ (ok_parts h).2.2.2.2.2.2.2.2]; decide), open_seal, if_neg (by simp), if_pos h2, h1]
theorem same_any {w : World} (k e n l : Int) (A A' : Option Addr) (c c' : Nat) (d : List Int) (hC : Kd.C (Kd.int .u8) w A d.length d) (hc : d.length ≤ c) (hC' : Kd.C (Kd.int .u8) w A' d.length d) (hc' : d.length ≤ c') :
    Calls Try.prog 26 #[.agg #[.int .i64 k, .int .i64 e, .int .i64 n, .int .i64 l, .slice A d.length c], .agg #[.int .i64 k, .int .i64 e, .int .i64 n, .int .i64 l, .slice A' d.length c']] w fun z w' => z = .returned (.bool true) ∧ Below w.heap.size w w' := by
  refine PSectorGets.chantryref07_Same.calls k e n l A c d k e n l A' c' d true w hC hc hC' hc' ?_
  unfold PSectorGets.chantryref07_Same.f
  rw [if_pos rfl, if_pos rfl, if_pos rfl, if_pos rfl]
  simp
end Sect
end Go.Proofs.Ytkfbegmfepehiaa
