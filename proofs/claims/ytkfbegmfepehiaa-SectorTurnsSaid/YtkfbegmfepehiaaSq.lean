/- The document's Put, of sectors. -/
import Derived.Test.YtkfbegmfepehiaaSp
import Derived.Test.YtkfbegmfepehiaaQs5
namespace Go.Proofs.Ytkfbegmfepehiaa
set_option linter.unusedVariables false
set_option linter.unusedSimpArgs false
set_option linter.ambiguousOpen false
open Go.RowKit Go.Proofs.YtkfbegmfepehiaaW.PrintWords Go.Proofs.YtkfbegmfepehiaaW.PrintLast Go.Proofs.YtkfbegmfepehiaaW.PrintMore
namespace Sect
open Go.Num Go.Crc Go.Proofs.Ytkfbegmfepehiaa.Cell
/-- The document's Put. -/
theorem xput_l0 : ∀ (j : Nat) (b : List Int), b.length + j = 60 → (∀ x ∈ b, 0 ≤ x ∧ x ≤ 255) → PSectorGets.chantryref07_Put.l0 (661 + j + 1) b = some (sealB (b ++ List.replicate j 0), 0)
  | 0, b, h, hb => by
    rw [PSectorGets.chantryref07_Put.l0, if_neg (by omega)]
    have := xseal_plain 0 b hb (by omega)
    rw [show 0 + 11 * b.length + 1 = 661 by omega] at this
    rw [show PSectorGets.chantryref02_Seal.f (661 + 0) b = some (sealB b) from this]
    simp
  | j + 1, b, h, hb => by
    rw [show 661 + (j + 1) + 1 = (661 + j + 1) + 1 by omega]
    rw [PSectorGets.chantryref07_Put.l0]
    rw [if_pos (by omega), if_pos (by omega), xput_l0 j (b ++ [0]) (by rw [List.length_append]; show b.length + 1 + j = 60; omega) (fun x hx => by
      rcases List.mem_append.1 hx with hx | hx
      · exact hb x hx
      · rw [List.mem_singleton.1 hx]; omega)]
    rw [List.append_assoc, List.replicate_succ]
    rfl
theorem xmay_plain (k e n l : Int) (d : List Int) : PSectorGets.chantryref07_may.f k e n l d = some (secOk k e n l d) := by
  unfold PSectorGets.chantryref07_may.f secOk
  repeat' split
  all_goals first | (congr 1; exact decide_eq_decide.2 (by omega)) | (congr 1; exact (decide_eq_false (by omega)).symm)
theorem xput_plain (k e n l : Int) (d : List Int) (hb : ∀ y ∈ d, 0 ≤ y ∧ y ≤ 255) : ∃ f, PSectorGets.chantryref07_Put.f f k e n l d = some (putS k e n l d) := by
  by_cases hc : secOk k e n l d = true
  · obtain ⟨h1, h2, h3, h4, h5, h6, h7, h8, h9⟩ := ok_parts hc
    refine ⟨661 + (48 - d.length) + 1, ?_⟩
    unfold PSectorGets.chantryref07_Put.f
    rw [xmay_plain, hc, put_body hc]
    simp only [Option.bind_some, if_true]
    have q1 : PSectorGets.chantryref01_Fix.f (661 + (48 - d.length) + 1) l 2 = some (leB l 2, 0) := by
      show PCellGets.chantryref01_Fix.f _ _ _ = _
      rw [xfix_any _ (by omega), show (2 : Int) = ((2 : Nat) : Int) from rfl, fix_ok l 2 (by omega) ⟨h3, by omega, by omega⟩]
    have q2 : PSectorGets.chantryref01_Fix.f (661 + (48 - d.length) + 1) e 4 = some (leB e 4, 0) := by
      show PCellGets.chantryref01_Fix.f _ _ _ = _
      rw [xfix_any _ (by omega), show (4 : Int) = ((4 : Nat) : Int) from rfl, fix_ok e 4 (by omega) ⟨h5, by omega, by omega⟩]
    have q3 : PSectorGets.chantryref01_Fix.f (661 + (48 - d.length) + 1) n 4 = some (leB n 4, 0) := by
      show PCellGets.chantryref01_Fix.f _ _ _ = _
      rw [xfix_any _ (by omega), show (4 : Int) = ((4 : Nat) : Int) from rfl, fix_ok n 4 (by omega) ⟨h7, by omega, by omega⟩]
    rw [q1, q2, q3]
    simp only [Option.bind_some]
    have hh : [k % 256, (d.length : Int) % 256] ++ leB l 2 ++ leB e 4 ++ leB n 4 ++ d = headS k e n l d ++ d := by
      unfold headS
      rw [leB1_eq k, leB1_eq (d.length : Int)]
      simp
    rw [if_pos (by simp [leB_len]), if_pos (by simp [leB_len]), if_pos (by simp [leB_len]), if_pos (by simp [leB_len]; omega), hh]
    rw [xput_l0 _ _ (by rw [List.length_append, headS_len]; omega) (fun y hy => by
      rcases List.mem_append.1 hy with h | h
      · exact headS_byte _ _ _ _ _ y h
      · exact hb y h)]
    rfl
  · refine ⟨0, ?_⟩
    unfold PSectorGets.chantryref07_Put.f putS
    rw [xmay_plain, Bool.eq_false_iff.2 hc]
    rfl
theorem xput_any {w : World} (k e n l : Int) (A : Option Addr) (c : Nat) (d : List Int) (hC : Kd.C (Kd.int .u8) w A d.length d) (hc : d.length ≤ c) (hb : ∀ y ∈ d, 0 ≤ y ∧ y ≤ 255) :
    Calls Try.prog 24 #[.agg #[.int .i64 k, .int .i64 e, .int .i64 n, .int .i64 l, .slice A d.length c]] w fun z w' => ∃ v, z = .returned (.tuple #[v, .int .i64 (putS k e n l d).2]) ∧ Kd.R (Kd.int .u8) 5 w' w.heap.size (fun _ => True) v (putS k e n l d).1 ∧ Below w.heap.size w w' := by
  obtain ⟨f, hf⟩ := xput_plain k e n l d hb
  exact PSectorGets.chantryref07_Put.calls f k e n l A c d _ _ w hC hc hf
end Sect
end Go.Proofs.Ytkfbegmfepehiaa
