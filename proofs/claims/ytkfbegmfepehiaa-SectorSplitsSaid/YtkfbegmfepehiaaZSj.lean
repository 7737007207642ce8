import Derived.Test.YtkfbegmfepehiaaZSg
import Derived.Test.YtkfbegmfepehiaaZQs6
import Derived.Test.YtkfbegmfepehiaaZQs7
import Derived.Test.YtkfbegmfepehiaaZKw
import Derived.KernelRfl
namespace Go.Proofs.Ytkfbegmfepehiaa
set_option linter.unusedVariables false
set_option linter.unusedSimpArgs false
set_option linter.ambiguousOpen false
open Go.RowKit Go.Proofs.YtkfbegmfepehiaaW.PrintWords Go.Proofs.YtkfbegmfepehiaaW.PrintLast Go.Proofs.YtkfbegmfepehiaaW.PrintMore
namespace Sect
open Go.Num Go.Crc Go.Proofs.Ytkfbegmfepehiaa.Cell
theorem xmay3_plain (k e n l : Int) (d : List Int) : PSectorGets.chantryref07_may.f k e n l d = some (secOk k e n l d) := by
  unfold PSectorGets.chantryref07_may.f secOk
  repeat' split
  all_goals first | (congr 1; exact decide_eq_decide.2 (by omega)) | (congr 1; exact (decide_eq_false (by omega)).symm)
theorem xneedS_plain (n : Nat) (h : n ≤ 100000000) : PSectorGets.chantryref07_Need.f (n : Int) = some (needS n : Int) := by
  unfold PSectorGets.chantryref07_Need.f needS
  by_cases h0 : (n : Int) ≤ 0
  · rw [if_pos h0]; congr 1; omega
  · rw [if_neg h0]
    congr 1
    have e1 : wrap64 ((n : Int) - 1) = ((n - 1 : Nat) : Int) := by rw [wrap_id _ (by omega) (by omega)]; omega
    have e2 : Int.tdiv ((n - 1 : Nat) : Int) 48 = (((n - 1) / 48 : Nat) : Int) := by rw [Int.tdiv_eq_ediv_of_nonneg (by omega)]; rfl
    rw [e1, e2, wrap_id (((n - 1) / 48 : Nat) : Int) (by omega) (by omega), wrap_id _ (by omega) (by omega)]
    omega
theorem xneedS_any {w : World} (n : Nat) (h : n ≤ 100000000) : Calls Try.prog 33 #[.int .i64 (n : Int)] w fun e w' => e = .returned (.int .i64 (needS n : Int)) ∧ Below w.heap.size w w' :=
  (PSectorGets.chantryref07_Need.calls _ _ w (xneedS_plain n h)).mono (fun e w' hh => ⟨hh.1, by first | exact hh.2 | exact hh.2.below⟩)
theorem numS_eq (n : Int) (h0 : 0 ≤ n) (h1 : n ≤ 2147483647) : ∀ j : Nat, j ≤ 100000 → numS n j = n + j
  | 0, _ => by simp [numS]
  | j + 1, h => by
    unfold numS
    rw [numS_eq n h0 h1 j (by omega), wrap_id _ (by omega) (by omega)]
    omega
theorem pieceS_cut (text : List Int) (i : Nat) (e : Nat) (he : e = min (48 * (i + 1)) text.length) : (text.take e).drop (48 * i) = pieceS text i := by
  unfold pieceS
  rw [List.drop_take, he]
  by_cases h : 48 * (i + 1) ≤ text.length
  · rw [Nat.min_eq_left h]; congr 1; omega
  · rw [Nat.min_eq_right (by omega)]
    rw [List.take_of_length_le (by rw [List.length_drop]; omega), List.take_of_length_le (by rw [List.length_drop]; omega)]
theorem all_noS (k e n : Int) (text : List Int) (N i : Nat) (hi : i < N) (h : ¬ okSec (secOf k e n text i) = true) : ¬ (List.range N).all (fun j => okSec (secOf k e n text j)) = true := fun e => h (List.all_eq_true.1 e i (List.mem_range.2 hi))
theorem doc_fromS (k e n l : Int) (d text : List Int) (N : Nat) (hT : N = needS text.length) (hpos : 0 < N) (hfew : text.length ≤ 100000) (hn : 0 ≤ n ∧ n ≤ 2147483647) :
    ∀ (m i f : Nat), i + m = N → (∀ j, j < i → okSec (secOf k e n text j) = true) →
      PSectorGets.chantryref07_Split.l0 (f + 2 * m + 1) text (N : Int) (secsAt k e n text i) (i : Int) k e n l d = some (if (List.range N).all (fun j => okSec (secOf k e n text j)) = true then (secsAt k e n text N, 0) else ([], 1))
  | 0, i, f, h, hok => by
    simp only [PSectorGets.chantryref07_Split.l0]
    rw [if_neg (by omega), if_pos (List.all_eq_true.2 (fun j hj => hok j (by have := List.mem_range.1 hj; omega)))]
    rw [show i = N by omega]
  | m + 1, i, f, h, hok => by
    have hi : i < N := by omega
    have hT' : N = (text.length + 47) / 48 := hT
    have w1 : wrap64 ((i : Int) + 1) = ((i + 1 : Nat) : Int) := by unfold wrap64; omega
    have w2 : wrap64 (48 * ((i + 1 : Nat) : Int)) = ((48 * (i + 1) : Nat) : Int) := by unfold wrap64; omega
    have w3 : wrap64 (48 * (i : Int)) = ((48 * i : Nat) : Int) := by unfold wrap64; omega
    have w4 : wrap64 (n + (i : Int)) = numS n i := by rw [numS_eq n hn.1 hn.2 i (by omega), wrap_id _ (by omega) (by omega)]
    have w5 : wrap64 ((N : Int) - 1) = (N : Int) - 1 := wrap_id _ (by omega) (by omega)
    have w6 : wrap64 ((N : Int) - 1 - (i : Int)) = (N : Int) - 1 - (i : Int) := wrap_id _ (by omega) (by omega)
    have e0 : ∀ (z : Nat), z = min (48 * (i + 1)) text.length → PSectorGets.chantryref07_Split.j1 (f + 2 * m + 2) text (N : Int) (secsAt k e n text i) (i : Int) (z : Int) k e n l d = some (if (List.range N).all (fun j => okSec (secOf k e n text j)) = true then (secsAt k e n text N, 0) else ([], 1)) := by
      intro z hz
      rw [show f + 2 * m + 2 = (f + 2 * m + 1) + 1 by omega]
      simp only [PSectorGets.chantryref07_Split.j1]
      rw [w1, w3, w4, w5, w6]
      simp only [Int.toNat_natCast]
      rw [if_pos (by omega), if_pos (by omega), if_pos (by omega), Option.bind_some, pieceS_cut text i z hz]
      have hstep : ∀ kk, kk = kindS k i → ((PSectorGets.chantryref07_may.f kk e (numS n i) ((N : Int) - 1 - (i : Int)) (pieceS text i)).bind fun t => (if t = true then (if (secsAt k e n text i).length < 2513169434916 then (PSectorGets.chantryref07_Split.l0 (f + 2 * m + 1) text (N : Int) (secsAt k e n text i ++ [(⟨kk, e, numS n i, (N : Int) - 1 - (i : Int), pieceS text i⟩ : Se)]) ((i + 1 : Nat) : Int) k e n l d) else none) else (some (([] : List Se), 1)))) = some (if (List.range N).all (fun j => okSec (secOf k e n text j)) = true then (secsAt k e n text N, 0) else ([], 1)) := by
        intro kk hkk
        subst hkk
        rw [xmay3_plain, Option.bind_some]
        have hs : secOf k e n text i = ⟨kindS k i, e, numS n i, (N : Int) - 1 - (i : Int), pieceS text i⟩ := by unfold secOf; rw [← hT]
        by_cases h1 : secOk (kindS k i) e (numS n i) ((N : Int) - 1 - (i : Int)) (pieceS text i) = true
        · have hk : okSec (secOf k e n text i) = true := by rw [hs]; exact h1
          rw [if_pos h1, if_pos (by rw [secsAt_len]; omega), ← hs, ← secsAt_succ]
          exact doc_fromS k e n l d text N hT hpos hfew hn m (i + 1) f (by omega) (fun j hj => if e : j = i then by rw [e]; exact hk else hok j (by omega))
        · rw [if_neg h1, if_neg (all_noS k e n text N i hi (fun c => h1 (by rw [hs] at c; exact c)))]
      by_cases h0 : i = 0
      · rw [if_neg (by omega)]
        exact hstep k (by unfold kindS; rw [if_pos h0])
      · rw [if_pos (by omega)]
        exact hstep _ (by unfold kindS; rw [if_neg h0])
    rw [show f + 2 * (m + 1) + 1 = (f + 2 * m + 2) + 1 by omega]
    simp only [PSectorGets.chantryref07_Split.l0]
    rw [if_pos (by omega), w1, w2]
    by_cases hc : ((48 * (i + 1) : Nat) : Int) > (text.length : Int)
    · rw [if_pos hc]; exact e0 text.length (by omega)
    · rw [if_neg hc]; exact e0 (48 * (i + 1)) (by omega)
theorem okSec_num {x : Se} (h : okSec x = true) : 0 ≤ x.f2 ∧ x.f2 ≤ 2147483647 := by
  unfold okSec secOk at h
  have := of_decide_eq_true h
  omega
theorem doc_split (k e n l : Int) (d text : List Int) (hfew : text.length ≤ 100000) : ∃ f, PSectorGets.chantryref07_Split.f f k e n l d text = some (splitP k e n text) := by
  unfold splitP
  have hf : ∀ f, PSectorGets.chantryref07_Split.f f k e n l d text = if (needS text.length : Int) = 0 then some ([], 1) else (if (needS text.length : Int) > 65536 then some ([], 3) else (if n < 0 then some ([], 1) else (if n > 2147483647 then some ([], 1) else PSectorGets.chantryref07_Split.l0 f text (needS text.length : Int) [] 0 k e n l d))) := fun f => by
    unfold PSectorGets.chantryref07_Split.f
    rw [xneedS_plain _ (by omega), Option.bind_some]
  have hN : needS text.length = (text.length + 47) / 48 := rfl
  by_cases h0 : text.length = 0
  · refine ⟨0, ?_⟩
    rw [hf, if_pos h0, if_pos (by omega)]
  · rw [if_neg h0]
    by_cases hn : 0 ≤ n ∧ n ≤ 2147483647
    · refine ⟨0 + 2 * needS text.length + 1, ?_⟩
      rw [hf, if_neg (by omega), if_neg (by omega), if_neg (by omega), if_neg (by omega)]
      exact doc_fromS k e n l d text _ rfl (by omega) hfew hn (needS text.length) 0 0 (by omega) (fun j hj => by omega)
    · refine ⟨0, ?_⟩
      rw [if_neg (all_noS k e n text _ 0 (by omega) (fun h => hn (okSec_num h)))]
      rw [hf, if_neg (by omega), if_neg (by omega)]
      by_cases h1 : n < 0
      · rw [if_pos h1]
      · rw [if_neg h1, if_pos (by omega)]
theorem secsAt_get (k e n : Int) (text : List Int) (m i : Nat) (h : i < m) : PSectorGets.rd_T44 (secsAt k e n text m) (i : Int) = secOf k e n text i := by
  unfold PSectorGets.rd_T44 secsAt
  rw [Int.toNat_natCast, List.getD_eq_getElem?_getD, List.getElem?_map, List.getElem?_range h]
  rfl
theorem take_pieceS (text : List Int) (i : Nat) : text.take (48 * i) ++ pieceS text i = text.take (48 * (i + 1)) := by
  unfold pieceS
  rw [Nat.mul_succ, List.take_add]
theorem join_fromS (k e n : Int) (text : List Int) (N : Nat) (hT : N = needS text.length) (hpos : 0 < N) (hfew : text.length ≤ 100000) (hok : ∀ j, j < N → okSec (secOf k e n text j) = true) :
    ∀ (m i f : Nat), i + m = N → PSectorGets.sector_Join.l0 (f + m + 1) (secsAt k e n text N) (text.take (48 * i)) (secsAt k e n text N) (N : Int) (i : Int) = some (text, true)
  | 0, i, f, h => by
    simp only [PSectorGets.sector_Join.l0]
    rw [if_neg (by omega)]
    have e : text.take (48 * i) = text := List.take_of_length_le (by unfold needS at hT; omega)
    rw [e]
  | m + 1, i, f, h => by
    have hi : i < N := by omega
    have hT' : N = (text.length + 47) / 48 := hT
    have w1 : wrap64 ((i : Int) + 1) = ((i + 1 : Nat) : Int) := by unfold wrap64; omega
    have hlen : (text.take (48 * i)).length + (secOf k e n text i).f4.length < 140737488355328 := by
      have : (secOf k e n text i).f4.length ≤ 48 := by
        show (pieceS text i).length ≤ 48
        unfold pieceS
        rw [List.length_take]
        omega
      rw [List.length_take]
      omega
    have hacc : text.take (48 * i) ++ (secOf k e n text i).f4 = text.take (48 * (i + 1)) := take_pieceS text i
    have ih := join_fromS k e n text N hT hpos hfew hok m (i + 1) f (by omega)
    obtain ⟨g, hg⟩ : ∃ g, g = f + m + 1 := ⟨_, rfl⟩
    rw [← hg] at ih
    rw [show f + (m + 1) + 1 = g + 1 by omega]
    simp only [PSectorGets.sector_Join.l0]
    rw [if_pos (by omega), if_pos (by omega), if_pos (by rw [secsAt_len]; omega), secsAt_get _ _ _ _ _ _ hi]
    rw [may_plain, show secOk (secOf k e n text i).f0 (secOf k e n text i).f1 (secOf k e n text i).f2 (secOf k e n text i).f3 (secOf k e n text i).f4 = true from hok i hi]
    simp only [Option.bind_some, if_true]
    by_cases h0 : i = 0
    · rw [if_neg (by omega), if_pos hlen, hacc, w1]
      exact ih
    · obtain ⟨p, rfl⟩ : ∃ p, i = p + 1 := ⟨i - 1, by omega⟩
      have w2 : wrap64 (((p + 1 : Nat) : Int) - 1) = (p : Int) := by rw [wrap_id _ (by omega) (by omega)]; omega
      rw [if_pos (by omega), if_pos (by rw [secsAt_len]; omega), w2, if_pos (by omega), if_pos (by rw [secsAt_len]; omega), secsAt_get _ _ _ _ _ p (by omega)]
      have hz := secsAt_get k e n text N 0 hpos
      rw [show ((0 : Nat) : Int) = 0 from rfl] at hz
      rw [hz]
      have hfl : PSectorGets.sector_follows.f (secOf k e n text 0).f0 (secOf k e n text p).f0 (secOf k e n text p).f1 (secOf k e n text p).f2 (secOf k e n text p).f3 (secOf k e n text p).f4 (secOf k e n text (p + 1)).f0 (secOf k e n text (p + 1)).f1 (secOf k e n text (p + 1)).f2 (secOf k e n text (p + 1)).f3 (secOf k e n text (p + 1)).f4 = some true := by
        unfold PSectorGets.sector_follows.f
        rw [if_pos (by simp [secOf, kindS]), if_pos (by simp [secOf]), if_pos (by simp [secOf, numS])]
        rw [if_pos (by show (needS text.length : Int) - 1 - ((p + 1 : Nat) : Int) = wrap64 ((needS text.length : Int) - 1 - (p : Int) - 1); rw [← hT, wrap_id _ (by omega) (by omega)]; omega)]
        have hl : (secOf k e n text p).f4.length = 48 := by
          show (pieceS text p).length = 48
          unfold pieceS
          rw [List.length_take, List.length_drop]
          omega
        rw [hl]
        rfl
      rw [hfl]
      simp only [Option.bind_some, if_true]
      rw [if_pos hlen, hacc, w1]
      exact ih
theorem join_splitS (k e n : Int) (text : List Int) (hfew : text.length ≤ 100000) : ∃ f, PSectorGets.sector_Join.f f (splitP k e n text).1 = some (if (splitP k e n text).2 = 0 then text else [], decide ((splitP k e n text).2 = 0)) := by
  unfold splitP
  by_cases h0 : text.length = 0
  · rw [if_pos h0]
    exact ⟨1, rfl⟩
  · rw [if_neg h0]
    by_cases h1 : (List.range (needS text.length)).all (fun j => okSec (secOf k e n text j)) = true
    · rw [if_pos h1]
      have hN : needS text.length = (text.length + 47) / 48 := rfl
      have hpos : 0 < needS text.length := by omega
      refine ⟨(0 + needS text.length + 1) + 1, ?_⟩
      have hw : wrap64 ((needS text.length : Int) - 1) = ((needS text.length - 1 : Nat) : Int) := by rw [wrap_id _ (by omega) (by omega)]; omega
      have hz := secsAt_get k e n text (needS text.length) 0 hpos
      rw [show ((0 : Nat) : Int) = 0 from rfl] at hz
      unfold PSectorGets.sector_Join.f
      rw [secsAt_len, if_neg (by omega), if_pos (by omega), hz, hw, if_pos (by show (needS text.length : Int) - 1 - ((0 : Nat) : Int) = _; omega), if_pos (by omega), if_pos (by omega), secsAt_get _ _ _ _ _ _ (by omega)]
      have hl : (secOf k e n text (needS text.length - 1)).f4.length ≠ 0 := by
        show (pieceS text (needS text.length - 1)).length ≠ 0
        unfold pieceS
        rw [List.length_take, List.length_drop]
        omega
      rw [show (((secOf k e n text (needS text.length - 1)).f4.length : Int) == 0) = false by rw [beq_eq_false_iff_ne]; omega]
      simp only [PSectorGets.sector_Join.j0]
      rw [if_neg (by decide), secsAt_len]
      exact join_fromS k e n text _ rfl hpos hfew (fun j hj => List.all_eq_true.1 h1 j (List.mem_range.2 hj)) (needS text.length) 0 0 (by omega)
    · rw [if_neg h1]
      exact ⟨1, rfl⟩
theorem same_fromS (l : List Se) (hl : l.length ≤ 1000000) : ∀ (d i k : Nat), i + d = l.length → PSectorGets.chantryref07_SameAll.l0 (k + d + 1) l l (i : Int) = some true
  | 0, i, k, h => by
    simp only [PSectorGets.chantryref07_SameAll.l0]
    rw [if_neg (by omega)]
  | d + 1, i, k, h => by
    rw [show k + (d + 1) + 1 = (k + d + 1) + 1 by omega]
    simp only [PSectorGets.chantryref07_SameAll.l0]
    have w1 : wrap64 ((i : Int) + 1) = ((i + 1 : Nat) : Int) := by unfold wrap64; omega
    have hs : ∀ c : Se, PSectorGets.chantryref07_Same.f c.f0 c.f1 c.f2 c.f3 c.f4 c.f0 c.f1 c.f2 c.f3 c.f4 = some true := fun c => by
      unfold PSectorGets.chantryref07_Same.f
      rw [if_pos rfl, if_pos rfl, if_pos rfl, if_pos rfl]
      simp
    rw [if_pos (by omega), if_pos (by omega), if_pos (by omega), hs, Option.bind_some, if_pos rfl, w1]
    exact same_fromS l hl d (i + 1) k (by omega)
theorem sameallS_any {w : World} (l : List Se) (hl : l.length ≤ 1000000) (A A' : Option Addr) (c c' : Nat) (hC : Kd.C PSectorGets.k44 w A l.length l) (hc : l.length ≤ c) (hC' : Kd.C PSectorGets.k44 w A' l.length l) (hc' : l.length ≤ c') :
    Calls Try.prog 31 #[.slice A l.length c, .slice A' l.length c'] w fun e w' => e = .returned (.bool true) ∧ Below w.heap.size w w' :=
  PSectorGets.chantryref07_SameAll.calls (0 + l.length + 1) A c l A' c' l true w hC hc hC' hc' (by
    unfold PSectorGets.chantryref07_SameAll.f
    rw [if_pos rfl]
    exact same_fromS l hl l.length 0 0 (by omega))
theorem xsplit_any {w : World} (k e n l : Int) (AD : Option Addr) (cd : Nat) (d : List Int) (A : Option Addr) (c : Nat) (text : List Int) (hD : Kd.C (Kd.int .u8) w AD d.length d) (hcd : d.length ≤ cd) (hT : Kd.C (Kd.int .u8) w A text.length text) (hct : text.length ≤ c) (hfew : text.length ≤ 100000) :
    Calls Try.prog 29 #[.agg #[.int .i64 k, .int .i64 e, .int .i64 n, .int .i64 l, .slice AD d.length cd], .slice A text.length c] w fun r w' => ∃ A' c', r = .returned (.tuple #[.slice A' (splitP k e n text).1.length c', .int .i64 (splitP k e n text).2]) ∧ (splitP k e n text).1.length ≤ c' ∧ (∀ x, Below w'.heap.size w' x → Kd.C PSectorGets.k44 x A' (splitP k e n text).1.length (splitP k e n text).1) ∧ Below w.heap.size w w' := by
  obtain ⟨f, hf⟩ := doc_split k e n l d text hfew
  refine (PSectorGets.chantryref07_Split.calls f k e n l AD cd d (fun k => k < w.heap.size) A c text _ _ w hD hcd (Kd.V_mk hct (Kd.C_F (Kd.heap_int _) hT)) hf).mono ?_
  rintro r w1 ⟨v, rfl, hn, b⟩
  obtain ⟨A', c', rfl, hc', hC'⟩ := Kd.N_reads hn
  refine ⟨A', c', rfl, hc', fun x hx => ?_, b⟩
  exact (Kd.N_reads' (Kd.N_below hn hx)).2.2
theorem splitP_len (k e n : Int) (text : List Int) : (splitP k e n text).1.length ≤ needS text.length := by
  unfold splitP
  repeat' split
  all_goals first | exact Nat.zero_le _ | (rw [secsAt_len]; exact Nat.le_refl _)
theorem joinS_any {w : World} (k e n : Int) (text : List Int) (hfew : text.length ≤ 100000) (A : Option Addr) (c : Nat) (hC : Kd.C PSectorGets.k44 w A (splitP k e n text).1.length (splitP k e n text).1) (hc : (splitP k e n text).1.length ≤ c) :
    Calls Try.prog 30 #[.slice A (splitP k e n text).1.length c] w fun r w' => ∃ A' n' c', r = .returned (.tuple #[.slice A' n' c', .bool (decide ((splitP k e n text).2 = 0))]) ∧ ((splitP k e n text).2 = 0 → n' = text.length ∧ ∀ x, Below w'.heap.size w' x → Kd.C (Kd.int .u8) x A' text.length text) ∧ Below w.heap.size w w' := by
  obtain ⟨f, hf⟩ := join_splitS k e n text hfew
  refine (PSectorGets.sector_Join.calls f A c _ _ _ w hC hc hf).mono ?_
  rintro r w1 ⟨v, rfl, hr, b⟩
  obtain ⟨A', c', rfl⟩ := Kd.R_slice hr
  refine ⟨A', _, c', rfl, fun h0 => ?_, b⟩
  rw [if_pos h0] at hr ⊢
  exact ⟨rfl, stable_R hr⟩
set_option maxHeartbeats 16000000 in
set_option maxRecDepth 100000 in
theorem splits_walk {w : World} (k e n l : Int) (AD : Option Addr) (cd : Nat) (d : List Int) (A : Option Addr) (c : Nat) (text : List Int) (hD : Kd.C (Kd.int .u8) w AD d.length d) (hcd : d.length ≤ cd) (hT : Kd.C (Kd.int .u8) w A text.length text) (hct : text.length ≤ c) (hb : ∀ x ∈ text, 0 ≤ x ∧ x ≤ 255) :
    Calls Try.prog 8 #[.agg #[.int .i64 k, .int .i64 e, .int .i64 n, .int .i64 l, .slice AD d.length cd], .slice A text.length c] w fun r w' => r = .returned (.bool true) ∧ Below w.heap.size w w' := by
  have HD := Aside0.mk hD
  have HT := Aside0.mk hT
  have HBY := Aside0.mk hb
  clear hD hT hb
  obtain ⟨tn, htn⟩ : ∃ tn, tn = text.length := ⟨_, rfl⟩
  obtain ⟨dn, hdn⟩ : ∃ dn, dn = d.length := ⟨_, rfl⟩
  rw [← htn] at hct
  rw [← hdn] at hcd
  rw [← htn, ← hdn]
  have HTN := Aside0.mk htn
  have HDN := Aside0.mk hdn
  clear htn hdn
  by_cases hbig : tn > 600
  · have h1 : (600 : Int) < (tn : Int) := by omega
    clear hbig
    go_enter Try.func8, Try.ntmps8
    go_wp2_with fail
    refine awake_any.mono ?_
    rintro r w1 ⟨rfl, b⟩
    have HB := Aside0.mk (((Below.refl w.heap.size w).alloc (Nat.le_refl _) _).trans (b.mono (by simp)))
    clear b
    go_wp2_with fail
    go_ret
    exact ⟨rfl, HB.out⟩
  · have h1 : ¬ ((600 : Int) < (tn : Int)) := by omega
    clear hbig
    go_enter Try.func8, Try.ntmps8
    go_wp2_with fail
    obtain ⟨W0, hW0⟩ : ∃ W0, W0 = w.alloc (.cells #[.int .i64 k, .int .i64 e, .int .i64 n, .int .i64 l, .slice AD dn cd] 44) := ⟨_, rfl⟩
    have hB0 : Below w.heap.size w W0 := by rw [hW0]; exact (Below.refl _ _).alloc (Nat.le_refl _) _
    have hX0 : W0.heap[w.heap.size]? = some (.cells #[.int .i64 k, .int .i64 e, .int .i64 n, .int .i64 l, .slice AD dn cd] 44 (0, 0)) := by rw [hW0]; exact heap_alloc_new w _
    rw [← hW0]
    have HB0 := Aside0.mk hB0
    have HX0 := Aside0.mk hX0
    clear hW0 hB0 hX0
    have hfew : text.length ≤ 100000 := by have := HTN.out; omega
    obtain ⟨PC, hPC⟩ : ∃ PC, PC = splitP k e n text := ⟨_, rfl⟩
    obtain ⟨cl, hcl⟩ : ∃ z, z = PC.1.length := ⟨_, rfl⟩
    obtain ⟨cr, hcr⟩ : ∃ z, z = PC.2 := ⟨_, rfl⟩
    have k1 := split_any k e n l AD cd dn A c text (Kd.C_below HT.out HB0.out) (by rw [← HTN.out]; exact hct) hfew HBY.out
    have k2 := fun {x : World} (hx : Below w.heap.size w x) => xsplit_any k e n l AD cd d A c text (Kd.C_below HD.out hx) (by rw [← HDN.out]; exact hcd) (Kd.C_below HT.out hx) (by rw [← HTN.out]; exact hct) hfew
    have k3 := fun {x : World} (A' : Option Addr) (c' : Nat) => joinS_any (w := x) k e n text hfew A' c'
    have hsm : PC.1.length ≤ needS tn := by rw [hPC, HTN.out]; exact splitP_len k e n text
    rw [← hPC, ← hcl, ← hcr, ← HTN.out] at k1
    simp only [← hPC, ← hcl, ← hcr, ← HTN.out, ← HDN.out] at k2 k3
    have K2 := Aside0.mk @k2
    have K3 := Aside0.mk @k3
    have HCL := Aside0.mk hcl
    have HSM := Aside0.mk hsm
    clear k2 k3 hPC hcl hcr hfew hsm
    refine k1.mono ?_
    clear k1
    rintro r w1 ⟨A1, c1, rfl, hc1, hC1, b1⟩
    have HC1 := Aside0.mk hC1
    have HB1 := Aside0.mk (HB0.out.trans (b1.mono HB0.out.size))
    obtain ⟨q0, q1, q2, q3, q4⟩ := cells5 ((b1.block _ (blk_lt HX0.out)).trans HX0.out)
    clear hC1 b1
    go_wp2_with fail
    clear q0 q1 q2 q3 q4
    refine (K2.out HB1.out).mono ?_
    clear K2
    rintro r w2 ⟨A2, c2, rfl, hc2, hC2, b2⟩
    have HB2 := Aside0.mk (HB1.out.trans (b2.mono HB1.out.size))
    have HD2 := Aside0.mk (show ∀ x, Below w2.heap.size w2 x → Kd.C PSectorGets.k44 x A1 cl PC.1 from fun x hx => HC1.out x (b2.trans (hx.mono b2.size)))
    have HC2 := Aside0.mk hC2
    clear b2 hC2 HC1 HB1
    go_wp2_with fail
    refine (K3.out A1 c1 (HD2.out _ (Below.refl _ _)) hc1).mono ?_
    clear K3
    rintro r w3 ⟨A3, n3, c3, rfl, hj, b3⟩
    have HB3 := Aside0.mk (HB2.out.trans (b3.mono HB2.out.size))
    have hN : needS tn = (tn + 47) / 48 := rfl
    have hs3 := sameallS_any PC.1 (by have := HSM.out; omega) A1 A2 c1 c2 (w := w3) (by rw [← HCL.out]; exact HD2.out _ b3) (by rw [← HCL.out]; exact hc1) (by rw [← HCL.out]; exact HC2.out _ b3) (by rw [← HCL.out]; exact hc2)
    rw [← HCL.out] at hs3
    have HS3 := Aside0.mk hs3
    have HJ := Aside0.mk hj
    clear b3 hj hs3 HD2 HC2 hN
    go_wp2_with fail
    refine HS3.out.mono ?_
    clear HS3
    rintro r w4 ⟨rfl, b4⟩
    have HB4 := Aside0.mk (HB3.out.trans (b4.mono HB3.out.size))
    have H34 := Aside0.mk b4
    clear b4
    have hfew : tn ≤ 100000000 := by omega
    have hle : (cl : Int) ≤ (needS tn : Int) := by have := HSM.out; have := HCL.out; omega
    by_cases h0 : cr = 0
    · subst h0
      obtain ⟨hn3, hC3⟩ := HJ.out rfl
      have hn3 : n3 = tn := hn3
      subst hn3
      obtain ⟨U, hU⟩ : ∃ U, U = strOfNums text := ⟨_, rfl⟩
      have hcv1 : (convert 22 9 (.slice A3 n3 c3)).run Try.prog w4 = .ok (.string U) w4 := by rw [hU]; exact strC (hC3 _ H34.out)
      have hcv2 : (convert 22 9 (.slice A n3 c)).run Try.prog w4 = .ok (.string U) w4 := by
        rw [hU]
        have := Kd.C_below HT.out HB4.out
        rw [← HTN.out] at this
        exact strC this
      clear hC3 hU
      go_wp2_with fail
      refine (needS_any n3 hfew).mono ?_
      rintro r w5 ⟨rfl, b5⟩
      have HB5 := Aside0.mk (HB4.out.trans (b5.mono HB4.out.size))
      clear b5
      go_wp2_with fail
      refine (needS_any n3 hfew).mono ?_
      rintro r w5b ⟨rfl, b5⟩
      have HB5b := Aside0.mk (HB5.out.trans (b5.mono HB5.out.size))
      clear b5
      go_wp2_with fail
      refine (xneedS_any n3 hfew).mono ?_
      rintro r w6 ⟨rfl, b6⟩
      have HB6 := Aside0.mk (HB5b.out.trans (b6.mono HB5b.out.size))
      clear b6
      go_wp2_with fail
      refine awake_any.mono ?_
      rintro r w7 ⟨rfl, b7⟩
      have HB7 := Aside0.mk (HB6.out.trans (b7.mono HB6.out.size))
      clear b7
      go_wp2_with fail
      go_ret
      exact ⟨rfl, HB7.out⟩
    · have h0b : (cr == 0) = false := by simpa using h0
      have h0d : decide (cr = 0) = false := by simpa using h0
      go_wp2_with fail
      refine (needS_any tn hfew).mono ?_
      rintro r w5 ⟨rfl, b5⟩
      have HB5 := Aside0.mk (HB4.out.trans (b5.mono HB4.out.size))
      clear b5
      go_wp2_with fail
      refine (needS_any tn hfew).mono ?_
      rintro r w5b ⟨rfl, b5⟩
      have HB5b := Aside0.mk (HB5.out.trans (b5.mono HB5.out.size))
      clear b5
      go_wp2_with fail
      refine (xneedS_any tn hfew).mono ?_
      rintro r w6 ⟨rfl, b6⟩
      have HB6 := Aside0.mk (HB5b.out.trans (b6.mono HB5b.out.size))
      clear b6
      go_wp2_with fail
      refine awake_any.mono ?_
      rintro r w7 ⟨rfl, b7⟩
      have HB7 := Aside0.mk (HB6.out.trans (b7.mono HB6.out.size))
      clear b7
      go_wp2_with fail
      go_ret
      exact ⟨rfl, HB7.out⟩
end Sect
end Go.Proofs.Ytkfbegmfepehiaa
