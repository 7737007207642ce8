/- Plain law of the sectors: what was put is got, what was got is put. -/
import Derived.Test.YtkfbegmfepehiaaSc
import Derived.Test.YtkfbegmfepehiaaQs2
namespace Go.Proofs.Ytkfbegmfepehiaa
set_option linter.unusedVariables false
set_option linter.unusedSimpArgs false
set_option linter.ambiguousOpen false
open Go.RowKit Go.Proofs.YtkfbegmfepehiaaW.PrintWords Go.Proofs.YtkfbegmfepehiaaW.PrintLast Go.Proofs.YtkfbegmfepehiaaW.PrintMore
namespace Sect
open Go.Num Go.Crc Go.Proofs.Ytkfbegmfepehiaa.Cell
theorem put_body {k e n l : Int} {d : List Int} (h : secOk k e n l d = true) : putS k e n l d = (sealB (bodyS k e n l d), 0) := by unfold putS; rw [if_pos h]
theorem body_eq (k e n l : Int) (d : List Int) : bodyS k e n l d = leB k 1 ++ (leB (d.length : Int) 1 ++ (leB l 2 ++ (leB e 4 ++ (leB n 4 ++ (d ++ List.replicate (48 - d.length) 0))))) := by
  unfold bodyS headS
  simp
theorem num_le (v : Int) (j : Nat) (h0 : 0 ≤ v) (h1 : v ≤ 2147483647) (hj1 : 1 ≤ j) (hj : j ≤ 4) (hs : v < 256 ^ j) : numP (leB v j) = v := by
  unfold numP
  rw [unfix_le v h0 h1 j hj1 hj hs]
  rfl
theorem num_of (ys : List Int) (hb : ∀ x ∈ ys, 0 ≤ x ∧ x ≤ 255) (j : Nat) (hl : ys.length = j) (h : 0 ≤ numP ys) : (unfixP ys).2 = 0 ∧ numP ys = (unfixP ys).1 ∧ leB (numP ys) j = ys := by
  have h2 : (unfixP ys).2 = 0 := Classical.byContradiction (fun e => by
    unfold numP at h
    rw [if_pos e] at h
    omega)
  have h3 : numP ys = (unfixP ys).1 := by unfold numP; rw [if_neg (by simp [h2])]
  exact ⟨h2, h3, by rw [h3]; exact unfix_leB ys hb j hl h2⟩
theorem raw_body (k e n l : Int) (d : List Int) (h : secOk k e n l d = true) : rawS (bodyS k e n l d) = ⟨k, e, n, l, d⟩ ∧ okS (bodyS k e n l d) = true := by
  obtain ⟨h1, h2, h3, h4, h5, h6, h7, h8, h9⟩ := ok_parts h
  obtain ⟨B, hB⟩ : ∃ B, B = bodyS k e n l d := ⟨_, rfl⟩
  rw [← hB]
  rw [body_eq] at hB
  have p1 : (256 : Int) ^ 1 = 256 := by decide
  have p : (256 : Int) ^ 2 = 65536 := by decide
  have p4 : (256 : Int) ^ 4 = 4294967296 := by decide
  obtain ⟨a1, b1⟩ := cut2 1 hB (leB_len _ _)
  obtain ⟨a2, b2⟩ := cut2 1 b1 (leB_len _ _)
  obtain ⟨a3, b3⟩ := cut2 2 b2 (leB_len _ _)
  obtain ⟨a4, b4⟩ := cut2 4 b3 (leB_len _ _)
  obtain ⟨a5, b5⟩ := cut2 4 b4 (leB_len _ _)
  obtain ⟨a6, b6⟩ := cut2 d.length b5 rfl
  simp only [List.drop_drop] at a2 a3 a4 a5 a6 b6
  have hs : sizeS B = (d.length : Int) := by
    unfold sizeS
    rw [a2, num_le _ 1 (by omega) (by omega) (by omega) (by omega) (by omega)]
  have hr : rawS B = ⟨k, e, n, l, d⟩ := by
    unfold rawS
    rw [hs, Int.toNat_natCast, List.drop_zero, a1, show (B.drop 12).take d.length = d from a6, show (B.drop 2).take 2 = leB l 2 from a3, show (B.drop 4).take 4 = leB e 4 from a4, show (B.drop 8).take 4 = leB n 4 from a5, num_le k 1 (by omega) (by omega) (by omega) (by omega) (by omega), num_le l 2 (by omega) (by omega) (by omega) (by omega) (by omega), num_le e 4 (by omega) (by omega) (by omega) (by omega) (by omega), num_le n 4 (by omega) (by omega) (by omega) (by omega) (by omega)]
  refine ⟨hr, ?_⟩
  unfold okS
  rw [hr, hs, Int.toNat_natCast, h, decide_eq_true (by omega)]
  have e : B.drop (12 + d.length) = List.replicate (48 - d.length) 0 := by
    rw [← b6]
  rw [e, maxL_rep]
  rfl
theorem get_put (k e n l : Int) (d : List Int) (h : secOk k e n l d = true) : getS (putS k e n l d).1 = (⟨k, e, n, l, d⟩, 0) := by
  obtain ⟨h1, h2⟩ := raw_body k e n l d h
  rw [put_body h]
  unfold getS
  rw [if_neg (by rw [seal_len, bodyS_len _ _ _ _ _ (ok_parts h).2.2.2.2.2.2.2.2]; decide), open_seal, if_neg (by simp), if_pos h2, h1]
theorem own_len {l : List Int} (hl : l.length = 64) (h : (openP l).2 = 0) : (openP l).1.length = 60 := by rw [(open_len l h).1, List.length_take, hl]; omega
theorem body_raw (own : List Int) (hl : own.length = 60) (hb : ∀ x ∈ own, 0 ≤ x ∧ x ≤ 255) (hs : sizeS own ≤ 48) (hc : secOk (rawS own).k (rawS own).e (rawS own).n (rawS own).l (rawS own).d = true) :
    bodyS (rawS own).k (rawS own).e (rawS own).n (rawS own).l (rawS own).d = own ↔ maxL (own.drop (12 + (sizeS own).toNat)) = 0 := by
  obtain ⟨h1, h2, h3, h4, h5, h6, h7, h8, h9⟩ := ok_parts hc
  have hlen : ∀ i j : Nat, i + j ≤ 60 → ((own.drop i).take j).length = j := fun i j h => by rw [List.length_take, List.length_drop, hl]; omega
  have hz1 := unfix1 ((own.drop 1).take 1) (hlen 1 1 (by omega)) (take_byte hb 1 1)
  have hsz : sizeS own = unB ((own.drop 1).take 1) := by unfold sizeS numP; rw [hz1.1]; rfl
  have g0 : leB (rawS own).k 1 = (own.drop 0).take 1 := (num_of _ (take_byte hb 0 1) 1 (hlen 0 1 (by omega)) (by show 0 ≤ (rawS own).k; omega)).2.2
  have g1 : leB (sizeS own) 1 = (own.drop 1).take 1 := (num_of _ (take_byte hb 1 1) 1 (hlen 1 1 (by omega)) (by show 0 ≤ sizeS own; rw [hsz]; exact hz1.2.1)).2.2
  have g2 : leB (rawS own).l 2 = (own.drop 2).take 2 := (num_of _ (take_byte hb 2 2) 2 (hlen 2 2 (by omega)) (by show 0 ≤ (rawS own).l; omega)).2.2
  have g4 : leB (rawS own).e 4 = (own.drop 4).take 4 := (num_of _ (take_byte hb 4 4) 4 (hlen 4 4 (by omega)) (by show 0 ≤ (rawS own).e; omega)).2.2
  have g8 : leB (rawS own).n 4 = (own.drop 8).take 4 := (num_of _ (take_byte hb 8 4) 4 (hlen 8 4 (by omega)) (by show 0 ≤ (rawS own).n; omega)).2.2
  have hsr : 0 ≤ sizeS own := by rw [hsz]; exact hz1.2.1
  have hdl : (rawS own).d.length = (sizeS own).toNat := by
    unfold rawS
    rw [List.length_take, List.length_drop, hl]
    omega
  have hds : ((rawS own).d.length : Int) = sizeS own := by rw [hdl]; omega
  have hsplit : own = (own.drop 0).take 1 ++ ((own.drop 1).take 1 ++ ((own.drop 2).take 2 ++ ((own.drop 4).take 4 ++ ((own.drop 8).take 4 ++ ((rawS own).d ++ own.drop (12 + (sizeS own).toNat)))))) := by
    have s0 : own.drop 0 = (own.drop 0).take 1 ++ own.drop 1 := by rw [show own.drop 1 = (own.drop 0).drop 1 by rw [List.drop_drop], List.take_append_drop]
    have s1 : own.drop 1 = (own.drop 1).take 1 ++ own.drop 2 := by rw [show own.drop 2 = (own.drop 1).drop 1 by rw [List.drop_drop], List.take_append_drop]
    have s2 : own.drop 2 = (own.drop 2).take 2 ++ own.drop 4 := by rw [show own.drop 4 = (own.drop 2).drop 2 by rw [List.drop_drop], List.take_append_drop]
    have s4 : own.drop 4 = (own.drop 4).take 4 ++ own.drop 8 := by rw [show own.drop 8 = (own.drop 4).drop 4 by rw [List.drop_drop], List.take_append_drop]
    have s8 : own.drop 8 = (own.drop 8).take 4 ++ own.drop 12 := by rw [show own.drop 12 = (own.drop 8).drop 4 by rw [List.drop_drop], List.take_append_drop]
    have s12 : own.drop 12 = (rawS own).d ++ own.drop (12 + (sizeS own).toNat) := by
      unfold rawS
      rw [← List.drop_drop, List.take_append_drop]
    rw [← s12, ← s8, ← s4, ← s2, ← s1, ← s0, List.drop_zero]
  rw [body_eq, g0, g2, g4, g8, hds, g1]
  have hrl : (own.drop (12 + (sizeS own).toNat)).length = 48 - (rawS own).d.length := by
    rw [List.length_drop, hl, hdl]; omega
  constructor
  · intro h
    have h' := List.append_cancel_left (List.append_cancel_left (List.append_cancel_left (List.append_cancel_left (List.append_cancel_left (List.append_cancel_left (h.trans hsplit))))))
    rw [← h', maxL_rep]
  · intro h
    have hz := all_zero _ (fun x hx => hb x (List.mem_of_mem_drop hx)) h
    rw [hrl] at hz
    rw [← hz, ← hsplit]
theorem okS_iff (own : List Int) (hl : own.length = 60) (hb : ∀ x ∈ own, 0 ≤ x ∧ x ≤ 255) :
    okS own = true ↔ (unfixP ((own.drop 4).take 4)).2 = 0 ∧ (unfixP ((own.drop 8).take 4)).2 = 0 ∧ sizeS own ≤ 48 ∧ (putS (rawS own).k (rawS own).e (rawS own).n (rawS own).l (rawS own).d).2 = 0 ∧ (putS (rawS own).k (rawS own).e (rawS own).n (rawS own).l (rawS own).d).1 = sealB own := by
  have hlen : ∀ i j : Nat, i + j ≤ 60 → ((own.drop i).take j).length = j := fun i j h => by rw [List.length_take, List.length_drop, hl]; omega
  constructor
  · intro h
    unfold okS at h
    simp only [Bool.and_eq_true, decide_eq_true_eq] at h
    obtain ⟨h1, h2, h3⟩ := h
    obtain ⟨q1, q2, q3, q4, q5, q6, q7, q8, q9⟩ := ok_parts h2
    have e4 := (num_of _ (take_byte hb 4 4) 4 (hlen 4 4 (by omega)) (show 0 ≤ (rawS own).e by omega)).1
    have e8 := (num_of _ (take_byte hb 8 4) 4 (hlen 8 4 (by omega)) (show 0 ≤ (rawS own).n by omega)).1
    refine ⟨e4, e8, h1, ?_, ?_⟩
    · rw [put_body h2]
    · rw [put_body h2, (body_raw own hl hb h1 h2).2 h3]
  · rintro ⟨_, _, h1, h2, h3⟩
    have hc : secOk (rawS own).k (rawS own).e (rawS own).n (rawS own).l (rawS own).d = true := by
      by_cases h : secOk (rawS own).k (rawS own).e (rawS own).n (rawS own).l (rawS own).d = true
      · exact h
      · unfold putS at h2
        rw [if_neg h] at h2
        cases h2
    rw [put_body hc] at h3
    have := (body_raw own hl hb h1 hc).1 (seal_inj h3)
    unfold okS
    rw [decide_eq_true h1, hc, decide_eq_true this]
    rfl
theorem put_get (l : List Int) (hb : ∀ x ∈ l, 0 ≤ x ∧ x ≤ 255) (h : (getS l).2 = 0) : putS (getS l).1.k (getS l).1.e (getS l).1.n (getS l).1.l (getS l).1.d = (l, 0) := by
  unfold getS at *
  split at h
  · cases h
  · rename_i hl
    rw [if_neg hl]
    split at h
    · rename_i h2; exact absurd h h2
    · rename_i h2
      rw [if_neg h2]
      have h2' : (openP l).2 = 0 := Classical.not_not.1 h2
      split at h
      · rename_i h3
        rw [if_pos h3]
        obtain ⟨_, _, _, h4, h5⟩ := (okS_iff _ (own_len (Classical.not_not.1 hl) h2') (own_byte hb h2')).1 h3
        rw [← open_ok l h2'] at h5
        exact Prod.ext h5 h4
      · cases h
theorem same_any {w : World} (k e n l : Int) (A A' : Option Addr) (c c' : Nat) (d : List Int) (hC : Kd.C (Kd.int .u8) w A d.length d) (hc : d.length ≤ c) (hC' : Kd.C (Kd.int .u8) w A' d.length d) (hc' : d.length ≤ c') :
    Calls Try.prog 26 #[.agg #[.int .i64 k, .int .i64 e, .int .i64 n, .int .i64 l, .slice A d.length c], .agg #[.int .i64 k, .int .i64 e, .int .i64 n, .int .i64 l, .slice A' d.length c']] w fun z w' => z = .returned (.bool true) ∧ Below w.heap.size w w' := by
  refine PSectorGets.chantryref07_Same.calls k e n l A c d k e n l A' c' d true w hC hc hC' hc' ?_
  unfold PSectorGets.chantryref07_Same.f
  rw [if_pos rfl, if_pos rfl, if_pos rfl, if_pos rfl]
  simp
end Sect
end Go.Proofs.Ytkfbegmfepehiaa
