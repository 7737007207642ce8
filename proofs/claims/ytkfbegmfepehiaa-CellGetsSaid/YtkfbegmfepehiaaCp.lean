/- Plain law of cells: got of put, put of got; the document's Put -/
import Derived.Test.YtkfbegmfepehiaaCb
import Derived.Test.YtkfbegmfepehiaaKr
import Derived.Test.YtkfbegmfepehiaaQc5
import Derived.Test.YtkfbegmfepehiaaPCellGetsx2
import Derived.Below
import Derived.Lib.Hide
import Derived.OwnWalk
import Derived.WalkKit
import Derived.KernelRfl
import Derived.RowKit3
import Derived.Deep.LoopGhost
import Derived.Deep.QuietTactic
import Derived.BigQuiet
import Derived.WideLaws
import Derived.Great.BuildSlice
import Derived.Outline
import Derived.Deep.DeepCutAuto
import Derived.WalkSpells
import Derived.RegionTactic
import Derived.BigRegion
import Derived.WalkLawsBesides
import Derived.IntWalk
import Derived.Deep.Slices
import Derived.Lib.AppendZerosOnto
namespace Go.Proofs.Ytkfbegmfepehiaa
set_option linter.unusedVariables false
set_option linter.unusedSimpArgs false
open Go.RowKit Go.Proofs.YtkfbegmfepehiaaW.PrintWords Go.Proofs.YtkfbegmfepehiaaW.PrintLast Go.Proofs.YtkfbegmfepehiaaW.PrintMore
namespace Cell
open Go.Num Go.Crc PCellGets

theorem append_same {a b c d : List Int} (h : a ++ b = c ++ d) (hl : a.length = c.length) : a = c ∧ b = d := List.append_inj h hl
theorem open_seal (l : List Int) : openP (sealB l) = (l, 0) := by
  unfold openP
  have e : (sealB l).length - 4 = l.length := by rw [seal_len]; omega
  rw [e, if_neg]
  · unfold sealB
    rw [List.take_left]
  · rintro (h | h)
    · rw [seal_len] at h; omega
    · apply h
      unfold sealB
      rw [List.drop_left, List.take_left]
theorem open_ok (l : List Int) (h : (openP l).2 = 0) : l = sealB (openP l).1 := by
  unfold openP at *
  split at h
  · cases h
  · rename_i hn
    rw [if_neg hn]
    have h2 : l.drop (l.length - 4) = leB (Crc.sum (l.take (l.length - 4))) 4 := Classical.not_not.1 (fun e => hn (.inr e))
    show l = sealB (l.take (l.length - 4))
    unfold sealB
    rw [← h2, List.take_append_drop]
theorem seal_inj {a b : List Int} (h : sealB a = sealB b) : a = b := by
  have hl : a.length = b.length := by
    have := congrArg List.length h
    rw [seal_len, seal_len] at this
    omega
  unfold sealB at h
  exact (append_same h hl).1
theorem unfix_le (n : Int) (h0 : 0 ≤ n) (h1 : n ≤ 2147483647) (k : Nat) (hk1 : 1 ≤ k) (hk : k ≤ 4) (hs : n < 256 ^ k) : unfixP (leB n k) = (n, 0) := by
  unfold unfixP
  rw [leB_len, if_neg (by omega), unB_leB_small n k h0 hs, if_neg (by omega)]
theorem unfix_leB (l : List Int) (hb : ∀ x ∈ l, 0 ≤ x ∧ x ≤ 255) (k : Nat) (hk : l.length = k) (h2 : (unfixP l).2 = 0) : leB (unfixP l).1 k = l := by
  unfold unfixP at *
  split at h2
  · cases h2
  · rename_i h
    rw [if_neg h]
    split at h2
    · cases h2
    · rename_i h'
      rw [if_neg h', ← hk]
      exact leB_unB l hb
theorem unfix_bad (l : List Int) (h2 : (unfixP l).2 ≠ 0) : (unfixP l).1 = 0 := by
  unfold unfixP at *
  split
  · rfl
  · split
    · rfl
    · rename_i h h'
      rw [if_neg h, if_neg h'] at h2
      exact absurd rfl h2
theorem maxL_rep (k : Nat) : maxL (List.replicate k 0) = 0 := by
  induction k with
  | zero => rfl
  | succ k ih => rw [List.replicate_succ]; simp [maxL, ih]
theorem body_eq (o n x : Int) (d : List Int) : bodyC o n x d = leB o 4 ++ (leB n 2 ++ (leB x 2 ++ (leB (d.length : Int) 2 ++ (d ++ List.replicate (242 - d.length) 0)))) := by
  unfold bodyC headC
  simp
theorem cut2 {a b l : List Int} (k : Nat) (h : l = a ++ b) (hk : a.length = k) : l.take k = a ∧ l.drop k = b := by
  subst h; subst hk
  exact ⟨List.take_left, List.drop_left⟩
theorem okD {o n x : Int} {d : List Int} (h : cellOk o n x d = true) : 1 ≤ o ∧ o ≤ 2147483647 ∧ 0 ≤ n ∧ n ≤ 65535 ∧ 0 ≤ x ∧ x ≤ 65535 ∧ 1 ≤ d.length ∧ d.length ≤ 242 := by
  unfold cellOk at h
  exact of_decide_eq_true h
theorem raw_body (o n x : Int) (d : List Int) (h : cellOk o n x d = true) : rawC (bodyC o n x d) = ⟨o, n, x, d⟩ ∧ okG (bodyC o n x d) = true := by
  obtain ⟨h1, h2, h3, h4, h5, h6, h7, h8⟩ := okD h
  obtain ⟨B, hB⟩ : ∃ B, B = bodyC o n x d := ⟨_, rfl⟩
  rw [← hB]
  rw [body_eq] at hB
  have p : (256 : Int) ^ 2 = 65536 := by decide
  have p4 : (256 : Int) ^ 4 = 4294967296 := by decide
  obtain ⟨a1, b1⟩ := cut2 4 hB (leB_len _ _)
  obtain ⟨a2, b2⟩ := cut2 2 b1 (leB_len _ _)
  obtain ⟨a3, b3⟩ := cut2 2 b2 (leB_len _ _)
  obtain ⟨a4, b4⟩ := cut2 2 b3 (leB_len _ _)
  obtain ⟨a5, b5⟩ := cut2 d.length b4 rfl
  rw [List.drop_drop] at b2 b3 b4 b5 a3 a4 a5
  rw [List.drop_drop] at b3 b4 b5 a4 a5
  rw [List.drop_drop] at b4 b5 a5
  rw [List.drop_drop] at b5
  have hs : sizeC B = (d.length : Int) := by
    unfold sizeC
    rw [show (B.drop 8).take 2 = leB (d.length : Int) 2 from a4, unfix_le _ (by omega) (by omega) 2 (by omega) (by omega) (by omega)]
  have hr : rawC B = ⟨o, n, x, d⟩ := by
    unfold rawC
    rw [hs, Int.toNat_natCast, show (B.drop 10).take d.length = d from a5, a1, a2, show (B.drop 6).take 2 = leB x 2 from a3, unfix_le o (by omega) (by omega) 4 (by omega) (by omega) (by omega), unfix_le n (by omega) (by omega) 2 (by omega) (by omega) (by omega), unfix_le x (by omega) (by omega) 2 (by omega) (by omega) (by omega)]
  refine ⟨hr, ?_⟩
  unfold okG
  rw [hr, hs, Int.toNat_natCast, h, decide_eq_true (by omega)]
  have e : B.drop (10 + d.length) = List.replicate (242 - d.length) 0 := by
    rw [← b5]
    congr 1
    omega
  rw [e, maxL_rep]
  rfl
theorem all_zero (l : List Int) (hb : ∀ x ∈ l, 0 ≤ x ∧ x ≤ 255) (h : maxL l = 0) : l = List.replicate l.length 0 := by
  rw [List.eq_replicate_iff]
  exact ⟨rfl, fun x hx => (maxL_zero l hb).1 h x hx⟩
theorem sizeC_range (own : List Int) (hl : own.length = 252) (hb : ∀ x ∈ own, 0 ≤ x ∧ x ≤ 255) : 0 ≤ sizeC own ∧ sizeC own ≤ 65535 := by
  have h := unfix2 ((own.drop 8).take 2) (by rw [List.length_take, List.length_drop, hl]; omega) (take_byte hb 8 2)
  unfold sizeC
  rw [h.1]
  exact h.2
theorem body_raw (own : List Int) (hl : own.length = 252) (hb : ∀ x ∈ own, 0 ≤ x ∧ x ≤ 255) (hs : sizeC own ≤ 242) (hc : cellOk (rawC own).o (rawC own).n (rawC own).x (rawC own).d = true) :
    bodyC (rawC own).o (rawC own).n (rawC own).x (rawC own).d = own ↔ maxL (own.drop (10 + (sizeC own).toNat)) = 0 := by
  obtain ⟨h1, h2, h3, h4, h5, h6, h7, h8⟩ := okD hc
  have hr := sizeC_range own hl hb
  have l8 : ((own.drop 8).take 2).length = 2 := by rw [List.length_take, List.length_drop, hl]; omega
  have l6 : ((own.drop 6).take 2).length = 2 := by rw [List.length_take, List.length_drop, hl]; omega
  have l4 : ((own.drop 4).take 2).length = 2 := by rw [List.length_take, List.length_drop, hl]; omega
  have l0 : (own.take 4).length = 4 := by rw [List.length_take, hl]; omega
  have e0 : (unfixP (own.take 4)).2 = 0 := Classical.byContradiction (fun e => by
    have := unfix_bad _ e
    have h1' : 1 ≤ (unfixP (own.take 4)).1 := h1
    omega)
  have g0 : leB (rawC own).o 4 = own.take 4 := unfix_leB _ (fun x hx => hb x (List.mem_of_mem_take hx)) 4 l0 e0
  have g4 : leB (rawC own).n 2 = (own.drop 4).take 2 := unfix_leB _ (take_byte hb 4 2) 2 l4 (by rw [(unfix2 _ l4 (take_byte hb 4 2)).1])
  have g6 : leB (rawC own).x 2 = (own.drop 6).take 2 := unfix_leB _ (take_byte hb 6 2) 2 l6 (by rw [(unfix2 _ l6 (take_byte hb 6 2)).1])
  have g8 : leB (sizeC own) 2 = (own.drop 8).take 2 := unfix_leB _ (take_byte hb 8 2) 2 l8 (by rw [(unfix2 _ l8 (take_byte hb 8 2)).1])
  have hdl : (rawC own).d.length = (sizeC own).toNat := by
    unfold rawC
    rw [List.length_take, List.length_drop, hl]
    omega
  have hds : ((rawC own).d.length : Int) = sizeC own := by rw [hdl]; omega
  have hsplit : own = own.take 4 ++ ((own.drop 4).take 2 ++ ((own.drop 6).take 2 ++ ((own.drop 8).take 2 ++ ((rawC own).d ++ own.drop (10 + (sizeC own).toNat))))) := by
    have s4 : own.drop 4 = (own.drop 4).take 2 ++ own.drop 6 := by rw [show own.drop 6 = (own.drop 4).drop 2 by rw [List.drop_drop], List.take_append_drop]
    have s6 : own.drop 6 = (own.drop 6).take 2 ++ own.drop 8 := by rw [show own.drop 8 = (own.drop 6).drop 2 by rw [List.drop_drop], List.take_append_drop]
    have s8 : own.drop 8 = (own.drop 8).take 2 ++ own.drop 10 := by rw [show own.drop 10 = (own.drop 8).drop 2 by rw [List.drop_drop], List.take_append_drop]
    have s10 : own.drop 10 = (rawC own).d ++ own.drop (10 + (sizeC own).toNat) := by
      unfold rawC
      rw [← List.drop_drop, List.take_append_drop]
    rw [← s10, ← s8, ← s6, ← s4, List.take_append_drop]
  rw [body_eq, g0, g4, g6, hds, g8]
  have hrl : (own.drop (10 + (sizeC own).toNat)).length = 242 - (rawC own).d.length := by
    rw [List.length_drop, hl, hdl]; omega
  constructor
  · intro h
    have h' := List.append_cancel_left (List.append_cancel_left (List.append_cancel_left (List.append_cancel_left (List.append_cancel_left (h.trans hsplit)))))
    rw [← h', maxL_rep]
  · intro h
    have hz := all_zero _ (fun x hx => hb x (List.mem_of_mem_drop hx)) h
    rw [hrl] at hz
    rw [← hz, ← hsplit]
theorem put_body {o n x : Int} {d : List Int} (h : cellOk o n x d = true) : putP o n x d = (sealB (bodyC o n x d), 0) := by unfold putP; rw [if_pos h]
/-- What was put is got. -/
theorem get_put (o n x : Int) (d : List Int) (h : cellOk o n x d = true) : getP (putP o n x d).1 = (⟨o, n, x, d⟩, 0) := by
  obtain ⟨h1, h2⟩ := raw_body o n x d h
  have h8 := (okD h).2.2.2.2.2.2.2
  rw [put_body h]
  unfold getP
  rw [if_neg (by rw [seal_len, bodyC_len _ _ _ _ h8]; decide), open_seal, if_neg (by simp), if_pos h2, h1]
theorem own_byte {l : List Int} (hb : ∀ x ∈ l, 0 ≤ x ∧ x ≤ 255) (h : (openP l).2 = 0) : ∀ x ∈ (openP l).1, 0 ≤ x ∧ x ≤ 255 := fun x hx => hb x (by rw [(open_len l h).1] at hx; exact List.mem_of_mem_take hx)
theorem own_len {l : List Int} (hl : l.length = 256) (h : (openP l).2 = 0) : (openP l).1.length = 252 := by rw [(open_len l h).1, List.length_take, hl]; omega
theorem okG_iff (own : List Int) (hl : own.length = 252) (hb : ∀ x ∈ own, 0 ≤ x ∧ x ≤ 255) :
    okG own = true ↔ (unfixP (own.take 4)).2 = 0 ∧ sizeC own ≤ 242 ∧ (putP (rawC own).o (rawC own).n (rawC own).x (rawC own).d).2 = 0 ∧ (putP (rawC own).o (rawC own).n (rawC own).x (rawC own).d).1 = sealB own := by
  constructor
  · intro h
    unfold okG at h
    simp only [Bool.and_eq_true, decide_eq_true_eq] at h
    obtain ⟨h1, h2, h3⟩ := h
    have e0 : (unfixP (own.take 4)).2 = 0 := Classical.byContradiction (fun e => by
      have := unfix_bad _ e
      have h1' : 1 ≤ (unfixP (own.take 4)).1 := (okD h2).1
      omega)
    refine ⟨e0, h1, ?_, ?_⟩
    · rw [put_body h2]
    · rw [put_body h2, (body_raw own hl hb h1 h2).2 h3]
  · rintro ⟨_, h1, h2, h3⟩
    have hc : cellOk (rawC own).o (rawC own).n (rawC own).x (rawC own).d = true := by
      by_cases h : cellOk (rawC own).o (rawC own).n (rawC own).x (rawC own).d = true
      · exact h
      · unfold putP at h2
        rw [if_neg h] at h2
        cases h2
    rw [put_body hc] at h3
    have := (body_raw own hl hb h1 hc).1 (seal_inj h3)
    unfold okG
    rw [decide_eq_true h1, hc, decide_eq_true this]
    rfl
/-- What was got is put as it was. -/
theorem put_get (l : List Int) (hb : ∀ x ∈ l, 0 ≤ x ∧ x ≤ 255) (h : (getP l).2 = 0) : putP (getP l).1.o (getP l).1.n (getP l).1.x (getP l).1.d = (l, 0) := by
  unfold getP at *
  split at h
  · cases h
  · rename_i hl
    rw [if_neg hl]
    split at h
    · rename_i h2; exact absurd h h2
    · rename_i h2
      rw [if_neg h2]
      have h2' : (openP l).2 = 0 := Classical.not_not.1 h2
      split at h
      · rename_i h3
        rw [if_pos h3]
        obtain ⟨_, _, h4, h5⟩ := (okG_iff _ (own_len (Classical.not_not.1 hl) h2') (own_byte hb h2')).1 h3
        rw [← open_ok l h2'] at h5
        exact Prod.ext h5 h4
      · cases h
/-- The document's Put. -/
theorem xput_l1 : ∀ (j : Nat) (b : List Int), b.length + j = 252 → (∀ x ∈ b, 0 ≤ x ∧ x ≤ 255) → chantryref09_Put.l1 (2773 + j + 1) b = some (sealB (b ++ List.replicate j 0), 0)
  | 0, b, h, hb => by
    rw [chantryref09_Put.l1_s, if_neg (by omega)]
    have := xseal_plain 0 b hb (by omega)
    rw [show 0 + 11 * b.length + 1 = 2773 by omega] at this
    rw [this]
    simp
  | j + 1, b, h, hb => by
    rw [chantryref09_Put.l1_s, if_pos (by omega), if_pos (by omega), show 2773 + (j + 1) = 2773 + j + 1 by omega, xput_l1 j (b ++ [0]) (by rw [List.length_append]; show b.length + 1 + j = 252; omega) (fun x hx => by
      rcases List.mem_append.1 hx with hx | hx
      · exact hb x hx
      · rw [List.mem_singleton.1 hx]; omega)]
    rw [List.append_assoc, List.replicate_succ]
    rfl
theorem wrap_id (z : Int) (h0 : -9223372036854775808 ≤ z) (h1 : z ≤ 9223372036854775807) : wrap64 z = z := by
  first | (unfold wrap64; omega) | (simp [wrap64]; omega)
theorem xfix_any (k : Nat) (hk : 7 ≤ k) (n w : Int) : chantryref01_Fix.f k n w = some (fixP n w) := by
  obtain ⟨j, rfl⟩ : ∃ j, k = j + 7 := ⟨k - 7, by omega⟩
  exact xfix_plain j n w
theorem xmay_plain (o n x : Int) (d : List Int) : chantryref09_may.f o n x d = some (cellOk o n x d) := by
  unfold chantryref09_may.f cellOk
  by_cases h1 : o ≥ 1
  · rw [if_pos h1]
    by_cases h2 : o ≤ 2147483647
    · rw [if_pos h2]
      by_cases h3 : n ≥ 0
      · rw [if_pos h3]
        by_cases h3' : n ≤ 65535
        · rw [if_pos h3']
          by_cases h4 : x ≥ 0
          · rw [if_pos h4]
            by_cases h4' : x ≤ 65535
            · rw [if_pos h4']
              by_cases h5 : (d.length : Int) ≥ 1
              · rw [if_pos h5]; congr 1; exact decide_eq_decide.2 (by omega)
              · rw [if_neg h5]; congr 1; exact (decide_eq_false (by omega)).symm
            · rw [if_neg h4']; congr 1; exact (decide_eq_false (by omega)).symm
          · rw [if_neg h4]; congr 1; exact (decide_eq_false (by omega)).symm
        · rw [if_neg h3']; congr 1; exact (decide_eq_false (by omega)).symm
      · rw [if_neg h3]; congr 1; exact (decide_eq_false (by omega)).symm
    · rw [if_neg h2]; congr 1; exact (decide_eq_false (by omega)).symm
  · rw [if_neg h1]; congr 1; exact (decide_eq_false (by omega)).symm
theorem xput_plain (o n x : Int) (d : List Int) (hb : ∀ y ∈ d, 0 ≤ y ∧ y ≤ 255) : ∃ k, chantryref09_Put.f k o n x d = some (putP o n x d) := by
  by_cases hc : cellOk o n x d = true
  · obtain ⟨h1, h2, h3, h4, h5, h6, h7, h8⟩ := okD hc
    refine ⟨2773 + (242 - d.length) + 1 + 4, ?_⟩
    unfold chantryref09_Put.f
    rw [xmay_plain, hc, put_body hc]
    simp only [Option.bind_some, if_true]
    rw [xfix_any _ (by omega), fix_ok4 o ⟨by omega, h2⟩]
    simp only [Option.bind_some]
    have f0 : rd [n, x, (d.length : Int)] 0 = n := rfl
    have f1 : rd [n, x, (d.length : Int)] 1 = x := rfl
    have f2 : rd [n, x, (d.length : Int)] 2 = (d.length : Int) := rfl
    have w1 : wrap64 (0 + 1) = 1 := wrap_id _ (by decide) (by decide)
    have w2 : wrap64 (1 + 1) = 2 := wrap_id _ (by decide) (by decide)
    have w3 : wrap64 (2 + 1) = 3 := wrap_id _ (by decide) (by decide)
    have e0 : leB o 4 = headC o n x d 0 := by simp [headC]
    have hh0 := headC_len o n x d 0 (by omega)
    have hh1 := headC_len o n x d 1 (by omega)
    have hh2 := headC_len o n x d 2 (by omega)
    have hh3 := headC_len o n x d 3 (by omega)
    rw [e0]
    generalize hK : 2773 + (242 - d.length) + 1 = K
    have hK7 : 7 ≤ K := by omega
    simp only [chantryref09_Put.l0]
    rw [if_pos (by decide), if_pos (by decide), if_pos (by simp), f0, xfix_any _ (by omega), fix_small2 n h3 (by omega)]
    simp only [Option.bind_some]
    rw [if_pos (by rw [hh0, leB_len]; decide), headC1, w1]
    rw [if_pos (by decide), if_pos (by decide), if_pos (by simp), f1, xfix_any _ (by omega), fix_small2 x h5 (by omega)]
    simp only [Option.bind_some]
    rw [if_pos (by rw [hh1, leB_len]; decide), headC2, w2]
    rw [if_pos (by decide), if_pos (by decide), if_pos (by simp), f2, xfix_any _ (by omega), fix_small2 _ (by omega) (by omega)]
    simp only [Option.bind_some]
    rw [if_pos (by rw [hh2, leB_len]; decide), headC3, w3]
    rw [if_neg (by decide), if_pos (by rw [hh3]; omega), ← hK, xput_l1 _ _ (by rw [List.length_append, hh3]; omega) (fun y hy => by
      rcases List.mem_append.1 hy with h | h
      · exact headC_byte _ _ _ _ _ y h
      · exact hb y h)]
    rfl
  · refine ⟨0, ?_⟩
    unfold chantryref09_Put.f putP
    rw [xmay_plain, Bool.eq_false_iff.2 hc]
    rfl
theorem xput_any {w : World} (o n x : Int) (A : Option Addr) (c : Nat) (d : List Int) (hC : Kd.C (Kd.int .u8) w A d.length d) (hc : d.length ≤ c) (hb : ∀ y ∈ d, 0 ≤ y ∧ y ≤ 255) :
    Calls Try.prog 12 #[.agg #[.int .i64 o, .int .i64 n, .int .i64 x, .slice A d.length c]] w fun e w' => ∃ v, e = .returned (.tuple #[v, .int .i64 (putP o n x d).2]) ∧ Kd.R (Kd.int .u8) 5 w' w.heap.size (fun _ => True) v (putP o n x d).1 ∧ Below w.heap.size w w' := by
  obtain ⟨k, hk⟩ := xput_plain o n x d hb
  exact chantryref09_Put.calls k o n x A c d _ _ w hC hc hk
theorem same_any {w : World} (o n x o' n' x' : Int) (A A' : Option Addr) (c c' : Nat) (d d' : List Int) (hC : Kd.C (Kd.int .u8) w A d.length d) (hc : d.length ≤ c) (hC' : Kd.C (Kd.int .u8) w A' d'.length d') (hc' : d'.length ≤ c') (he : o = o' ∧ n = n' ∧ x = x' ∧ d = d') :
    Calls Try.prog 14 #[.agg #[.int .i64 o, .int .i64 n, .int .i64 x, .slice A d.length c], .agg #[.int .i64 o', .int .i64 n', .int .i64 x', .slice A' d'.length c']] w fun e w' => e = .returned (.bool true) ∧ Below w.heap.size w w' := by
  obtain ⟨rfl, rfl, rfl, rfl⟩ := he
  refine chantryref09_Same.calls o n x A c d o n x A' c' d true w hC hc hC' hc' ?_
  unfold chantryref09_Same.f
  rw [if_pos rfl, if_pos rfl, if_pos rfl]
  simp
end Cell
end Go.Proofs.Ytkfbegmfepehiaa
