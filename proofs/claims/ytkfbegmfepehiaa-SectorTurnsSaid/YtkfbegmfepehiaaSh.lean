/- Walks: the law SectorPuts. -/
import Derived.Test.YtkfbegmfepehiaaSg
import Derived.Test.YtkfbegmfepehiaaSq
import Derived.KernelRfl
namespace Go.Proofs.Ytkfbegmfepehiaa
set_option linter.unusedVariables false
set_option linter.unusedSimpArgs false
set_option linter.ambiguousOpen false
open Go.RowKit Go.Proofs.YtkfbegmfepehiaaW.PrintWords Go.Proofs.YtkfbegmfepehiaaW.PrintLast Go.Proofs.YtkfbegmfepehiaaW.PrintMore
namespace Sect
open Go.Num Go.Crc Go.Proofs.Ytkfbegmfepehiaa.Cell
theorem put_byte {k e n l : Int} {d : List Int} {P : List Int × Int} (hb : ∀ y ∈ d, 0 ≤ y ∧ y ≤ 255) (h : P = putS k e n l d) : ∀ y ∈ P.1, 0 ≤ y ∧ y ≤ 255 := by
  rw [h]
  unfold putS
  split
  · exact seal_byte (bodyS_byte _ _ _ _ _ hb)
  · intro y hy; cases hy
/-- The program's Get, of any bytes. -/
theorem get_any {w : World} (A : Option Addr) (c : Nat) (l : List Int) (hC : Kd.C (Kd.int .u8) w A l.length l) (hb : ∀ y ∈ l, 0 ≤ y ∧ y ≤ 255) (hc : l.length ≤ c) (hl : l.length ≤ 200000) :
    Calls Try.prog 25 #[.slice A l.length c] w fun e w' => ∃ A' c', e = .returned (.tuple #[.agg #[.int .i64 (getS l).1.k, .int .i64 (getS l).1.e, .int .i64 (getS l).1.n, .int .i64 (getS l).1.l, .slice A' (getS l).1.d.length c'], .int .i64 (getS l).2]) ∧ (getS l).1.d.length ≤ c' ∧ (∀ x, Below w'.heap.size w' x → Kd.C (Kd.int .u8) x A' (getS l).1.d.length (getS l).1.d) ∧ Below w.heap.size w w' := by
  by_cases h : l.length ≠ 64 ∨ (openP l).2 ≠ 0
  · refine (get_no A c l hC hb hc hl h).mono ?_
    rintro e w1 ⟨rfl, b⟩
    have hz : (getS l).1 = zeroS := by
      unfold getS
      by_cases h1 : l.length ≠ 64
      · rw [if_pos h1]
      · rw [if_neg h1, if_pos (h.resolve_left h1)]
    rw [hz]
    exact ⟨none, 0, rfl, Nat.le_refl _, fun x _ => nilC x, b⟩
  · have h1 : l.length = 64 := Classical.byContradiction (fun e => h (Or.inl e))
    have h2 : (openP l).2 = 0 := Classical.byContradiction (fun e => h (Or.inr e))
    refine (get_yes A c l hC hb hc h1 h2).mono ?_
    rintro e w1 ⟨v, rfl, hr, b⟩
    obtain ⟨A', c', rfl⟩ := Kd.R_slice hr
    exact ⟨A', c', rfl, (Kd.R_reads' hr).2.1, stable_R hr, b⟩
theorem put_anyC {w : World} (k e n l : Int) (A : Option Addr) (c : Nat) (d : List Int) (hC : Kd.C (Kd.int .u8) w A d.length d) (hc : d.length ≤ c) (hb : ∀ y ∈ d, 0 ≤ y ∧ y ≤ 255) :
    Calls Try.prog 23 #[.agg #[.int .i64 k, .int .i64 e, .int .i64 n, .int .i64 l, .slice A d.length c]] w fun rr w' => ∃ A' c', rr = .returned (.tuple #[.slice A' (putS k e n l d).1.length c', .int .i64 (putS k e n l d).2]) ∧ (putS k e n l d).1.length ≤ c' ∧ (∀ x', Below w'.heap.size w' x' → Kd.C (Kd.int .u8) x' A' (putS k e n l d).1.length (putS k e n l d).1) ∧ Below w.heap.size w w' := by
  refine (put_any k e n l A c d hC hc hb).mono ?_
  rintro rr w1 ⟨v, rfl, hr, b⟩
  obtain ⟨A', c', rfl⟩ := Kd.R_slice hr
  exact ⟨A', c', rfl, (Kd.R_reads' hr).2.1, stable_R hr, b⟩
theorem xput_anyC {w : World} (k e n l : Int) (A : Option Addr) (c : Nat) (d : List Int) (hC : Kd.C (Kd.int .u8) w A d.length d) (hc : d.length ≤ c) (hb : ∀ y ∈ d, 0 ≤ y ∧ y ≤ 255) :
    Calls Try.prog 24 #[.agg #[.int .i64 k, .int .i64 e, .int .i64 n, .int .i64 l, .slice A d.length c]] w fun rr w' => ∃ A' c', rr = .returned (.tuple #[.slice A' (putS k e n l d).1.length c', .int .i64 (putS k e n l d).2]) ∧ (putS k e n l d).1.length ≤ c' ∧ (∀ x', Below w'.heap.size w' x' → Kd.C (Kd.int .u8) x' A' (putS k e n l d).1.length (putS k e n l d).1) ∧ Below w.heap.size w w' := by
  refine (xput_any k e n l A c d hC hc hb).mono ?_
  rintro rr w1 ⟨v, rfl, hr, b⟩
  obtain ⟨A', c', rfl⟩ := Kd.R_slice hr
  exact ⟨A', c', rfl, (Kd.R_reads' hr).2.1, stable_R hr, b⟩
theorem get_byte (l : List Int) (hb : ∀ x ∈ l, 0 ≤ x ∧ x ≤ 255) : ∀ y ∈ (getS l).1.d, 0 ≤ y ∧ y ≤ 255 := by
  unfold getS
  split
  · intro y hy; simp [zeroS] at hy
  · split
    · intro y hy; simp [zeroS] at hy
    · rename_i h1 h2
      split
      · intro y hy
        exact own_byte hb (Classical.byContradiction h2) y (List.mem_of_mem_drop (List.mem_of_mem_take hy))
      · intro y hy; simp [zeroS] at hy
theorem puts_code (k e n l : Int) (d : List Int) : (secOk k e n l d = true ∧ (putS k e n l d).2 = 0) ∨ (¬ secOk k e n l d = true ∧ (putS k e n l d).2 = 1) := by
  by_cases h : secOk k e n l d = true
  · exact Or.inl ⟨h, by rw [put_body h]⟩
  · exact Or.inr ⟨h, by unfold putS; rw [if_neg h]⟩
theorem puts_len (k e n l : Int) (d : List Int) : (putS k e n l d).1.length ≤ 200000 := by
  unfold putS
  split
  · rename_i h
    rw [seal_len, bodyS_len _ _ _ _ _ (ok_parts h).2.2.2.2.2.2.2.2]
    decide
  · exact Nat.zero_le _
set_option maxHeartbeats 16000000 in
set_option maxRecDepth 100000 in
theorem puts_walk {w : World} (k e n l : Int) (A : Option Addr) (c : Nat) (d : List Int) (hC : Kd.C (Kd.int .u8) w A d.length d) (hc : d.length ≤ c) (hb : ∀ y ∈ d, 0 ≤ y ∧ y ≤ 255) :
    Calls Try.prog 6 #[.agg #[.int .i64 k, .int .i64 e, .int .i64 n, .int .i64 l, .slice A d.length c]] w fun rr w' => rr = .returned (.bool true) ∧ Below w.heap.size w w' := by
  have HC := Aside0.mk hC
  have HBY := Aside0.mk hb
  clear hC hb
  obtain ⟨ln, hln⟩ : ∃ ln, ln = d.length := ⟨_, rfl⟩
  rw [← hln] at hc
  rw [← hln]
  have HLN := Aside0.mk hln
  clear hln
  by_cases h200 : ln > 200
  · go_enter Try.func6, Try.ntmps6
    go_wp2_with fail
    refine awake_any.mono ?_
    rintro rr w1 ⟨rfl, b⟩
    have HB := Aside0.mk (((Below.refl w.heap.size w).alloc (Nat.le_refl _) _).trans (b.mono (by simp)))
    clear b
    go_wp2_with fail
    go_ret
    exact ⟨rfl, HB.out⟩
  · go_enter Try.func6, Try.ntmps6
    go_wp2_with fail
    obtain ⟨w0, hw0⟩ : ∃ w0, w0 = (w.alloc (.cells #[.int .i64 k, .int .i64 e, .int .i64 n, .int .i64 l, .slice A ln c] 44)) := ⟨_, rfl⟩
    have hx0 : w0.heap[w.heap.size]? = some (.cells #[.int .i64 k, .int .i64 e, .int .i64 n, .int .i64 l, .slice A ln c] 44 (0, 0)) := by rw [hw0]; exact heap_alloc_new w _
    have b0 : Below w.heap.size w w0 := by rw [hw0]; exact (Below.refl _ _).alloc (Nat.le_refl _) _
    have hs0 : w.heap.size < w0.heap.size := by rw [hw0]; simp
    rw [← hw0]
    have HB0 := Aside0.mk b0
    have HX0 := Aside0.mk (show ∀ x', Below w0.heap.size w0 x' → x'.heap[w.heap.size]? = some (.cells #[.int .i64 k, .int .i64 e, .int .i64 n, .int .i64 l, .slice A ln c] 44 (0, 0)) from fun x' hx => (hx.block _ hs0).trans hx0)
    clear hw0 hx0 b0 hs0
    obtain ⟨P, hP⟩ : ∃ P, P = putS k e n l d := ⟨_, rfl⟩
    have h1 : ∀ x', Below w0.heap.size w0 x' → Calls Try.prog 23 #[.agg #[.int .i64 k, .int .i64 e, .int .i64 n, .int .i64 l, .slice A d.length c]] x' fun rr w' => ∃ A' c', rr = .returned (.tuple #[.slice A' (putS k e n l d).1.length c', .int .i64 (putS k e n l d).2]) ∧ (putS k e n l d).1.length ≤ c' ∧ (∀ y, Below w'.heap.size w' y → Kd.C (Kd.int .u8) y A' (putS k e n l d).1.length (putS k e n l d).1) ∧ Below x'.heap.size x' w' := fun x' hx => put_anyC k e n l A c d (Kd.C_below HC.out (HB0.out.trans (hx.mono HB0.out.size))) (by rw [← HLN.out]; exact hc) HBY.out
    have h2 : ∀ x', Below w0.heap.size w0 x' → Calls Try.prog 24 #[.agg #[.int .i64 k, .int .i64 e, .int .i64 n, .int .i64 l, .slice A d.length c]] x' fun rr w' => ∃ A' c', rr = .returned (.tuple #[.slice A' (putS k e n l d).1.length c', .int .i64 (putS k e n l d).2]) ∧ (putS k e n l d).1.length ≤ c' ∧ (∀ y, Below w'.heap.size w' y → Kd.C (Kd.int .u8) y A' (putS k e n l d).1.length (putS k e n l d).1) ∧ Below x'.heap.size x' w' := fun x' hx => xput_anyC k e n l A c d (Kd.C_below HC.out (HB0.out.trans (hx.mono HB0.out.size))) (by rw [← HLN.out]; exact hc) HBY.out
    obtain ⟨pl, hpl⟩ : ∃ pl, pl = P.1.length := ⟨_, rfl⟩
    obtain ⟨pr, hpr⟩ : ∃ pr, pr = P.2 := ⟨_, rfl⟩
    rw [← hP, ← hpl, ← hpr, ← HLN.out] at h1 h2
    have HP1 := Aside0.mk h1
    have HP2 := Aside0.mk h2
    have HPL := Aside0.mk hpl
    have HPB := Aside0.mk (show ∀ y ∈ P.1, 0 ≤ y ∧ y ≤ 255 from put_byte HBY.out hP)
    have HPN := Aside0.mk (show P.1.length ≤ 200000 by rw [hP]; exact puts_len k e n l d)
    have HPR := Aside0.mk (show (pr = 0 ∧ getS P.1 = (⟨k, e, n, l, d⟩, 0)) ∨ pr = 1 by
      rcases puts_code k e n l d with ⟨h, h'⟩ | ⟨_, h'⟩
      · exact Or.inl ⟨by rw [hpr, hP, h'], by rw [hP]; exact get_put k e n l d h⟩
      · exact Or.inr (by rw [hpr, hP, h']))
    clear h1 h2 hpl hpr hP
    refine (HP1.out w0 (Below.refl _ _)).mono ?_
    clear HP1
    rintro rr w1 ⟨A1, c1, rfl, hc1, hC1, b1⟩
    have HC1 := Aside0.mk hC1
    have HB1 := Aside0.mk b1
    clear hC1 b1
    obtain ⟨hy0, hy1, hy2, hy3, hy4⟩ := cells5 (HX0.out w1 HB1.out)
    go_wp2_with fail
    clear hy0 hy1 hy2 hy3 hy4
    refine (HP2.out w1 HB1.out).mono ?_
    clear HP2
    rintro rr w2 ⟨A2, c2, rfl, hc2, hC2, b2⟩
    have HC2 := Aside0.mk hC2
    have HB2 := Aside0.mk (HB1.out.trans (b2.mono HB1.out.size))
    have HD1 := Aside0.mk (HC1.out w2 b2)
    clear hC2 b2 HC1
    go_wp2_with fail
    have hg := get_any A1 c1 P.1 (w := w2) (by rw [← HPL.out]; exact HD1.out) HPB.out (by rw [← HPL.out]; exact hc1) HPN.out
    rcases HPR.out with ⟨h0, hgg⟩ | h0
    · subst h0
      rw [hgg, ← HPL.out] at hg
      simp only [← HLN.out] at hg
      refine hg.mono ?_
      clear hg hgg HPR
      rintro rr w3 ⟨A3, c3, rfl, hc3, hC3, b3⟩
      have HC3 := Aside0.mk hC3
      have HB3 := Aside0.mk b3
      clear hC3 b3
      have hw4 : ∀ ob, Below w3.heap.size w3 (w3.alloc ob) := fun ob => (Below.refl _ _).alloc (Nat.le_refl _) _
      obtain ⟨T, hT⟩ : ∃ T, T = strOfNums P.1 := ⟨_, rfl⟩
      have hcv1 : ∀ ob, (convert 22 9 (.slice A1 pl c1)).run Try.prog (w3.alloc ob) = .ok (.string T) (w3.alloc ob) := fun ob => by rw [hT]; exact strC (Kd.C_below HD1.out (HB3.out.trans ((hw4 ob).mono HB3.out.size)))
      have hcv2 : ∀ ob, (convert 22 9 (.slice A2 pl c2)).run Try.prog (w3.alloc ob) = .ok (.string T) (w3.alloc ob) := fun ob => by rw [hT]; exact strC (HC2.out _ (HB3.out.trans ((hw4 ob).mono HB3.out.size)))
      have hb03 : ∀ ob, Below w0.heap.size w0 (w3.alloc ob) := fun ob => HB2.out.trans ((HB3.out.trans ((hw4 ob).mono HB3.out.size)).mono HB2.out.size)
      have HB03 := Aside0.mk hb03
      have hy0 : ∀ ob, (w3.alloc ob).cell? ⟨w.heap.size, 0, none⟩ = some (.int .i64 k) := fun ob => (cells5 (HX0.out _ (hb03 ob))).1
      have hy1 : ∀ ob, (w3.alloc ob).cell? ⟨w.heap.size, 1, none⟩ = some (.int .i64 e) := fun ob => (cells5 (HX0.out _ (hb03 ob))).2.1
      have hy2 : ∀ ob, (w3.alloc ob).cell? ⟨w.heap.size, 2, none⟩ = some (.int .i64 n) := fun ob => (cells5 (HX0.out _ (hb03 ob))).2.2.1
      have hy3 : ∀ ob, (w3.alloc ob).cell? ⟨w.heap.size, 3, none⟩ = some (.int .i64 l) := fun ob => (cells5 (HX0.out _ (hb03 ob))).2.2.2.1
      have hy4 : ∀ ob, (w3.alloc ob).cell? ⟨w.heap.size, 4, none⟩ = some (.slice A ln c) := fun ob => (cells5 (HX0.out _ (hb03 ob))).2.2.2.2
      clear hT hw4 hb03
      go_wp2_with fail
      clear hy0 hy1 hy2 hy3 hy4 hcv1 hcv2
      have hal : Below w3.heap.size w3 (w3.alloc (.cells #[.int .i64 k, .int .i64 e, .int .i64 n, .int .i64 l, .slice A3 ln c3] 44)) := (Below.refl _ _).alloc (Nat.le_refl _) _
      have hsm := same_any k e n l A A3 c c3 d (w := w3.alloc (.cells #[.int .i64 k, .int .i64 e, .int .i64 n, .int .i64 l, .slice A3 ln c3] 44)) (Kd.C_below HC.out (HB0.out.trans ((HB03.out _).mono HB0.out.size))) (by rw [← HLN.out]; exact hc) (by rw [← HLN.out]; exact HC3.out _ hal) (by rw [← HLN.out]; exact hc3)
      rw [← HLN.out] at hsm
      refine hsm.mono ?_
      clear hsm hal
      rintro rr w5 ⟨rfl, b5⟩
      have HB5 := Aside0.mk (HB0.out.trans (((HB03.out _).trans (b5.mono (HB03.out _).size)).mono HB0.out.size))
      clear b5
      go_wp2_with fail
      refine awake_any.mono ?_
      rintro rr w6 ⟨rfl, b6⟩
      have HB6 := Aside0.mk (HB5.out.trans (b6.mono HB5.out.size))
      clear b6
      go_wp2_with fail
      go_ret
      exact ⟨rfl, HB6.out⟩
    · subst h0
      obtain ⟨G, hG⟩ : ∃ G, G = getS P.1 := ⟨_, rfl⟩
      rw [← hG, ← HPL.out] at hg
      obtain ⟨gk, hgk⟩ : ∃ z, z = G.1.k := ⟨_, rfl⟩
      obtain ⟨ge, hge⟩ : ∃ z, z = G.1.e := ⟨_, rfl⟩
      obtain ⟨gn, hgn⟩ : ∃ z, z = G.1.n := ⟨_, rfl⟩
      obtain ⟨gl, hgl⟩ : ∃ z, z = G.1.l := ⟨_, rfl⟩
      obtain ⟨gd, hgd⟩ : ∃ z, z = G.1.d.length := ⟨_, rfl⟩
      obtain ⟨gr, hgr⟩ : ∃ z, z = G.2 := ⟨_, rfl⟩
      rw [← hgk, ← hge, ← hgn, ← hgl, ← hgd, ← hgr] at hg
      clear hG hgk hge hgn hgl hgd hgr
      refine hg.mono ?_
      clear hg HPR
      rintro rr w3 ⟨A3, c3, rfl, -, -, b3⟩
      have HB3 := Aside0.mk b3
      clear b3
      have hw4 : ∀ ob, Below w3.heap.size w3 (w3.alloc ob) := fun ob => (Below.refl _ _).alloc (Nat.le_refl _) _
      obtain ⟨T, hT⟩ : ∃ T, T = strOfNums P.1 := ⟨_, rfl⟩
      have hcv1 : ∀ ob, (convert 22 9 (.slice A1 pl c1)).run Try.prog (w3.alloc ob) = .ok (.string T) (w3.alloc ob) := fun ob => by rw [hT]; exact strC (Kd.C_below HD1.out (HB3.out.trans ((hw4 ob).mono HB3.out.size)))
      have hcv2 : ∀ ob, (convert 22 9 (.slice A2 pl c2)).run Try.prog (w3.alloc ob) = .ok (.string T) (w3.alloc ob) := fun ob => by rw [hT]; exact strC (HC2.out _ (HB3.out.trans ((hw4 ob).mono HB3.out.size)))
      have hb03 : ∀ ob, Below w0.heap.size w0 (w3.alloc ob) := fun ob => HB2.out.trans ((HB3.out.trans ((hw4 ob).mono HB3.out.size)).mono HB2.out.size)
      have HB03 := Aside0.mk hb03
      have hy0 : ∀ ob, (w3.alloc ob).cell? ⟨w.heap.size, 0, none⟩ = some (.int .i64 k) := fun ob => (cells5 (HX0.out _ (hb03 ob))).1
      have hy1 : ∀ ob, (w3.alloc ob).cell? ⟨w.heap.size, 1, none⟩ = some (.int .i64 e) := fun ob => (cells5 (HX0.out _ (hb03 ob))).2.1
      have hy2 : ∀ ob, (w3.alloc ob).cell? ⟨w.heap.size, 2, none⟩ = some (.int .i64 n) := fun ob => (cells5 (HX0.out _ (hb03 ob))).2.2.1
      have hy3 : ∀ ob, (w3.alloc ob).cell? ⟨w.heap.size, 3, none⟩ = some (.int .i64 l) := fun ob => (cells5 (HX0.out _ (hb03 ob))).2.2.2.1
      have hy4 : ∀ ob, (w3.alloc ob).cell? ⟨w.heap.size, 4, none⟩ = some (.slice A ln c) := fun ob => (cells5 (HX0.out _ (hb03 ob))).2.2.2.2
      clear hT hw4 hb03
      go_wp2_with fail
      refine awake_any.mono ?_
      rintro rr w5 ⟨rfl, b5⟩
      have HB5 := Aside0.mk (HB0.out.trans (((HB03.out _).trans (b5.mono (HB03.out _).size)).mono HB0.out.size))
      clear b5
      go_wp2_with fail
      go_ret
      exact ⟨rfl, HB5.out⟩
end Sect
end Go.Proofs.Ytkfbegmfepehiaa
