/- Part 17 of the proof of SuperReads: lemmas alone. -/
import Derived.Test.YtopfjmeejpamjaaZSuperReadsP15
import Derived.Test.YtopfjmeejpamjaaZSuperReadsP7
import Derived.Laws.StructEq
import Derived.Laws.Cover2
import Derived.KernelRfl
import Derived.Test.YtopfjmeejpamjaaZSuperReadsP3
import Derived.Test.YtopfjmeejpamjaaZSuperReadsP2
section
namespace Go.Proofs.Ytopfjmeejpamjaa
set_option linter.unusedVariables false
set_option linter.unusedSimpArgs false
set_option linter.ambiguousOpen false
open Go.RowKit Go.Proofs.YtopfjmeejpamjaaW.PrintWords Go.Proofs.YtopfjmeejpamjaaW.PrintLast Go.Proofs.YtopfjmeejpamjaaW.PrintMore
namespace Supr
open Go.Num Go.Crc Go.Proofs.Ytopfjmeejpamjaa.Cell Go.Proofs.Ytopfjmeejpamjaa.Sect
def partOk (g b p q o : Int) : Bool := decide (2 ≤ p ∧ p < b ∧ 1 ≤ q ∧ q ≤ 262144 ∧ 1 ≤ o ∧ o ≤ g)
def supOk (g b l p q o : Int) : Bool := decide (1 ≤ g ∧ g ≤ 2147483647 ∧ 1 ≤ l ∧ l ≤ g ∧ 16 ≤ b ∧ b ≤ 1024) && ((p == 0 && (q == 0 && o == 0)) || partOk g b p q o)
theorem part_plain (g b l p q o : Int) : PSuper.super_part.f g b l p q o = some (partOk g b p q o) := by
  unfold PSuper.super_part.f partOk
  repeat' split
  all_goals first | (congr 1; exact decide_eq_decide.2 (by omega)) | (congr 1; exact (decide_eq_false (by omega)).symm)
theorem eq_part (a b c : Int) (w : World) : (Op.equalIn 10000 23 (.agg #[.int .i64 a, .int .i64 b, .int .i64 c]) (.agg #[.int .i64 0, .int .i64 0, .int .i64 0])).run Try.prog w = .ok (a == 0 && (b == 0 && c == 0)) w := by
  have u3 := Try.underlying3
  have a3 := Try.isAgg3
  have z3 := Try.sizeOf3
  rw [show (10000 : Nat) = 9999 + 1 from rfl, Op.equalIn]
  simp only [Sem.run_bind, run_underlying Try.underlying23, Result.andThen_ok]
  go_simp
  by_cases h1 : a = 0 <;> by_cases h2 : b = 0 <;> by_cases h3 : c = 0 <;> simp [h1, h2, h3]
set_option maxHeartbeats 16000000 in
set_option maxRecDepth 100000 in
theorem check_any {w : World} (g b l p q o : Int) :
    Calls Try.prog 10 #[.agg #[.int .i64 g, .int .i64 b, .int .i64 l, .int .i64 p, .int .i64 q, .int .i64 o]] w fun r w' => r = .returned (.int .i64 (if supOk g b l p q o = true then 0 else 1)) ∧ Below w.heap.size w w' := by
  obtain ⟨R, hR⟩ : ∃ R : Int, R = (if supOk g b l p q o = true then 0 else 1) := ⟨_, rfl⟩
  rw [← hR]
  have HR := Aside0.mk hR
  clear hR
  have heq := eq_part p q o
  have HBZ := Aside0.mk ((Below.refl w.heap.size w).alloc (Nat.le_refl _) (.cells #[.int .i64 g, .int .i64 b, .int .i64 l, .int .i64 p, .int .i64 q, .int .i64 o] 25))
  by_cases h1 : g < 1 ∨ g > 2147483647 ∨ l < 1 ∨ l > g ∨ b < 16 ∨ b > 1024
  · have hz : R = 1 := by
      rw [HR.out, if_neg]
      intro h
      unfold supOk at h
      rw [Bool.and_eq_true, decide_eq_true_eq] at h
      omega
    subst hz
    have hc : (g < 1) ∨ (¬ g < 1 ∧ g > 2147483647) ∨ (¬ g < 1 ∧ ¬ g > 2147483647 ∧ l < 1) ∨ (¬ g < 1 ∧ ¬ g > 2147483647 ∧ ¬ l < 1 ∧ l > g) ∨ (¬ g < 1 ∧ ¬ g > 2147483647 ∧ ¬ l < 1 ∧ ¬ l > g ∧ b < 16) ∨ (¬ g < 1 ∧ ¬ g > 2147483647 ∧ ¬ l < 1 ∧ ¬ l > g ∧ ¬ b < 16 ∧ b > 1024) := by omega
    clear h1
    rcases hc with h1 | ⟨h1, h2⟩ | ⟨h1, h2, h3⟩ | ⟨h1, h2, h3, h4⟩ | ⟨h1, h2, h3, h4, h5⟩ | ⟨h1, h2, h3, h4, h5, h6⟩
    all_goals (
      go_enter Try.func10, Try.ntmps10
      go_wp2_with fail
      go_ret
      exact ⟨rfl, HBZ.out⟩)
  · have h2 : ¬ g < 1 := by omega
    have h3 : ¬ g > 2147483647 := by omega
    have h4 : ¬ l < 1 := by omega
    have h5 : ¬ l > g := by omega
    have h6 : ¬ b < 16 := by omega
    have h7 : ¬ b > 1024 := by omega
    have hd : supOk g b l p q o = ((p == 0 && (q == 0 && o == 0)) || partOk g b p q o) := by
      unfold supOk
      rw [decide_eq_true (by omega), Bool.true_and]
    rw [hd] at HR
    clear h1 hd
    obtain ⟨z, hz⟩ : ∃ z, z = (p == 0 && (q == 0 && o == 0)) := ⟨_, rfl⟩
    rw [← hz] at heq HR
    clear hz
    cases z with
    | true =>
      have hr0 : R = 0 := HR.out
      subst hr0
      go_enter Try.func10, Try.ntmps10
      go_wp2_with fail
      go_ret
      exact ⟨rfl, HBZ.out⟩
    | false =>
      obtain ⟨y, hy⟩ : ∃ y, y = partOk g b p q o := ⟨_, rfl⟩
      have hpc := fun (x : World) => PSuper.super_part.calls g b l p q o y x (by rw [hy]; exact part_plain g b l p q o)
      rw [← hy] at HR
      have HPC := Aside0.mk hpc
      clear hy hpc
      go_enter Try.func10, Try.ntmps10
      go_wp2_with fail
      refine (HPC.out _).mono ?_
      clear HPC
      rintro r w1 ⟨rfl, b1⟩
      have HB1 := Aside0.mk (HBZ.out.trans ((show Below _ _ w1 by first | exact b1 | exact b1.below).mono (by simp)))
      clear b1
      cases y with
      | true =>
        have hr0 : R = 0 := HR.out
        subst hr0
        go_wp2_with fail
        go_ret
        exact ⟨rfl, HB1.out⟩
      | false =>
        have hr0 : R = 1 := HR.out
        subst hr0
        go_wp2_with fail
        go_ret
        exact ⟨rfl, HB1.out⟩
set_option maxHeartbeats 16000000 in
set_option maxRecDepth 100000 in
theorem xcheck_any {w : World} (g b l p q o : Int) :
    Calls Try.prog 13 #[.agg #[.int .i64 g, .int .i64 b, .int .i64 l, .int .i64 p, .int .i64 q, .int .i64 o]] w fun r w' => r = .returned (.bool (supOk g b l p q o)) ∧ Below w.heap.size w w' := by
  obtain ⟨R, hR⟩ : ∃ R, R = supOk g b l p q o := ⟨_, rfl⟩
  rw [← hR]
  have HR := Aside0.mk hR
  clear hR
  have heq := eq_part p q o
  have HBZ := Aside0.mk ((Below.refl w.heap.size w).alloc (Nat.le_refl _) (.cells #[.int .i64 g, .int .i64 b, .int .i64 l, .int .i64 p, .int .i64 q, .int .i64 o] 25))
  by_cases h1 : g < 1 ∨ g > 2147483647 ∨ l < 1 ∨ l > g ∨ b < 16 ∨ b > 1024
  · have hz : R = false := by
      rw [HR.out]
      unfold supOk
      rw [decide_eq_false (by omega), Bool.false_and]
    subst hz
    have hc : (g < 1) ∨ (¬ g < 1 ∧ g > 2147483647) ∨ (¬ g < 1 ∧ ¬ g > 2147483647 ∧ b < 16) ∨ (¬ g < 1 ∧ ¬ g > 2147483647 ∧ ¬ b < 16 ∧ b > 1024) ∨ (¬ g < 1 ∧ ¬ g > 2147483647 ∧ ¬ b < 16 ∧ ¬ b > 1024 ∧ l < 1) ∨ (¬ g < 1 ∧ ¬ g > 2147483647 ∧ ¬ b < 16 ∧ ¬ b > 1024 ∧ ¬ l < 1 ∧ l > g) := by omega
    clear h1
    rcases hc with h1 | ⟨h1, h2⟩ | ⟨h1, h2, h3⟩ | ⟨h1, h2, h3, h4⟩ | ⟨h1, h2, h3, h4, h5⟩ | ⟨h1, h2, h3, h4, h5, h6⟩
    all_goals (
      go_enter Try.func13, Try.ntmps13
      go_wp2_with fail
      go_ret
      exact ⟨rfl, HBZ.out⟩)
  · have h2 : ¬ g < 1 := by omega
    have h3 : ¬ g > 2147483647 := by omega
    have h4 : ¬ l < 1 := by omega
    have h5 : ¬ l > g := by omega
    have h6 : ¬ b < 16 := by omega
    have h7 : ¬ b > 1024 := by omega
    have hd : supOk g b l p q o = ((p == 0 && (q == 0 && o == 0)) || partOk g b p q o) := by
      unfold supOk
      rw [decide_eq_true (by omega), Bool.true_and]
    rw [hd] at HR
    clear h1 hd
    obtain ⟨z, hz⟩ : ∃ z, z = (p == 0 && (q == 0 && o == 0)) := ⟨_, rfl⟩
    rw [← hz] at heq HR
    clear hz
    have HB2 := Aside0.mk (HBZ.out.alloc (by simp) (.cells #[.int .i64 p, .int .i64 q, .int .i64 o] 23))
    cases z with
    | true =>
      have hr0 : R = true := HR.out
      subst hr0
      go_enter Try.func13, Try.ntmps13
      go_wp2_with fail
      go_ret
      exact ⟨rfl, by first | exact HB2.out | exact HBZ.out⟩
    | false =>
      have hr0 : R = partOk g b p q o := HR.out
      clear HR
      by_cases hp : 2 ≤ p ∧ p < b ∧ 1 ≤ q ∧ q ≤ 262144 ∧ 1 ≤ o ∧ o ≤ g
      · have hz : R = true := by rw [hr0]; exact decide_eq_true hp
        subst hz
        obtain ⟨p1, p2, p3, p4, p5, p6⟩ := hp
        clear hr0
        go_enter Try.func13, Try.ntmps13
        go_wp2_with fail
        go_ret
        exact ⟨rfl, by first | exact HB2.out | exact HBZ.out⟩
      · have hz : R = false := by rw [hr0]; exact decide_eq_false hp
        subst hz
        clear hr0
        have hc : (¬ 2 ≤ p) ∨ (2 ≤ p ∧ ¬ p < b) ∨ (2 ≤ p ∧ p < b ∧ ¬ 1 ≤ q) ∨ (2 ≤ p ∧ p < b ∧ 1 ≤ q ∧ ¬ q ≤ 262144) ∨ (2 ≤ p ∧ p < b ∧ 1 ≤ q ∧ q ≤ 262144 ∧ ¬ 1 ≤ o) ∨ (2 ≤ p ∧ p < b ∧ 1 ≤ q ∧ q ≤ 262144 ∧ 1 ≤ o ∧ ¬ o ≤ g) := by omega
        clear hp
        rcases hc with p1 | ⟨p1, p2⟩ | ⟨p1, p2, p3⟩ | ⟨p1, p2, p3, p4⟩ | ⟨p1, p2, p3, p4, p5⟩ | ⟨p1, p2, p3, p4, p5, p6⟩
        all_goals (
          go_enter Try.func13, Try.ntmps13
          go_wp2_with fail
          go_ret
          exact ⟨rfl, by first | exact HB2.out | exact HBZ.out⟩)
end Supr
end Go.Proofs.Ytopfjmeejpamjaa
end
section
namespace Go.Proofs.Ytopfjmeejpamjaa
set_option linter.unusedVariables false
set_option linter.unusedSimpArgs false
set_option linter.ambiguousOpen false
open Go.RowKit Go.Proofs.YtopfjmeejpamjaaW.PrintWords Go.Proofs.YtopfjmeejpamjaaW.PrintLast Go.Proofs.YtopfjmeejpamjaaW.PrintMore
namespace Supr
open Go.Num Go.Crc Go.Proofs.Ytopfjmeejpamjaa.Cell Go.Proofs.Ytopfjmeejpamjaa.Sect
def dataU (l p q o : Int) : List Int := leB l 4 ++ (leB p 4 ++ (leB q 4 ++ leB o 4))
def putU (g b l p q o : Int) : List Int × Int := if supOk g b l p q o = true then putS 1 g b 0 (dataU l p q o) else ([], 1)
theorem dataU_len (l p q o : Int) : (dataU l p q o).length = 16 := by unfold dataU; simp [leB_len]
theorem dataU_byte (l p q o : Int) : ∀ y ∈ dataU l p q o, 0 ≤ y ∧ y ≤ 255 := by
  unfold dataU
  intro y hy
  rcases List.mem_append.1 hy with h | hy
  · exact leB_byte _ _ y h
  rcases List.mem_append.1 hy with h | hy
  · exact leB_byte _ _ y h
  rcases List.mem_append.1 hy with h | h <;> exact leB_byte _ _ y h
theorem supOk_range {g b l p q o : Int} (h : supOk g b l p q o = true) : 1 ≤ g ∧ g ≤ 2147483647 ∧ 16 ≤ b ∧ b ≤ 1024 ∧ 1 ≤ l ∧ l ≤ g ∧ 0 ≤ p ∧ p ≤ 1024 ∧ 0 ≤ q ∧ q ≤ 262144 ∧ 0 ≤ o ∧ o ≤ 2147483647 := by
  unfold supOk at h
  rw [Bool.and_eq_true, Bool.or_eq_true, decide_eq_true_eq] at h
  obtain ⟨h1, h2 | h2⟩ := h
  · rw [Bool.and_eq_true, Bool.and_eq_true, beq_iff_eq, beq_iff_eq, beq_iff_eq] at h2
    omega
  · unfold partOk at h2
    rw [decide_eq_true_eq] at h2
    omega
theorem fixU (n : Int) (w : World) (h : 0 ≤ n ∧ n ≤ 2147483647) :
    Calls Try.prog 27 #[.int .i64 n, .int .i64 4] w fun e w' => ∃ v, e = .returned (.tuple #[v, .int .i64 0]) ∧ Kd.R (Kd.int .u8) 5 w' w.heap.size (fun _ => True) v (leB n 4) ∧ Below w.heap.size w w' := fixk_any n 4 w (by decide) (by omega)
set_option maxHeartbeats 16000000 in
set_option maxRecDepth 100000 in
theorem sput_R {w : World} (g b l p q o : Int) :
    Calls Try.prog 7 #[.agg #[.int .i64 g, .int .i64 b, .int .i64 l, .int .i64 p, .int .i64 q, .int .i64 o]] w fun r w' => ∃ v, r = .returned (.tuple #[v, .int .i64 (putU g b l p q o).2]) ∧ Kd.R (Kd.int .u8) 5 w' w.heap.size (fun _ => True) v (putU g b l p q o).1 ∧ Below w.heap.size w w' := by
  obtain ⟨R, hR⟩ : ∃ R, R = putU g b l p q o := ⟨_, rfl⟩
  rw [← hR]
  have HR5 := Aside0.mk hR
  clear hR
  obtain ⟨W, hW⟩ : ∃ W, W = w.alloc (.cells #[.int .i64 g, .int .i64 b, .int .i64 l, .int .i64 p, .int .i64 q, .int .i64 o] 25) := ⟨_, rfl⟩
  have HB0 := Aside0.mk (show Below w.heap.size w W by rw [hW]; exact (Below.refl _ _).alloc (Nat.le_refl _) _)
  have HX0 := Aside0.mk (show W.heap[w.heap.size]? = some (.cells #[.int .i64 g, .int .i64 b, .int .i64 l, .int .i64 p, .int .i64 q, .int .i64 o] 25 (0, 0)) by rw [hW]; exact heap_alloc_new w _)
  have hck := check_any (w := W) g b l p q o
  obtain ⟨z, hz⟩ : ∃ z, z = supOk g b l p q o := ⟨_, rfl⟩
  rw [← hz] at hck
  have HCK := Aside0.mk hck
  have HWE := Aside0.mk hW
  have HZ := Aside0.mk hz
  clear hck hW hz
  cases z with
  | false =>
    have HQ := Aside0.mk (show R = ([], 1) by rw [HR5.out]; unfold putU; rw [← HZ.out]; rfl)
    clear HR5 HZ
    go_enter Try.func7, Try.ntmps7
    go_wp2_with fail
    rw [← HWE.out]
    refine HCK.out.mono ?_
    rintro r w1 ⟨rfl, b1⟩
    have HB1 := Aside0.mk (HB0.out.trans (b1.mono HB0.out.size))
    clear b1
    go_wp2_with fail
    go_ret2
    exact ⟨.slice none 0 0, by rw [HQ.out]; rfl, by rw [HQ.out]; exact Kd.R_nil _ _ _ _ _, HB1.out⟩
  | true =>
    have HRG := Aside0.mk (supOk_range HZ.out.symm)
    have HQ := Aside0.mk (show R = putS 1 g b 0 (dataU l p q o) by rw [HR5.out]; unfold putU; rw [← HZ.out]; rfl)
    clear HR5 HZ
    go_enter Try.func7, Try.ntmps7
    go_wp2_with fail
    rw [← HWE.out]
    refine HCK.out.mono ?_
    rintro r w1 ⟨rfl, b1⟩
    have HB1 := Aside0.mk (HB0.out.trans (b1.mono HB0.out.size))
    have hx1 := (b1.block _ (blk_lt HX0.out)).trans HX0.out
    have HX1 := Aside0.mk hx1
    have d0 : w1.cell? ⟨w.heap.size, 2, none⟩ = some (.int .i64 l) := cell_blk hx1
    have d1 : w1.cell? ⟨w.heap.size, 3, none⟩ = some (.int .i64 p) := cell_blk hx1
    have d2 : w1.cell? ⟨w.heap.size, 4, none⟩ = some (.int .i64 q) := cell_blk hx1
    have d3 : w1.cell? ⟨w.heap.size, 5, none⟩ = some (.int .i64 o) := cell_blk hx1
    clear b1 hx1
    go_wp2_with fail
    clear d0 d1 d2 d3
    obtain ⟨w2, hw2⟩ : ∃ w2, w2 = w1.alloc (.cells #[.int .i64 l, .int .i64 p, .int .i64 q, .int .i64 o] 3) := ⟨_, rfl⟩
    have HS2 := Aside0.mk (show w2.heap[w1.heap.size]? = some (.cells #[.int .i64 l, .int .i64 p, .int .i64 q, .int .i64 o] 3 (0, 0)) by rw [hw2]; exact heap_alloc_new w1 _)
    have HB2 := Aside0.mk (show Below w.heap.size w w2 by rw [hw2]; exact HB1.out.alloc HB1.out.size _)
    have HX2 := Aside0.mk (show w2.heap[w.heap.size]? = some (.cells #[.int .i64 g, .int .i64 b, .int .i64 l, .int .i64 p, .int .i64 q, .int .i64 o] 25 (0, 0)) by rw [hw2]; exact (Below.heap_alloc _ _ _ (blk_lt HX1.out)).trans HX1.out)
    rw [← hw2]
    obtain ⟨sb, hsb⟩ : ∃ sb, sb = w1.heap.size := ⟨_, rfl⟩
    rw [← hsb] at HS2 ⊢
    clear hw2 hsb HB1 HX1
    go_loopg [28, 5] 4 (fun gk v28 v5 wr => ∃ (i : Nat) (A : Option Addr) (c : Nat) (xs : List Int), Aside0 (i + gk = 4) ∧ v28 = .int .i64 i ∧ v5 = .slice A xs.length c ∧ Aside0 (xs = (dataU l p q o).take (4 * i)) ∧ Aside0 (xs.length = 4 * i) ∧ Aside0 (Kd.R (Kd.int .u8) 5 wr w.heap.size (fun _ => True) (.slice A xs.length c) xs) ∧ Aside0 (Below w.heap.size w wr) ∧ Aside0 (wr.heap[sb]? = some (.cells #[.int .i64 l, .int .i64 p, .int .i64 q, .int .i64 o] 3 (0, 0))) ∧ Aside0 (wr.heap[w.heap.size]? = some (.cells #[.int .i64 g, .int .i64 b, .int .i64 l, .int .i64 p, .int .i64 q, .int .i64 o] 25 (0, 0))))
    case atStart => exact ⟨0, none, 0, [], ⟨by omega⟩, rfl, rfl, ⟨rfl⟩, ⟨rfl⟩, ⟨Kd.R_nil _ _ _ _ _⟩, HB2, HS2, HX2⟩
    case round =>
      clear HS2 HB2 HX2
      obtain ⟨i, A, c, xs, HI, rfl, rfl, HXS, HL, HR, HB, HS, HX⟩ := hrel
      rcases (show i = 0 ∨ i = 1 ∨ i = 2 ∨ i = 3 ∨ i = 4 by have := HI.out; omega) with rfl | rfl | rfl | rfl | rfl
      · have hc : wr.cell? ⟨sb, 0, none⟩ = some (.int .i64 l) := by rw [cell_blk HS.out]; rfl
        go_wp2_with fail
        refine (fixU l wr (by have := HRG.out; omega)).mono ?_
        rintro r w3 ⟨v3, rfl, hr3, b3⟩
        obtain ⟨A3, c3, rfl⟩ := Kd.R_slice hr3
        have hl3 : (leB l 4).length = 4 := leB_len _ _
        have HR3 := Aside0.mk (row_at hr3)
        rw [hl3] at HR3 hr3 ⊢
        have HR := Aside0.mk (Kd.R_below HR.out b3)
        have HB3 := Aside0.mk (HB.out.trans (b3.mono HB.out.size))
        have HS3 := Aside0.mk ((b3.block _ (blk_lt HS.out)).trans HS.out)
        have HX3 := Aside0.mk ((b3.block _ (blk_lt HX.out)).trans HX.out)
        clear hr3 b3 hl3 hc HB HS HX
        go_wp2_with ((with_reducible refine gate_builtin (b := .append) (xs := #[.tmp 37, .tmp 38]) rfl ?_); at_builtin; refine Hid.out ?_)
        refine Lib.hid ?_
        refine Kd.R_append_rows (Kd.int .u8) (Rr := (Kd.int .u8).K w3) (w0 := w) w.heap.size rfl (.tmp 37) (.tmp 38) 26 5 (.int .u8 0) 1 rfl Try.underlying26 infoU8 rfl (by decide) (by omega) (.slice A xs.length c) xs (leB l 4) A3 4 c3 (fun _ => True) (fun _ => False) rfl rfl HR.out HR3.out (fun x cs h => h) (fun _ hk => hk.elim) (fun _ _ => trivial) HB3.out HB3.out.size (by have := HL.out; omega) ?_
        intro v2 w2 ho hb hg _
        obtain ⟨A2, c2, rfl⟩ := Kd.R_slice ho
        have HO2 := Aside0.mk ho
        have HW2 := Aside0.mk hb
        have HS2 := Aside0.mk ((hg.block sb (blk_lt HS3.out) (Kd.R_ne HR.out HS3.out (by decide))).trans HS3.out)
        have HX2 := Aside0.mk ((hg.block w.heap.size (blk_lt HX3.out) (Kd.R_ne HR.out HX3.out (by decide))).trans HX3.out)
        clear ho hb hg HR HR3 HB3 HS3 HX3
        go_wp2_with fail
        go_roundg (4 - 1)
        case measure => have := HI.out; omega
        case rel => exact ⟨1, A2, c2, xs ++ leB l 4, ⟨by have := HI.out; omega⟩, by go_num, by rw [List.length_append, leB_len], ⟨by rw [HXS.out]; first | rfl | simp [dataU]⟩, ⟨by rw [List.length_append, leB_len]; have := HL.out; omega⟩, HO2, HW2, HS2, HX2⟩
      · have hc : wr.cell? ⟨sb, 1, none⟩ = some (.int .i64 p) := by rw [cell_blk HS.out]; rfl
        go_wp2_with fail
        refine (fixU p wr (by have := HRG.out; omega)).mono ?_
        rintro r w3 ⟨v3, rfl, hr3, b3⟩
        obtain ⟨A3, c3, rfl⟩ := Kd.R_slice hr3
        have hl3 : (leB p 4).length = 4 := leB_len _ _
        have HR3 := Aside0.mk (row_at hr3)
        rw [hl3] at HR3 hr3 ⊢
        have HR := Aside0.mk (Kd.R_below HR.out b3)
        have HB3 := Aside0.mk (HB.out.trans (b3.mono HB.out.size))
        have HS3 := Aside0.mk ((b3.block _ (blk_lt HS.out)).trans HS.out)
        have HX3 := Aside0.mk ((b3.block _ (blk_lt HX.out)).trans HX.out)
        clear hr3 b3 hl3 hc HB HS HX
        go_wp2_with ((with_reducible refine gate_builtin (b := .append) (xs := #[.tmp 37, .tmp 38]) rfl ?_); at_builtin; refine Hid.out ?_)
        refine Lib.hid ?_
        refine Kd.R_append_rows (Kd.int .u8) (Rr := (Kd.int .u8).K w3) (w0 := w) w.heap.size rfl (.tmp 37) (.tmp 38) 26 5 (.int .u8 0) 1 rfl Try.underlying26 infoU8 rfl (by decide) (by omega) (.slice A xs.length c) xs (leB p 4) A3 4 c3 (fun _ => True) (fun _ => False) rfl rfl HR.out HR3.out (fun x cs h => h) (fun _ hk => hk.elim) (fun _ _ => trivial) HB3.out HB3.out.size (by have := HL.out; omega) ?_
        intro v2 w2 ho hb hg _
        obtain ⟨A2, c2, rfl⟩ := Kd.R_slice ho
        have HO2 := Aside0.mk ho
        have HW2 := Aside0.mk hb
        have HS2 := Aside0.mk ((hg.block sb (blk_lt HS3.out) (Kd.R_ne HR.out HS3.out (by decide))).trans HS3.out)
        have HX2 := Aside0.mk ((hg.block w.heap.size (blk_lt HX3.out) (Kd.R_ne HR.out HX3.out (by decide))).trans HX3.out)
        clear ho hb hg HR HR3 HB3 HS3 HX3
        go_wp2_with fail
        go_roundg (4 - 2)
        case measure => have := HI.out; omega
        case rel => exact ⟨2, A2, c2, xs ++ leB p 4, ⟨by have := HI.out; omega⟩, by go_num, by rw [List.length_append, leB_len], ⟨by rw [HXS.out]; first | rfl | simp [dataU]⟩, ⟨by rw [List.length_append, leB_len]; have := HL.out; omega⟩, HO2, HW2, HS2, HX2⟩
      · have hc : wr.cell? ⟨sb, 2, none⟩ = some (.int .i64 q) := by rw [cell_blk HS.out]; rfl
        go_wp2_with fail
        refine (fixU q wr (by have := HRG.out; omega)).mono ?_
        rintro r w3 ⟨v3, rfl, hr3, b3⟩
        obtain ⟨A3, c3, rfl⟩ := Kd.R_slice hr3
        have hl3 : (leB q 4).length = 4 := leB_len _ _
        have HR3 := Aside0.mk (row_at hr3)
        rw [hl3] at HR3 hr3 ⊢
        have HR := Aside0.mk (Kd.R_below HR.out b3)
        have HB3 := Aside0.mk (HB.out.trans (b3.mono HB.out.size))
        have HS3 := Aside0.mk ((b3.block _ (blk_lt HS.out)).trans HS.out)
        have HX3 := Aside0.mk ((b3.block _ (blk_lt HX.out)).trans HX.out)
        clear hr3 b3 hl3 hc HB HS HX
        go_wp2_with ((with_reducible refine gate_builtin (b := .append) (xs := #[.tmp 37, .tmp 38]) rfl ?_); at_builtin; refine Hid.out ?_)
        refine Lib.hid ?_
        refine Kd.R_append_rows (Kd.int .u8) (Rr := (Kd.int .u8).K w3) (w0 := w) w.heap.size rfl (.tmp 37) (.tmp 38) 26 5 (.int .u8 0) 1 rfl Try.underlying26 infoU8 rfl (by decide) (by omega) (.slice A xs.length c) xs (leB q 4) A3 4 c3 (fun _ => True) (fun _ => False) rfl rfl HR.out HR3.out (fun x cs h => h) (fun _ hk => hk.elim) (fun _ _ => trivial) HB3.out HB3.out.size (by have := HL.out; omega) ?_
        intro v2 w2 ho hb hg _
        obtain ⟨A2, c2, rfl⟩ := Kd.R_slice ho
        have HO2 := Aside0.mk ho
        have HW2 := Aside0.mk hb
        have HS2 := Aside0.mk ((hg.block sb (blk_lt HS3.out) (Kd.R_ne HR.out HS3.out (by decide))).trans HS3.out)
        have HX2 := Aside0.mk ((hg.block w.heap.size (blk_lt HX3.out) (Kd.R_ne HR.out HX3.out (by decide))).trans HX3.out)
        clear ho hb hg HR HR3 HB3 HS3 HX3
        go_wp2_with fail
        go_roundg (4 - 3)
        case measure => have := HI.out; omega
        case rel => exact ⟨3, A2, c2, xs ++ leB q 4, ⟨by have := HI.out; omega⟩, by go_num, by rw [List.length_append, leB_len], ⟨by rw [HXS.out]; first | rfl | simp [dataU]⟩, ⟨by rw [List.length_append, leB_len]; have := HL.out; omega⟩, HO2, HW2, HS2, HX2⟩
      · have hc : wr.cell? ⟨sb, 3, none⟩ = some (.int .i64 o) := by rw [cell_blk HS.out]; rfl
        go_wp2_with fail
        refine (fixU o wr (by have := HRG.out; omega)).mono ?_
        rintro r w3 ⟨v3, rfl, hr3, b3⟩
        obtain ⟨A3, c3, rfl⟩ := Kd.R_slice hr3
        have hl3 : (leB o 4).length = 4 := leB_len _ _
        have HR3 := Aside0.mk (row_at hr3)
        rw [hl3] at HR3 hr3 ⊢
        have HR := Aside0.mk (Kd.R_below HR.out b3)
        have HB3 := Aside0.mk (HB.out.trans (b3.mono HB.out.size))
        have HS3 := Aside0.mk ((b3.block _ (blk_lt HS.out)).trans HS.out)
        have HX3 := Aside0.mk ((b3.block _ (blk_lt HX.out)).trans HX.out)
        clear hr3 b3 hl3 hc HB HS HX
        go_wp2_with ((with_reducible refine gate_builtin (b := .append) (xs := #[.tmp 37, .tmp 38]) rfl ?_); at_builtin; refine Hid.out ?_)
        refine Lib.hid ?_
        refine Kd.R_append_rows (Kd.int .u8) (Rr := (Kd.int .u8).K w3) (w0 := w) w.heap.size rfl (.tmp 37) (.tmp 38) 26 5 (.int .u8 0) 1 rfl Try.underlying26 infoU8 rfl (by decide) (by omega) (.slice A xs.length c) xs (leB o 4) A3 4 c3 (fun _ => True) (fun _ => False) rfl rfl HR.out HR3.out (fun x cs h => h) (fun _ hk => hk.elim) (fun _ _ => trivial) HB3.out HB3.out.size (by have := HL.out; omega) ?_
        intro v2 w2 ho hb hg _
        obtain ⟨A2, c2, rfl⟩ := Kd.R_slice ho
        have HO2 := Aside0.mk ho
        have HW2 := Aside0.mk hb
        have HS2 := Aside0.mk ((hg.block sb (blk_lt HS3.out) (Kd.R_ne HR.out HS3.out (by decide))).trans HS3.out)
        have HX2 := Aside0.mk ((hg.block w.heap.size (blk_lt HX3.out) (Kd.R_ne HR.out HX3.out (by decide))).trans HX3.out)
        clear ho hb hg HR HR3 HB3 HS3 HX3
        go_wp2_with fail
        go_roundg (4 - 4)
        case measure => have := HI.out; omega
        case rel => exact ⟨4, A2, c2, xs ++ leB o 4, ⟨by have := HI.out; omega⟩, by go_num, by rw [List.length_append, leB_len], ⟨by rw [HXS.out]; first | rfl | simp [dataU]⟩, ⟨by rw [List.length_append, leB_len]; have := HL.out; omega⟩, HO2, HW2, HS2, HX2⟩
      · have e0 : wr.cell? ⟨w.heap.size, 0, none⟩ = some (.int .i64 g) := cell_blk HX.out
        have e1 : wr.cell? ⟨w.heap.size, 1, none⟩ = some (.int .i64 b) := cell_blk HX.out
        have HC := Aside0.mk (row_at HR.out)
        have HCC := Aside0.mk (Kd.R_reads' HR.out).2.1
        have HXD := Aside0.mk (show xs = dataU l p q o by rw [HXS.out]; exact List.take_of_length_le (by rw [dataU_len]; omega))
        clear HR HXS
        go_wp2_with fail
        refine (put_any 1 g b 0 A c xs HC.out HCC.out (by rw [HXD.out]; exact dataU_byte _ _ _ _)).mono ?_
        rintro r w4 ⟨v4, rfl, hr4, b4⟩
        have HB4 := Aside0.mk (HB.out.trans (b4.mono HB.out.size))
        rw [HXD.out, ← HQ.out] at hr4
        rw [HXD.out, ← HQ.out]
        have HR4 := Aside0.mk (Kd.R_lower (base' := w.heap.size) hr4 HB.out.size)
        clear b4 hr4 e0 e1
        go_wp2_with fail
        go_ret2
        exact ⟨v4, rfl, HR4.out, HB4.out⟩
end Supr
end Go.Proofs.Ytopfjmeejpamjaa
end
section
namespace Go.Proofs.Ytopfjmeejpamjaa.PSuper
open Go.RowKit Go.Proofs.YtopfjmeejpamjaaW.PrintWords Go.Proofs.YtopfjmeejpamjaaW.PrintLast Go.Proofs.YtopfjmeejpamjaaW.PrintMore
attribute [local go_sem] max2_int min2_int max_two min_two max_three min_three max_four min_four
set_option linter.unusedVariables false
set_option linter.unusedSimpArgs false
set_option linter.ambiguousOpen false
def chantryref01_Fix.f (k : Nat) (a0 : Int) (a1 : Int) : Option (List Int × Int) := PCellGets.chantryref01_Fix.f k a0 a1
theorem chantryref01_Fix.mono : ∀ a0 a1 k, LeO (chantryref01_Fix.f k a0 a1) (chantryref01_Fix.f (k + 1) a0 a1) := PCellGets.chantryref01_Fix.mono
theorem chantryref01_Fix.calls (k : Nat) (a0 : Int) (a1 : Int) (r1 : List Int) (r2 : Int) (w : World) (h : chantryref01_Fix.f k a0 a1 = some (r1, r2)) :
    Calls Try.prog 29 #[.int .i64 a0, .int .i64 a1] w fun e w' => ∃ v0_ : Value, e = .returned (.tuple #[v0_, .int .i64 r2]) ∧ Kd.R (Kd.int .u8) 5 w' w.heap.size (fun _ => True) v0_ r1 ∧ Below w.heap.size w w' := PCellGets.chantryref01_Fix.calls k a0 a1 r1 r2 w h
def chantryref07_Put.f (k : Nat) (a0_0 : Int) (a0_1 : Int) (a0_2 : Int) (a0_3 : Int) (l0_4 : List Int) : Option (List Int × Int) := PSectorGets.chantryref07_Put.f k a0_0 a0_1 a0_2 a0_3 l0_4
theorem chantryref07_Put.mono : ∀ a0 a1 a2 a3 a4 k, LeO (chantryref07_Put.f k a0 a1 a2 a3 a4) (chantryref07_Put.f (k + 1) a0 a1 a2 a3 a4) := PSectorGets.chantryref07_Put.mono
theorem chantryref07_Put.calls (k : Nat) (a0_0 : Int) (a0_1 : Int) (a0_2 : Int) (a0_3 : Int) (A0_4 : Option Addr) (c0_4 : Nat) (l0_4 : List Int) (r1 : List Int) (r2 : Int) (w : World) (hr0_4 : Kd.C (Kd.int .u8) w A0_4 l0_4.length l0_4) (hc0_4 : l0_4.length ≤ c0_4) (h : chantryref07_Put.f k a0_0 a0_1 a0_2 a0_3 l0_4 = some (r1, r2)) :
    Calls Try.prog 30 #[.agg #[.int .i64 a0_0, .int .i64 a0_1, .int .i64 a0_2, .int .i64 a0_3, .slice A0_4 l0_4.length c0_4]] w fun e w' => ∃ v0_ : Value, e = .returned (.tuple #[v0_, .int .i64 r2]) ∧ Kd.R (Kd.int .u8) 5 w' w.heap.size (fun _ => True) v0_ r1 ∧ Below w.heap.size w w' := PSectorGets.chantryref07_Put.calls k a0_0 a0_1 a0_2 a0_3 A0_4 c0_4 l0_4 r1 r2 w hr0_4 hc0_4 h
def chantryref08_Check.f (a0_0 : Int) (a0_1 : Int) (a0_2 : Int) (a0_3 : Int) (a0_4 : Int) (a0_5 : Int) : Option (Bool) := some (Supr.supOk a0_0 a0_1 a0_2 a0_3 a0_4 a0_5)
theorem chantryref08_Check.calls (a0_0 : Int) (a0_1 : Int) (a0_2 : Int) (a0_3 : Int) (a0_4 : Int) (a0_5 : Int) (r : Bool) (w : World) (h : chantryref08_Check.f a0_0 a0_1 a0_2 a0_3 a0_4 a0_5 = some r) :
    Calls Try.prog 13 #[.agg #[.int .i64 a0_0, .int .i64 a0_1, .int .i64 a0_2, .int .i64 a0_3, .int .i64 a0_4, .int .i64 a0_5]] w fun e w' => e = .returned (.bool r) ∧ Below w.heap.size w w' := by
  cases h
  exact Supr.xcheck_any _ _ _ _ _ _
def chantryref08_Put.l0 : Nat → List Int → List Int → Int → Int → Int → Int → Int → Int → Int → Option (List Int × Int)
  | 0, _, _, _, _, _, _, _, _, _ => none
  | k + 1, x4, x5, x6, x213000, x213001, x213002, x213003, x213004, x213005 => if x6 < 4 then (if 0 ≤ x6 then (if x6 < (x4.length : Int) then ((chantryref01_Fix.f k (rd x4 x6) 4).bind fun bt218 => (if x5.length + bt218.1.length < 140737488355328 then (chantryref08_Put.l0 k x4 (x5 ++ bt218.1) (wrap64 (x6 + 1)) x213000 x213001 x213002 x213003 x213004 x213005) else (none))) else (none)) else (none)) else ((chantryref07_Put.f k 1 x213000 x213001 0 x5).bind fun bt225 => (some (bt225.1, bt225.2)))
def chantryref08_Put.f (k : Nat) (a0_0 : Int) (a0_1 : Int) (a0_2 : Int) (a0_3 : Int) (a0_4 : Int) (a0_5 : Int) : Option (List Int × Int) := (chantryref08_Check.f a0_0 a0_1 a0_2 a0_3 a0_4 a0_5).bind fun t213 => (if t213 = true then (chantryref08_Put.l0 k (([a0_2, a0_3, a0_4, a0_5] : List Int)) ([] : List Int) 0 a0_0 a0_1 a0_2 a0_3 a0_4 a0_5) else (some (([] : List Int), 1)))
theorem chantryref08_Put.mono_l : ∀ k, (∀ y0 y1 y2 y3 y4 y5 y6 y7 y8, LeO (chantryref08_Put.l0 k y0 y1 y2 y3 y4 y5 y6 y7 y8) (chantryref08_Put.l0 (k + 1) y0 y1 y2 y3 y4 y5 y6 y7 y8))
  | 0 => fun _ _ _ _ _ _ _ _ _ r h => by simp [chantryref08_Put.l0] at h
  | k + 1 => by
    have ih0 := chantryref08_Put.mono_l k
    · intro y0 y1 y2 y3 y4 y5 y6 y7 y8
      unfold chantryref08_Put.l0
      repeat' first
      | (with_reducible exact ih0 _ _ _ _ _ _ _ _ _)
      | (with_reducible exact chantryref01_Fix.mono _ _ _)
      | (with_reducible exact chantryref07_Put.mono _ _ _ _ _ _)
      | (with_reducible exact LeO.refl _)
      | (with_reducible exact LeO.none _)
      | (with_reducible refine LeO.ite ?_ ?_)
      | (with_reducible refine LeO.bind ?_ (fun _ => ?_))
      | exact ih0 _ _ _ _ _ _ _ _ _
      | exact chantryref01_Fix.mono _ _ _
      | exact chantryref07_Put.mono _ _ _ _ _ _
      | exact LeO.none _
      | refine LeO.ite ?_ ?_
      | refine LeO.bind ?_ (fun _ => ?_)
theorem chantryref08_Put.mono : ∀ a0 a1 a2 a3 a4 a5 k, LeO (chantryref08_Put.f k a0 a1 a2 a3 a4 a5) (chantryref08_Put.f (k + 1) a0 a1 a2 a3 a4 a5) := by
  intro a0 a1 a2 a3 a4 a5 k
  have ih0 := chantryref08_Put.mono_l k
  unfold chantryref08_Put.f
  repeat' first
      | (with_reducible exact ih0 _ _ _ _ _ _ _ _ _)
      | (with_reducible exact chantryref01_Fix.mono _ _ _)
      | (with_reducible exact chantryref07_Put.mono _ _ _ _ _ _)
      | (with_reducible exact LeO.refl _)
      | (with_reducible exact LeO.none _)
      | (with_reducible refine LeO.ite ?_ ?_)
      | (with_reducible refine LeO.bind ?_ (fun _ => ?_))
      | exact ih0 _ _ _ _ _ _ _ _ _
      | exact chantryref01_Fix.mono _ _ _
      | exact chantryref07_Put.mono _ _ _ _ _ _
      | exact LeO.none _
      | refine LeO.ite ?_ ?_
      | refine LeO.bind ?_ (fun _ => ?_)
set_option maxHeartbeats 8000000 in
set_option maxRecDepth 100000 in
theorem chantryref08_Put.calls (k : Nat) (a0_0 : Int) (a0_1 : Int) (a0_2 : Int) (a0_3 : Int) (a0_4 : Int) (a0_5 : Int) (r1 : List Int) (r2 : Int) (w : World) (h : chantryref08_Put.f k a0_0 a0_1 a0_2 a0_3 a0_4 a0_5 = some (r1, r2)) :
    Calls Try.prog 8 #[.agg #[.int .i64 a0_0, .int .i64 a0_1, .int .i64 a0_2, .int .i64 a0_3, .int .i64 a0_4, .int .i64 a0_5]] w fun e w' => ∃ v0_ : Value, e = .returned (.tuple #[v0_, .int .i64 r2]) ∧ Kd.R (Kd.int .u8) 5 w' w.heap.size (fun _ => True) v0_ r1 ∧ Below w.heap.size w w' := by
  have hu25 := Try.underlying25
  have hu69 := Try.underlying69
  have HB := Aside0.mk (Below.refl w.heap.size w)
  have H : ((chantryref08_Check.f a0_0 a0_1 a0_2 a0_3 a0_4 a0_5).bind fun t213 => (if t213 = true then (chantryref08_Put.l0 k (([a0_2, a0_3, a0_4, a0_5] : List Int)) ([] : List Int) 0 a0_0 a0_1 a0_2 a0_3 a0_4 a0_5) else (some (([] : List Int), 1)))) = some (r1, r2) := h
  clear h
  replace H := Option.bind_eq_some_iff.mp H
  obtain ⟨t213, A20, H⟩ := H
  replace H : (if t213 = true then (chantryref08_Put.l0 k (([a0_2, a0_3, a0_4, a0_5] : List Int)) ([] : List Int) 0 a0_0 a0_1 a0_2 a0_3 a0_4 a0_5) else (some (([] : List Int), 1))) = some (r1, r2) := H
  have A2 := Aside0.mk A20
  clear A20
  by_cases c3 : t213 = true
  · subst c3
    have H1 : (chantryref08_Put.l0 k (([a0_2, a0_3, a0_4, a0_5] : List Int)) ([] : List Int) 0 a0_0 a0_1 a0_2 a0_3 a0_4 a0_5) = some (r1, r2) := by rw [if_pos rfl] at H; exact H
    clear H
    have H := H1
    clear H1
    obtain ⟨y214, hy214⟩ : ∃ y_ : List Int, y_ = (([a0_2, a0_3, a0_4, a0_5] : List Int)) := ⟨_, rfl⟩
    replace H : (chantryref08_Put.l0 k y214 ([] : List Int) 0 a0_0 a0_1 a0_2 a0_3 a0_4 a0_5) = some (r1, r2) := by first | (rw [hy214]; with_reducible exact H) | (have H2_ := (Option.bind_some _ _).symm.trans H; rw [hy214]; with_reducible exact H2_) | (have H2_ := (Option.bind_some _ _).symm.trans H; with_reducible exact H2_) | with_reducible exact H | (rw [hy214]; exact H) | exact H
    have Ny214 := Aside0.mk hy214
    clear hy214
    have H' := Aside0.mk H
    clear H
    go_enter Try.func8, Try.ntmps8
    go_wp2_with (first | ((with_reducible refine gate_dst (N := 1) rfl ?_); refine box_event ?hg (N := 1) ?hd (cs := #[.int .i64 a0_0, .int .i64 a0_1, .int .i64 a0_2, .int .i64 a0_3, .int .i64 a0_4, .int .i64 a0_5]) (t := 25) ?hr ?_; (case hd => rfl); (case hg => rfl); (case hr => first | (go_simp; done) | (go_simp; rfl)); intro gb212 hg w4 hbox hb; have n0_ := Aside0.mk (below_step (by repeat (first | (with_reducible first | exact HB.out | apply below_alloc | apply pw_below_drewN | apply below_drew1) | exact HB.out)) hb); have n1_ := Aside0.mk (hbox); have n2_ := Aside0.mk ((by rw [hg]; exact (below_size (by repeat (first | (with_reducible first | exact HB.out | apply below_alloc | apply pw_below_drewN | apply below_drew1) | exact HB.out))) : w.heap.size ≤ gb212)); have n3_ := Aside0.mk ((by rw [hg]; exact (below_size (by repeat (first | (with_reducible first | exact HB.out | apply below_alloc | apply pw_below_drewN | apply below_drew1) | exact HB.out))) : w.heap.size ≤ gb212)); clear HB; have HB := n0_; have BK212 := n1_; have GW212 := n2_; have GE212 := n3_; clear n0_ n1_ n2_ n3_; clear hb hbox hg; have hcz5_0 : w4.cell? ⟨gb212, 0, none⟩ = some (.int .i64 a0_0) := (blk_cell BK212.out 0).trans rfl; have hcz5_1 : w4.cell? ⟨gb212, 1, none⟩ = some (.int .i64 a0_1) := (blk_cell BK212.out 1).trans rfl; have hcz5_2 : w4.cell? ⟨gb212, 2, none⟩ = some (.int .i64 a0_2) := (blk_cell BK212.out 2).trans rfl; have hcz5_3 : w4.cell? ⟨gb212, 3, none⟩ = some (.int .i64 a0_3) := (blk_cell BK212.out 3).trans rfl; have hcz5_4 : w4.cell? ⟨gb212, 4, none⟩ = some (.int .i64 a0_4) := (blk_cell BK212.out 4).trans rfl; have hcz5_5 : w4.cell? ⟨gb212, 5, none⟩ = some (.int .i64 a0_5) := (blk_cell BK212.out 5).trans rfl; have hfz5_0 := blk_frozen BK212.out 0; have hfz5_1 := blk_frozen BK212.out 1; have hfz5_2 := blk_frozen BK212.out 2; have hfz5_3 := blk_frozen BK212.out 3; have hfz5_4 := blk_frozen BK212.out 4; have hfz5_5 := blk_frozen BK212.out 5) | ((with_reducible refine gate_callee (f := 13) rfl ?_); refine goesL_ (some 10) rfl rfl Try.func13 (by kernel_rfl) rfl #[.agg #[.int .i64 a0_0, .int .i64 a0_1, .int .i64 a0_2, .int .i64 a0_3, .int .i64 a0_4, .int .i64 a0_5]] rfl (by (try simp only [List.map_toArray, List.map_cons, List.map_nil]); first | done | rfl | (simp only [List.length_drop, List.length_take]; rfl)) ?_; (with_reducible refine (chantryref08_Check.calls a0_0 a0_1 a0_2 a0_3 a0_4 a0_5 true _ A2.out).mono ?_); rintro e w6 ⟨rfl, hb⟩; refine ⟨_, rfl, ?_⟩; have n0_ := Aside0.mk (blk_below (g := gb212) (o := .cells #[.int .i64 a0_0, .int .i64 a0_1, .int .i64 a0_2, .int .i64 a0_3, .int .i64 a0_4, .int .i64 a0_5] 25 (0, 0)) (by (with_reducible repeat (first | refine blk_drewN ?_ _ | refine blk_drew ?_ | refine blk_alloc ?_ _)); exact BK212.out) hb); have n1_ := Aside0.mk (below_step (by repeat (first | (with_reducible first | exact HB.out | apply below_alloc | apply pw_below_drewN | apply below_drew1 | refine below_set ?_ GE212.out) | exact HB.out)) hb); clear BK212; clear HB; have BK212 := n0_; have HB := n1_; clear n0_ n1_; (try clear hb); (try clear hb2); (try clear hk); (try clear hi); have hcz7_0 : w6.cell? ⟨gb212, 0, none⟩ = some (.int .i64 a0_0) := (blk_cell BK212.out 0).trans rfl; have hcz7_1 : w6.cell? ⟨gb212, 1, none⟩ = some (.int .i64 a0_1) := (blk_cell BK212.out 1).trans rfl; have hcz7_2 : w6.cell? ⟨gb212, 2, none⟩ = some (.int .i64 a0_2) := (blk_cell BK212.out 2).trans rfl; have hcz7_3 : w6.cell? ⟨gb212, 3, none⟩ = some (.int .i64 a0_3) := (blk_cell BK212.out 3).trans rfl; have hcz7_4 : w6.cell? ⟨gb212, 4, none⟩ = some (.int .i64 a0_4) := (blk_cell BK212.out 4).trans rfl; have hcz7_5 : w6.cell? ⟨gb212, 5, none⟩ = some (.int .i64 a0_5) := (blk_cell BK212.out 5).trans rfl; have hfz7_0 := blk_frozen BK212.out 0; have hfz7_1 := blk_frozen BK212.out 1; have hfz7_2 := blk_frozen BK212.out 2; have hfz7_3 := blk_frozen BK212.out 3; have hfz7_4 := blk_frozen BK212.out 4; have hfz7_5 := blk_frozen BK212.out 5) | ((with_reducible refine gate_dst (N := 23) rfl ?_); refine Kd.R_lit (Kd.int .i64) _ 3 ?hg (N := 23) ?hd (xs := ([a0_2, a0_3, a0_4, a0_5] : List Int)) (inner := [.int .i64 a0_2, .int .i64 a0_3, .int .i64 a0_4, .int .i64 a0_5]) (ok := fun _ => True) (okp := fun _ => True) ?hr ?hp (fun _ hk => hk) trivial (Below.refl _ _) (Nat.le_refl _) (by simp) ?_; (case hd => rfl); (case hg => rfl); (case hr => first | (go_simp; done) | (go_simp; rfl)); (case hp => exact (Reps.one (show Kd.M (Kd.int .i64) _ _ _ a0_2 [.int .i64 a0_2] from rfl) (Reps.one (show Kd.M (Kd.int .i64) _ _ _ a0_3 [.int .i64 a0_3] from rfl) (Reps.one (show Kd.M (Kd.int .i64) _ _ _ a0_4 [.int .i64 a0_4] from rfl) (Reps.one (show Kd.M (Kd.int .i64) _ _ _ a0_5 [.int .i64 a0_5] from rfl) (Reps.none _ _)))))); intro v215 w8 ho9 hb hg_ hnew_; clear hg_ hnew_; (first | rw [← Ny214.out] at ho9 | (simp only [Int.reduceToNat] at ho9; rw [← Ny214.out] at ho9)); have n0_ := Aside0.mk (Kd.R_lower ho9 (below_size (by repeat (first | (with_reducible first | exact HB.out | apply below_alloc | apply pw_below_drewN | apply below_drew1 | refine below_set ?_ GE212.out) | exact HB.out)))); have n1_ := Aside0.mk (blk_below (g := gb212) (o := .cells #[.int .i64 a0_0, .int .i64 a0_1, .int .i64 a0_2, .int .i64 a0_3, .int .i64 a0_4, .int .i64 a0_5] 25 (0, 0)) (by (with_reducible repeat (first | refine blk_drewN ?_ _ | refine blk_drew ?_ | refine blk_alloc ?_ _)); exact BK212.out) hb); have n2_ := Aside0.mk (below_step (by repeat (first | (with_reducible first | exact HB.out | apply below_alloc | apply pw_below_drewN | apply below_drew1 | refine below_set ?_ GE212.out) | exact HB.out)) hb); clear BK212; clear HB; have HO216 := n0_; have BK212 := n1_; have HB := n2_; clear n0_ n1_ n2_; clear hb ho9))
    go_loopg [5, 6] k (fun kq v5 v6 w' => ∃ (x5_1 : List Int) (x6_1 : Int), v6 = .int .i64 x6_1 ∧ Aside0 (chantryref08_Put.l0 kq y214 x5_1 x6_1 a0_0 a0_1 a0_2 a0_3 a0_4 a0_5 = some (r1, r2)) ∧ Aside0 (kq ≤ k) ∧ Aside0 (Kd.R (Kd.int .i64) 3 w' w.heap.size (fun _ => True) v215 y214) ∧ Aside0 (Kd.R (Kd.int .u8) 5 w' w.heap.size (fun _ => True) v5 x5_1) ∧ Aside0 (w'.heap[gb212]? = some (.cells #[.int .i64 a0_0, .int .i64 a0_1, .int .i64 a0_2, .int .i64 a0_3, .int .i64 a0_4, .int .i64 a0_5] 25 (0, 0))) ∧ Aside0 (Below w.heap.size w w'))
    case atStart => exact ⟨(([] : List Int)), (0), (by first | rfl | (simp; done) | (simp [*]; done)), H', ⟨Nat.le_refl _⟩, ⟨by (with_reducible repeat (first | apply Kd.R_alloc | apply Kd.R_drewN | apply Kd.R_drew)); exact HO216.out⟩, ⟨by first | exact Kd.R_nil _ _ _ _ _ | exact Kd.N_nil _ _ _ _ _ | exact Kd.V_nil _ _ _ _ _ | exact Kd.Q_nil _ _ _ _ _ | exact Kd.S_nil _ _ _ _ _⟩, ⟨by (with_reducible repeat (first | refine blk_drewN ?_ _ | refine blk_drew ?_ | refine blk_alloc ?_ _)); exact BK212.out⟩, ⟨by repeat (first | (with_reducible first | exact HB.out | apply below_alloc | apply pw_below_drewN | apply below_drew1 | refine below_set ?_ GE212.out) | exact HB.out)⟩⟩
    case round =>
      clear H'
      try clear c1
      try clear p2
      try clear c3
      try clear c8
      try clear hcz5_0
      try clear hcz5_1
      try clear hcz5_2
      try clear hcz5_3
      try clear hcz5_4
      try clear hcz5_5
      try clear hcz7_0
      try clear hcz7_1
      try clear hcz7_2
      try clear hcz7_3
      try clear hcz7_4
      try clear hcz7_5
      try clear hfz5_0
      try clear hfz5_1
      try clear hfz5_2
      try clear hfz5_3
      try clear hfz5_4
      try clear hfz5_5
      try clear hfz7_0
      try clear hfz7_1
      try clear hfz7_2
      try clear hfz7_3
      try clear hfz7_4
      try clear hfz7_5
      obtain ⟨x5_1, x6_1, rfl, HA, HK1, HO_4, HO_5, BK212, HB⟩ := hrel
      cases gk with
      | zero => exact absurd HA.out (by simp [chantryref08_Put.l0])
      | succ k1 =>
        have H := HA.out
        clear HA
        simp only [chantryref08_Put.l0] at H
        by_cases c10 : x6_1 < 4
        · rw [if_pos c10] at H
          have c10b0 : decide (x6_1 < 4) = true := decide_eq_true c10
          clear c10
          by_cases c11 : 0 ≤ x6_1
          · rw [if_pos c11] at H
            have c11b0 : decide (0 ≤ x6_1) = true := decide_eq_true c11
            clear c11
            by_cases c12 : x6_1 < (y214.length : Int)
            · rw [if_pos c12] at H
              have c12b0 : decide (x6_1 < (y214.length : Int)) = true := decide_eq_true c12
              clear c12
              replace H := Option.bind_eq_some_iff.mp H
              obtain ⟨⟨t218, t219⟩, A130, H⟩ := H
              replace H : (if x5_1.length + t218.length < 140737488355328 then (chantryref08_Put.l0 k1 y214 (x5_1 ++ t218) (wrap64 (x6_1 + 1)) a0_0 a0_1 a0_2 a0_3 a0_4 a0_5) else (none)) = some (r1, r2) := H
              have A13 := Aside0.mk A130
              clear A130
              by_cases c14 : x5_1.length + t218.length < 140737488355328
              · rw [if_pos c14] at H
                have LMc14 := Aside0.mk c14
                clear c14
                obtain ⟨y222, hy222⟩ : ∃ y_ : List Int, y_ = (x5_1 ++ t218) := ⟨_, rfl⟩
                replace H : (chantryref08_Put.l0 k1 y214 y222 (wrap64 (x6_1 + 1)) a0_0 a0_1 a0_2 a0_3 a0_4 a0_5) = some (r1, r2) := by first | (rw [hy222]; with_reducible exact H) | (have H2_ := (Option.bind_some _ _).symm.trans H; rw [hy222]; with_reducible exact H2_) | (have H2_ := (Option.bind_some _ _).symm.trans H; with_reducible exact H2_) | with_reducible exact H | (rw [hy222]; exact H) | exact H
                have Ny222 := Aside0.mk hy222
                clear hy222
                have H' := Aside0.mk H
                clear H
                obtain ⟨Ao15, co15, eo15⟩ := Kd.R_slice HO_4.out
                subst eo15
                have p217 : 0 ≤ (x6_1 : Int) := of_decide_eq_true (by first | (with_reducible assumption) | assumption)
                have q217 : x6_1 < (y214.length : Int) := of_decide_eq_true (by first | (with_reducible assumption) | assumption)
                obtain ⟨ad217, e217, hx217_0⟩ := Kd.at_int (Kd.R_reads' HO_4.out).2.2 x6_1 p217 q217
                cases e217
                replace p217 := eq_true p217
                replace q217 := eq_true q217
                go_wp2_with (first | ((with_reducible refine gate_callee (f := 29) rfl ?_); refine goesL_ (some 33) rfl rfl Try.func29 (by kernel_rfl) rfl #[.int .i64 (rd y214 x6_1), .int .i64 4] rfl (by (try simp only [List.map_toArray, List.map_cons, List.map_nil]); first | done | rfl | (simp only [List.length_drop, List.length_take]; rfl)) ?_; (with_reducible refine (chantryref01_Fix.calls k1 (rd y214 x6_1) 4 t218 t219 _ A13.out).mono ?_); rintro e w16 ⟨v220, rfl, ho0, hb⟩; refine ⟨_, rfl, ?_⟩; have n0_ := Aside0.mk (Kd.R_below (by (with_reducible repeat (first | apply Kd.R_alloc | apply Kd.R_drewN | apply Kd.R_drew)); exact HO_4.out) hb); have n1_ := Aside0.mk (Kd.R_elder' (by (with_reducible repeat (first | apply Kd.R_alloc | apply Kd.R_drewN | apply Kd.R_drew)); exact HO_5.out) (Kd.R_base ho0) hb); have n2_ := Aside0.mk (Kd.R_lower (Kd.R_new' ho0 (Kd.R_lt (by (with_reducible repeat (first | apply Kd.R_alloc | apply Kd.R_drewN | apply Kd.R_drew)); exact HO_5.out))) (below_size (by repeat (first | (with_reducible first | exact HB.out | apply below_alloc | apply pw_below_drewN | apply below_drew1 | refine below_set ?_ GE212.out) | exact HB.out)))); have n3_ := Aside0.mk (blk_below (g := gb212) (o := .cells #[.int .i64 a0_0, .int .i64 a0_1, .int .i64 a0_2, .int .i64 a0_3, .int .i64 a0_4, .int .i64 a0_5] 25 (0, 0)) (by (with_reducible repeat (first | refine blk_drewN ?_ _ | refine blk_drew ?_ | refine blk_alloc ?_ _)); exact BK212.out) hb); have n4_ := Aside0.mk (below_step (by repeat (first | (with_reducible first | exact HB.out | apply below_alloc | apply pw_below_drewN | apply below_drew1 | refine below_set ?_ GE212.out) | exact HB.out)) hb); clear HO_4; clear HO_5; clear BK212; clear HB; have HO_4 := n0_; have HO_5 := n1_; have HO221 := n2_; have BK212 := n3_; have HB := n4_; clear n0_ n1_ n2_ n3_ n4_; (try clear hb); (try clear hb2); (try clear hk); (try clear hi); (try clear ho0); obtain ⟨Ao18, co18, eo18⟩ := Kd.R_slice HO221.out; subst eo18) | ((with_reducible refine gate_builtin (b := .append) (xs := #[.tmp 36, .tmp 37]) rfl ?_); at_builtin; refine Kd.R_append_rows (Kd.int .u8) (w0 := w) w.heap.size rfl (.tmp 36) (.tmp 37) 26 5 (.int .u8 0) 1 rfl Try.underlying26 info5 rfl (by decide) (by omega) u5 x5_1 t218 _ _ _ (fun k_ => some k_ ≠ (.slice Ao18 t218.length co18 : Value).ownBlock) (fun _ => False) rfl rfl ?aO ?aR (fun _ _ h => h) (fun _ h => h.elim) ?aF ?aB ?aS ?aL ?_; (case aR => repeat (first | exact (Kd.R_reads' HO221.out).2.2 | (with_reducible refine Kd.C_alloc ?_ _) | (with_reducible refine Kd.C_drewN ?_ _) | (with_reducible refine Kd.C_drew ?_))); (case aB => exact (by repeat (first | (with_reducible first | exact HB.out | apply below_alloc | apply pw_below_drewN | apply below_drew1 | refine below_set ?_ GE212.out) | exact HB.out))); (case aF => exact (fun k_ hk => Kd.fresh' (Kd.R_lt (by (with_reducible repeat (first | apply Kd.R_alloc | apply Kd.R_drewN | apply Kd.R_drew)); exact HO221.out)) k_ hk)); (case aO => exact (by (with_reducible repeat (first | apply Kd.R_alloc | apply Kd.R_drewN | apply Kd.R_drew)); exact Kd.R_mono HO_5.out (fun _ hk => hk.2))); (case aS => exact (below_size (by repeat (first | (with_reducible first | exact HB.out | apply below_alloc | apply pw_below_drewN | apply below_drew1 | refine below_set ?_ GE212.out) | exact HB.out)))); (case aL => have := LMc14.out; omega); intro v223 w17 ho hb hg hat; rw [← Ny222.out] at ho; have n0_ := Aside0.mk (Kd.R_over' (by (with_reducible repeat (first | apply Kd.R_alloc | apply Kd.R_drewN | apply Kd.R_drew)); exact HO_4.out) (Kd.R_typed (by (with_reducible repeat (first | apply Kd.R_alloc | apply Kd.R_drewN | apply Kd.R_drew)); exact HO_5.out)) (by decide) hg); have n1_ := Aside0.mk (blk_grown (g := gb212) (o := .cells #[.int .i64 a0_0, .int .i64 a0_1, .int .i64 a0_2, .int .i64 a0_3, .int .i64 a0_4, .int .i64 a0_5] 25 (0, 0)) (by (with_reducible repeat (first | refine blk_drewN ?_ _ | refine blk_drew ?_ | refine blk_alloc ?_ _)); exact BK212.out) hg (Kd.R_ne HO_5.out BK212.out (by decide))); have n2_ := Aside0.mk (Kd.R_after (ok := (fun _ => True)) (by (with_reducible repeat (first | apply Kd.R_alloc | apply Kd.R_drewN | apply Kd.R_drew)); exact HO221.out) hg hat); have n3_ := Aside0.mk (hb); have n4_ := Aside0.mk (ho); clear HO_4; clear BK212; clear HO221; clear HB; clear HO_5; have HO_4 := n0_; have BK212 := n1_; have HO221 := n2_; have HB := n3_; have HO224 := n4_; clear n0_ n1_ n2_ n3_ n4_; clear ho hb hg hat))
                go_roundg k1
                case measure => have := HK1.out; omega
                case rel => exact ⟨(y222), (wrap64 (x6_1 + 1)), (by first | rfl | (simp; done) | (simp [*]; done)), H', ⟨by have := HK1.out; omega⟩, ⟨by (with_reducible repeat (first | apply Kd.R_alloc | apply Kd.R_drewN | apply Kd.R_drew)); exact HO_4.out⟩, ⟨by (with_reducible repeat (first | apply Kd.R_alloc | apply Kd.R_drewN | apply Kd.R_drew)); exact Kd.R_mono HO224.out (fun _ hk => trivial)⟩, ⟨by (with_reducible repeat (first | refine blk_drewN ?_ _ | refine blk_drew ?_ | refine blk_alloc ?_ _)); exact BK212.out⟩, ⟨by repeat (first | (with_reducible first | exact HB.out | apply below_alloc | apply pw_below_drewN | apply below_drew1 | refine below_set ?_ GE212.out) | exact HB.out)⟩⟩
              · rw [if_neg c14] at H
                exact absurd H (by simp)
            · rw [if_neg c12] at H
              exact absurd H (by simp)
          · rw [if_neg c11] at H
            exact absurd H (by simp)
        · rw [if_neg c10] at H
          have c10b0 : decide (x6_1 < 4) = false := decide_eq_false c10
          clear c10
          replace H := Option.bind_eq_some_iff.mp H
          obtain ⟨⟨t225, t228⟩, A190, H⟩ := H
          replace H : (some (t225, t228)) = some (r1, r2) := H
          have A19 := Aside0.mk A190
          clear A190
          simp only [Option.some.injEq, Prod.mk.injEq] at H
          obtain ⟨rfl, rfl⟩ := H
          have hcz20_0 : wr.cell? ⟨gb212, 0, none⟩ = some (.int .i64 a0_0) := (blk_cell BK212.out 0).trans rfl
          have hcz20_1 : wr.cell? ⟨gb212, 1, none⟩ = some (.int .i64 a0_1) := (blk_cell BK212.out 1).trans rfl
          have hcz20_2 : wr.cell? ⟨gb212, 2, none⟩ = some (.int .i64 a0_2) := (blk_cell BK212.out 2).trans rfl
          have hcz20_3 : wr.cell? ⟨gb212, 3, none⟩ = some (.int .i64 a0_3) := (blk_cell BK212.out 3).trans rfl
          have hcz20_4 : wr.cell? ⟨gb212, 4, none⟩ = some (.int .i64 a0_4) := (blk_cell BK212.out 4).trans rfl
          have hcz20_5 : wr.cell? ⟨gb212, 5, none⟩ = some (.int .i64 a0_5) := (blk_cell BK212.out 5).trans rfl
          have hfz20_0 := blk_frozen BK212.out 0
          have hfz20_1 := blk_frozen BK212.out 1
          have hfz20_2 := blk_frozen BK212.out 2
          have hfz20_3 := blk_frozen BK212.out 3
          have hfz20_4 := blk_frozen BK212.out 4
          have hfz20_5 := blk_frozen BK212.out 5
          obtain ⟨Ao21, co21, eo21⟩ := Kd.R_slice HO_5.out
          subst eo21
          go_wp2_with (first | ((with_reducible refine gate_callee (f := 30) rfl ?_); refine goesL_ (some 45) rfl rfl Try.func30 (by kernel_rfl) rfl #[.agg #[.int .i64 1, .int .i64 a0_0, .int .i64 a0_1, .int .i64 0, .slice Ao21 x5_1.length co21]] rfl (by (try simp only [List.map_toArray, List.map_cons, List.map_nil]); first | done | rfl | (simp only [List.length_drop, List.length_take]; rfl)) ?_; (with_reducible refine (chantryref07_Put.calls k1 1 a0_0 a0_1 0 _ _ x5_1 t225 t228 _ ?side1 ?side2 A19.out).mono ?_); (case side1 => repeat (first | exact (Kd.R_reads' HO_5.out).2.2 | (with_reducible refine Kd.C_alloc ?_ _) | (with_reducible refine Kd.C_drewN ?_ _) | (with_reducible refine Kd.C_drew ?_))); (case side2 => exact (Kd.R_reads' HO_5.out).2.1); rintro e w22 ⟨v226, rfl, ho0, hb⟩; refine ⟨_, rfl, ?_⟩; have n0_ := Aside0.mk (Kd.R_below (by (with_reducible repeat (first | apply Kd.R_alloc | apply Kd.R_drewN | apply Kd.R_drew)); exact HO_4.out) hb); have n1_ := Aside0.mk (Kd.R_elder' (by (with_reducible repeat (first | apply Kd.R_alloc | apply Kd.R_drewN | apply Kd.R_drew)); exact HO_5.out) (Kd.R_base ho0) hb); have n2_ := Aside0.mk (Kd.R_lower (Kd.R_new' ho0 (Kd.R_lt (by (with_reducible repeat (first | apply Kd.R_alloc | apply Kd.R_drewN | apply Kd.R_drew)); exact HO_5.out))) (below_size (by repeat (first | (with_reducible first | exact HB.out | apply below_alloc | apply pw_below_drewN | apply below_drew1 | refine below_set ?_ GE212.out) | exact HB.out)))); have n3_ := Aside0.mk (blk_below (g := gb212) (o := .cells #[.int .i64 a0_0, .int .i64 a0_1, .int .i64 a0_2, .int .i64 a0_3, .int .i64 a0_4, .int .i64 a0_5] 25 (0, 0)) (by (with_reducible repeat (first | refine blk_drewN ?_ _ | refine blk_drew ?_ | refine blk_alloc ?_ _)); exact BK212.out) hb); have n4_ := Aside0.mk (below_step (by repeat (first | (with_reducible first | exact HB.out | apply below_alloc | apply pw_below_drewN | apply below_drew1 | refine below_set ?_ GE212.out) | exact HB.out)) hb); clear HO_4; clear HO_5; clear BK212; clear HB; have HO_4 := n0_; have HO_5 := n1_; have HO227 := n2_; have BK212 := n3_; have HB := n4_; clear n0_ n1_ n2_ n3_ n4_; (try clear hb); (try clear hb2); (try clear hk); (try clear hi); (try clear ho0)))
          go_ret2
          exact ⟨_, by first | rfl | (simp [errW_none, errW_some] <;> rfl) | (simp [*, errW_none, errW_some] <;> rfl), by (with_reducible repeat (first | apply Kd.R_alloc | apply Kd.R_drewN | apply Kd.R_drew)); exact Kd.R_mono HO227.out (fun _ hk => trivial), by repeat (first | (with_reducible first | exact HB.out | apply below_alloc | apply pw_below_drewN | apply below_drew1 | refine below_set ?_ GE212.out) | exact HB.out)⟩
  · replace c3 := Bool.eq_false_iff.mpr c3
    subst c3
    have H1 : (some (([] : List Int), 1)) = some (r1, r2) := by rw [if_neg (show ¬ (false = true) by decide)] at H; exact H
    clear H
    have H := H1
    clear H1
    simp only [Option.some.injEq, Prod.mk.injEq] at H
    obtain ⟨rfl, rfl⟩ := H
    go_enter Try.func8, Try.ntmps8
    go_wp2_with (first | ((with_reducible refine gate_dst (N := 1) rfl ?_); refine box_event ?hg (N := 1) ?hd (cs := #[.int .i64 a0_0, .int .i64 a0_1, .int .i64 a0_2, .int .i64 a0_3, .int .i64 a0_4, .int .i64 a0_5]) (t := 25) ?hr ?_; (case hd => rfl); (case hg => rfl); (case hr => first | (go_simp; done) | (go_simp; rfl)); intro gb212 hg w23 hbox hb; have n0_ := Aside0.mk (below_step (by repeat (first | (with_reducible first | exact HB.out | apply below_alloc | apply pw_below_drewN | apply below_drew1) | exact HB.out)) hb); have n1_ := Aside0.mk (hbox); have n2_ := Aside0.mk ((by rw [hg]; exact (below_size (by repeat (first | (with_reducible first | exact HB.out | apply below_alloc | apply pw_below_drewN | apply below_drew1) | exact HB.out))) : w.heap.size ≤ gb212)); have n3_ := Aside0.mk ((by rw [hg]; exact (below_size (by repeat (first | (with_reducible first | exact HB.out | apply below_alloc | apply pw_below_drewN | apply below_drew1) | exact HB.out))) : w.heap.size ≤ gb212)); clear HB; have HB := n0_; have BK212 := n1_; have GW212 := n2_; have GE212 := n3_; clear n0_ n1_ n2_ n3_; clear hb hbox hg; have hcz24_0 : w23.cell? ⟨gb212, 0, none⟩ = some (.int .i64 a0_0) := (blk_cell BK212.out 0).trans rfl; have hcz24_1 : w23.cell? ⟨gb212, 1, none⟩ = some (.int .i64 a0_1) := (blk_cell BK212.out 1).trans rfl; have hcz24_2 : w23.cell? ⟨gb212, 2, none⟩ = some (.int .i64 a0_2) := (blk_cell BK212.out 2).trans rfl; have hcz24_3 : w23.cell? ⟨gb212, 3, none⟩ = some (.int .i64 a0_3) := (blk_cell BK212.out 3).trans rfl; have hcz24_4 : w23.cell? ⟨gb212, 4, none⟩ = some (.int .i64 a0_4) := (blk_cell BK212.out 4).trans rfl; have hcz24_5 : w23.cell? ⟨gb212, 5, none⟩ = some (.int .i64 a0_5) := (blk_cell BK212.out 5).trans rfl; have hfz24_0 := blk_frozen BK212.out 0; have hfz24_1 := blk_frozen BK212.out 1; have hfz24_2 := blk_frozen BK212.out 2; have hfz24_3 := blk_frozen BK212.out 3; have hfz24_4 := blk_frozen BK212.out 4; have hfz24_5 := blk_frozen BK212.out 5) | ((with_reducible refine gate_callee (f := 13) rfl ?_); refine goesL_ (some 10) rfl rfl Try.func13 (by kernel_rfl) rfl #[.agg #[.int .i64 a0_0, .int .i64 a0_1, .int .i64 a0_2, .int .i64 a0_3, .int .i64 a0_4, .int .i64 a0_5]] rfl (by (try simp only [List.map_toArray, List.map_cons, List.map_nil]); first | done | rfl | (simp only [List.length_drop, List.length_take]; rfl)) ?_; (with_reducible refine (chantryref08_Check.calls a0_0 a0_1 a0_2 a0_3 a0_4 a0_5 false _ A2.out).mono ?_); rintro e w25 ⟨rfl, hb⟩; refine ⟨_, rfl, ?_⟩; have n0_ := Aside0.mk (blk_below (g := gb212) (o := .cells #[.int .i64 a0_0, .int .i64 a0_1, .int .i64 a0_2, .int .i64 a0_3, .int .i64 a0_4, .int .i64 a0_5] 25 (0, 0)) (by (with_reducible repeat (first | refine blk_drewN ?_ _ | refine blk_drew ?_ | refine blk_alloc ?_ _)); exact BK212.out) hb); have n1_ := Aside0.mk (below_step (by repeat (first | (with_reducible first | exact HB.out | apply below_alloc | apply pw_below_drewN | apply below_drew1 | refine below_set ?_ GE212.out) | exact HB.out)) hb); clear BK212; clear HB; have BK212 := n0_; have HB := n1_; clear n0_ n1_; (try clear hb); (try clear hb2); (try clear hk); (try clear hi)))
    go_ret2
    exact ⟨_, by first | rfl | (simp [errW_none, errW_some] <;> rfl) | (simp [*, errW_none, errW_some] <;> rfl), by first | exact Kd.R_nil _ _ _ _ _ | exact Kd.N_nil _ _ _ _ _ | exact Kd.V_nil _ _ _ _ _ | exact Kd.Q_nil _ _ _ _ _ | exact Kd.S_nil _ _ _ _ _, by repeat (first | (with_reducible first | exact HB.out | apply below_alloc | apply pw_below_drewN | apply below_drew1 | refine below_set ?_ GE212.out) | exact HB.out)⟩
def chantryref08_zeros.l0 : Nat → List Int → Int → Option (Bool)
  | 0, _, _ => none
  | k + 1, x0, x3 => if x3 < (x0.length : Int) then (if 0 ≤ x3 then (if (rd x0 x3) = 0 then (chantryref08_zeros.l0 k x0 (wrap64 (x3 + 1))) else (some false)) else (none)) else (some true)
def chantryref08_zeros.f (k : Nat) (l0 : List Int) : Option (Bool) := chantryref08_zeros.l0 k l0 0
theorem chantryref08_zeros.mono_l : ∀ k, (∀ y0 y1, LeO (chantryref08_zeros.l0 k y0 y1) (chantryref08_zeros.l0 (k + 1) y0 y1))
  | 0 => fun _ _ r h => by simp [chantryref08_zeros.l0] at h
  | k + 1 => by
    have ih0 := chantryref08_zeros.mono_l k
    · intro y0 y1
      unfold chantryref08_zeros.l0
      repeat' first
      | (with_reducible exact ih0 _ _)
      | (with_reducible exact LeO.refl _)
      | (with_reducible exact LeO.none _)
      | (with_reducible refine LeO.ite ?_ ?_)
      | (with_reducible refine LeO.bind ?_ (fun _ => ?_))
      | exact ih0 _ _
      | exact LeO.none _
      | refine LeO.ite ?_ ?_
      | refine LeO.bind ?_ (fun _ => ?_)
theorem chantryref08_zeros.mono : ∀ a0 k, LeO (chantryref08_zeros.f k a0) (chantryref08_zeros.f (k + 1) a0) := by
  intro a0 k
  have ih0 := chantryref08_zeros.mono_l k
  unfold chantryref08_zeros.f
  repeat' first
      | (with_reducible exact ih0 _ _)
      | (with_reducible exact LeO.refl _)
      | (with_reducible exact LeO.none _)
      | (with_reducible refine LeO.ite ?_ ?_)
      | (with_reducible refine LeO.bind ?_ (fun _ => ?_))
      | exact ih0 _ _
      | exact LeO.none _
      | refine LeO.ite ?_ ?_
      | refine LeO.bind ?_ (fun _ => ?_)
set_option maxHeartbeats 8000000 in
set_option maxRecDepth 100000 in
theorem chantryref08_zeros.calls (k : Nat) (A0 : Option Addr) (c0 : Nat) (l0 : List Int) (r : Bool) (w : World) (hr0 : Kd.C (Kd.int .u8) w A0 l0.length l0) (hc0 : l0.length ≤ c0) (h : chantryref08_zeros.f k l0 = some r) :
    Calls Try.prog 59 #[.slice A0 l0.length c0] w fun e w' => e = .returned (.bool r) ∧ Drawn0 w w' := by
  have HR0 := Aside0.mk hr0
  have HC0 := Aside0.mk hc0
  clear hr0 hc0
  have H : (chantryref08_zeros.l0 k l0 0) = some r := h
  clear h
  have H' := Aside0.mk H
  clear H
  go_enter Try.func59, Try.ntmps59
  go_wp2
  go_loopg [3] k (fun kq v3 w' => ∃ (x3_1 : Int), v3 = .int .i64 x3_1 ∧ Aside0 (chantryref08_zeros.l0 kq l0 x3_1 = some r) ∧ Aside0 (kq ≤ k) ∧ Drawn0 w w')
  case atStart => exact ⟨(0), (by first | rfl | (simp; done) | (simp [*]; done)), H', ⟨Nat.le_refl _⟩, by repeat (first | exact Drawn0.refl _ | apply Drawn0.step)⟩
  case round =>
    clear H'
    obtain ⟨x3_1, rfl, HA, HK1, ⟨m1, rfl⟩⟩ := hrel
    cases gk with
    | zero => exact absurd HA.out (by simp [chantryref08_zeros.l0])
    | succ k1 =>
      have H := HA.out
      clear HA
      simp only [chantryref08_zeros.l0] at H
      by_cases c2 : x3_1 < (l0.length : Int)
      · rw [if_pos c2] at H
        have c2b0 : decide (x3_1 < (l0.length : Int)) = true := decide_eq_true c2
        clear c2
        by_cases c3 : 0 ≤ x3_1
        · rw [if_pos c3] at H
          have c3b0 : decide (0 ≤ x3_1) = true := decide_eq_true c3
          clear c3
          by_cases c4 : (rd l0 x3_1) = 0
          · rw [if_pos c4] at H
            have c4b0 : ((rd l0 x3_1) == 0) = true := beq_iff_eq.mpr c4
            have c4b1 : ((rd l0 x3_1) != 0) = false := bne_eq_false_iff_eq.mpr c4
            clear c4
            have H' := Aside0.mk H
            clear H
            have p326 : 0 ≤ (x3_1 : Int) := of_decide_eq_true (by first | (with_reducible assumption) | assumption)
            have q326 : x3_1 < (l0.length : Int) := of_decide_eq_true (by first | (with_reducible assumption) | assumption)
            obtain ⟨ad326, e326, hx326_0⟩ := Kd.at_int HR0.out x3_1 p326 q326
            cases e326
            replace p326 := eq_true p326
            replace q326 := eq_true q326
            go_wp2
            go_roundg k1
            case measure => have := HK1.out; omega
            case rel => exact ⟨(wrap64 (x3_1 + 1)), (by first | rfl | (simp; done) | (simp [*]; done)), H', ⟨by have := HK1.out; omega⟩, by repeat (first | exact Drawn0.refl _ | apply Drawn0.step)⟩
          · rw [if_neg c4] at H
            have c4b0 : ((rd l0 x3_1) == 0) = false := beq_eq_false_iff_ne.mpr c4
            have c4b1 : ((rd l0 x3_1) != 0) = true := bne_iff_ne.mpr c4
            obtain rfl := Option.some.inj H
            have p326 : 0 ≤ (x3_1 : Int) := of_decide_eq_true (by first | (with_reducible assumption) | assumption)
            have q326 : x3_1 < (l0.length : Int) := of_decide_eq_true (by first | (with_reducible assumption) | assumption)
            obtain ⟨ad326, e326, hx326_0⟩ := Kd.at_int HR0.out x3_1 p326 q326
            cases e326
            replace p326 := eq_true p326
            replace q326 := eq_true q326
            go_wp2
            go_ret
            exact ⟨by first | rfl | (simp; done) | (simp [*]; done), by repeat (first | exact Drawn0.refl _ | apply Drawn0.step)⟩
        · rw [if_neg c3] at H
          exact absurd H (by simp)
      · rw [if_neg c2] at H
        have c2b0 : decide (x3_1 < (l0.length : Int)) = false := decide_eq_false c2
        clear c2
        obtain rfl := Option.some.inj H
        go_wp2
        go_ret
        exact ⟨by first | rfl | (simp; done) | (simp [*]; done), by repeat (first | exact Drawn0.refl _ | apply Drawn0.step)⟩
end Go.Proofs.Ytopfjmeejpamjaa.PSuper
end
section
namespace Go.Proofs.Ytopfjmeejpamjaa
set_option linter.unusedVariables false
set_option linter.unusedSimpArgs false
set_option linter.ambiguousOpen false
open Go.RowKit Go.Proofs.YtopfjmeejpamjaaW.PrintWords Go.Proofs.YtopfjmeejpamjaaW.PrintLast Go.Proofs.YtopfjmeejpamjaaW.PrintMore
namespace Supr
open Go.Num Go.Crc Go.Proofs.Ytopfjmeejpamjaa.Cell Go.Proofs.Ytopfjmeejpamjaa.Sect
theorem xput_step (k : Nat) (g b l p q o n : Int) (xs : List Int) (hx : xs.length ≤ 100) (i : Nat) (hi : i < 4) (hn : rd [l, p, q, o] (i : Int) = n) (hr : 0 ≤ n ∧ n ≤ 2147483647) :
    PSuper.chantryref08_Put.l0 (k + 8) [l, p, q, o] xs (i : Int) g b l p q o = PSuper.chantryref08_Put.l0 (k + 7) [l, p, q, o] (xs ++ leB n 4) ((i + 1 : Nat) : Int) g b l p q o := by
  rw [show k + 8 = (k + 7) + 1 from rfl, PSuper.chantryref08_Put.l0]
  have hf : PSuper.chantryref01_Fix.f (k + 7) n 4 = some (leB n 4, 0) := by
    unfold PSuper.chantryref01_Fix.f
    rw [xfix_plain]
    have := fix_ok n 4 (by decide) (by omega)
    rw [show (4 : Int) = ((4 : Nat) : Int) from rfl, this]
  have hw : wrap64 ((i : Int) + 1) = ((i + 1 : Nat) : Int) := by unfold wrap64; omega
  rw [if_pos (by omega), if_pos (by omega), if_pos (by simp; omega), hn, hf, Option.bind_some, if_pos (by rw [leB_len]; omega), hw]
theorem xput_plainU (g b l p q o : Int) : ∃ K, PSuper.chantryref08_Put.f K g b l p q o = some (putU g b l p q o) := by
  obtain ⟨z, hz⟩ : ∃ z, z = supOk g b l p q o := ⟨_, rfl⟩
  cases z with
  | false =>
    refine ⟨0, ?_⟩
    unfold PSuper.chantryref08_Put.f PSuper.chantryref08_Check.f putU
    rw [← hz]
    rfl
  | true =>
    have hr := supOk_range hz.symm
    obtain ⟨f, hf⟩ := xput_plain 1 g b 0 (dataU l p q o) (dataU_byte l p q o)
    refine ⟨f + 12, ?_⟩
    unfold PSuper.chantryref08_Put.f PSuper.chantryref08_Check.f putU
    rw [← hz, Option.bind_some, if_pos rfl, if_pos rfl]
    have e0 := xput_step (f + 4) g b l p q o l [] (by decide) 0 (by decide) rfl (by omega)
    have e1 := xput_step (f + 3) g b l p q o p ([] ++ leB l 4) (by simp [leB_len]) 1 (by decide) rfl (by omega)
    have e2 := xput_step (f + 2) g b l p q o q (([] ++ leB l 4) ++ leB p 4) (by simp [leB_len]) 2 (by decide) rfl (by omega)
    have e3 := xput_step (f + 1) g b l p q o o ((([] ++ leB l 4) ++ leB p 4) ++ leB q 4) (by simp [leB_len]) 3 (by decide) rfl (by omega)
    have hd : ((([] ++ leB l 4) ++ leB p 4) ++ leB q 4) ++ leB o 4 = dataU l p q o := by unfold dataU; simp
    refine e0.trans (e1.trans (e2.trans (e3.trans ?_)))
    rw [hd, show f + 1 + 7 = (f + 7) + 1 from by omega, PSuper.chantryref08_Put.l0, if_neg (by decide)]
    have hp : PSuper.chantryref07_Put.f (f + 7) 1 g b 0 (dataU l p q o) = some (putS 1 g b 0 (dataU l p q o)) := at_rounds (fun k => PSuper.chantryref07_Put.mono 1 g b 0 (dataU l p q o) k) (by omega) hf
    rw [hp]
    rfl
theorem xsput_R {w : World} (g b l p q o : Int) :
    Calls Try.prog 8 #[.agg #[.int .i64 g, .int .i64 b, .int .i64 l, .int .i64 p, .int .i64 q, .int .i64 o]] w fun r w' => ∃ v, r = .returned (.tuple #[v, .int .i64 (putU g b l p q o).2]) ∧ Kd.R (Kd.int .u8) 5 w' w.heap.size (fun _ => True) v (putU g b l p q o).1 ∧ Below w.heap.size w w' := by
  obtain ⟨K, hK⟩ := xput_plainU g b l p q o
  exact PSuper.chantryref08_Put.calls K g b l p q o _ _ w hK
theorem xsput_any {w : World} (g b l p q o : Int) :
    Calls Try.prog 8 #[.agg #[.int .i64 g, .int .i64 b, .int .i64 l, .int .i64 p, .int .i64 q, .int .i64 o]] w fun r w' => ∃ A c, r = .returned (.tuple #[.slice A (putU g b l p q o).1.length c, .int .i64 (putU g b l p q o).2]) ∧ (putU g b l p q o).1.length ≤ c ∧ (∀ x, Below w'.heap.size w' x → Kd.C (Kd.int .u8) x A (putU g b l p q o).1.length (putU g b l p q o).1) ∧ Below w.heap.size w w' := by
  obtain ⟨K, hK⟩ := xput_plainU g b l p q o
  refine (PSuper.chantryref08_Put.calls K g b l p q o _ _ w hK).mono ?_
  rintro r w1 ⟨v, rfl, hr, b⟩
  obtain ⟨A', c', rfl⟩ := Kd.R_slice hr
  exact ⟨A', c', rfl, (Kd.R_reads' hr).2.1, stable_R hr, b⟩
theorem put_bytes (g b l p q o : Int) : ∀ y ∈ (putU g b l p q o).1, 0 ≤ y ∧ y ≤ 255 := by
  unfold putU
  split
  · exact put_byte (dataU_byte l p q o) rfl
  · intro y hy; cases hy
theorem secU {g b l p q o : Int} (h : supOk g b l p q o = true) : secOk 1 g b 0 (dataU l p q o) = true := by
  have := supOk_range h
  unfold secOk
  rw [decide_eq_true_eq, dataU_len]
  omega
theorem put_yes {g b l p q o : Int} (h : supOk g b l p q o = true) : putU g b l p q o = (sealB (bodyS 1 g b 0 (dataU l p q o)), 0) := by
  unfold putU
  rw [if_pos h, put_body (secU h)]
theorem put_yes_len {g b l p q o : Int} (h : supOk g b l p q o = true) : (putU g b l p q o).1.length = 64 := by
  rw [put_yes h, seal_len, bodyS_len _ _ _ _ _ (by rw [dataU_len]; omega)]
theorem put_no {g b l p q o : Int} (h : supOk g b l p q o = false) : putU g b l p q o = ([], 1) := by
  unfold putU
  rw [h]
  rfl
theorem put_code (g b l p q o : Int) : (putU g b l p q o).2 = (if supOk g b l p q o = true then 0 else 1) := by
  cases h : supOk g b l p q o with
  | true => rw [put_yes h]; rfl
  | false => rw [put_no h]; rfl
end Supr
end Go.Proofs.Ytopfjmeejpamjaa
end
section
namespace Go.Proofs.Ytopfjmeejpamjaa
set_option linter.unusedVariables false
set_option linter.unusedSimpArgs false
set_option linter.ambiguousOpen false
open Go.RowKit Go.Proofs.YtopfjmeejpamjaaW.PrintWords Go.Proofs.YtopfjmeejpamjaaW.PrintLast Go.Proofs.YtopfjmeejpamjaaW.PrintMore
namespace Supr
open Go.Num Go.Crc Go.Proofs.Ytopfjmeejpamjaa.Cell Go.Proofs.Ytopfjmeejpamjaa.Sect
def PQ (w : World) (base cb : Nat) (bs : List Int) (bad : Bool) : Prop := PC w base cb bs bad ∨ (base ≤ cb ∧ bad = false ∧ bs = [] ∧ w.heap[cb]? = some (.cells #[.slice none 0 0, .bool false] 112 (0, 0)))
theorem PQ.below {w w' : World} {base cb : Nat} {bs : List Int} {bad : Bool} (h : PQ w base cb bs bad) (f : Below w.heap.size w w') : PQ w' base cb bs bad := by
  rcases h with h | ⟨h1, h2, h3, h4⟩
  · exact .inl (h.only (b := cb) f)
  · exact .inr ⟨h1, h2, h3, (f.block _ (blk_lt h4)).trans h4⟩
theorem pq_lt {w : World} {base cb : Nat} {bs : List Int} {bad : Bool} (h : PQ w base cb bs bad) : cb < w.heap.size ∧ base ≤ cb := by
  rcases h with h | h
  · exact pc_lt h
  · exact ⟨blk_lt h.2.2.2, h.1⟩
theorem pq_kept {w w' : World} {base cb : Nat} {bs : List Int} {bad : Bool} (h : PQ w base cb bs bad) (hk : ∀ (k : Nat) (cs : Array Value) (t : Nat), (t = 112 ∨ t = 5) → w.heap[k]? = some (.cells cs t (0, 0)) → w'.heap[k]? = some (.cells cs t (0, 0))) : PQ w' base cb bs bad := by
  rcases h with h | ⟨h1, h2, h3, h4⟩
  · left
    unfold PC at *
    cases bad with
    | true => exact ⟨h.1, h.2.1, hk _ _ _ (by decide) h.2.2⟩
    | false =>
      obtain ⟨g, off, c, all, sp, h⟩ := h
      exact ⟨g, off, c, all, sp, h.cbase, hk _ _ _ (by decide) h.cells, hk _ _ _ (by decide) h.row, h.at_, h.room, h.few⟩
  · exact .inr ⟨h1, h2, h3, hk _ _ _ (by decide) h4⟩
theorem nil_row {w : World} {A : Option Addr} {l : List Int} (hC : Kd.C (Kd.int .u8) w A l.length l) : (∃ a, A = some a) ∨ (A = none ∧ l = []) := by
  cases A with
  | some a => exact .inl ⟨a, rfl⟩
  | none =>
    right
    refine ⟨rfl, ?_⟩
    cases l with
    | nil => rfl
    | cons x l =>
      exfalso
      obtain ⟨_, _, h⟩ := hC
      have := h (by simp)
      simp at this
theorem eq_nil0 (c : Nat) (W : World) : (binOp BinOp.eql 26 (.slice none 0 c) (.slice none 0 0)).run Try.prog W = .ok (.bool true) W := by
  kernel_rfl
set_option maxHeartbeats 8000000 in
set_option maxRecDepth 100000 in
theorem clone8_nil {w : World} (c : Nat) : Calls Try.prog 51 #[.slice none 0 c] w fun e w' => e = .returned (.slice none 0 0) ∧ w' = w := by
  have heq := eq_nil0 c
  go_enter Try.func51, Try.ntmps51
  go_wp2_with fail
  go_ret
  exact ⟨rfl, rfl⟩
set_option maxHeartbeats 8000000 in
set_option maxRecDepth 100000 in
theorem from_q {w : World} (A : Option Addr) (c : Nat) (l : List Int) (hC : Kd.C (Kd.int .u8) w A l.length l) (hl : l.length ≤ 200000) :
    Calls Try.prog 32 #[.slice A l.length c] w fun e w' => ∃ cb, e = .returned (.pointer (some ⟨cb, 0, none⟩)) ∧ PQ w' w.heap.size cb l false ∧ Below w.heap.size w w' := by
  rcases nil_row hC with ⟨a, rfl⟩ | ⟨rfl, rfl⟩
  · exact (from_any a c l hC hl).mono (fun e w' ⟨cb, h1, h2, h3⟩ => ⟨cb, h1, .inl h2, h3⟩)
  · clear hC
    rw [show ([] : List Int).length = 0 from rfl]
    go_enter Try.func32, Try.ntmps32
    go_wp2_with fail
    refine (clone8_nil c).mono ?_
    rintro e w1 ⟨rfl, rfl⟩
    go_wp2_with fail
    go_ret
    exact ⟨w1.heap.size, rfl, .inr ⟨Nat.le_refl _, rfl, rfl, heap_alloc_new w1 _⟩, (Below.refl _ _).alloc (Nat.le_refl _) _⟩
set_option maxRecDepth 100000 in
theorem bad_q {w : World} {base cb : Nat} {bs : List Int} {bad : Bool} (h : PQ w base cb bs bad) :
    Calls Try.prog 36 #[.pointer (some ⟨cb, 0, none⟩)] w fun e w' => e = .returned (.bool bad) ∧ w' = w := by
  rcases h with h | ⟨h1, rfl, h3, h4⟩
  · exact bad_any h
  · have c1 : w.cell? ⟨cb, 1, none⟩ = some (.bool false) := cell_blk h4
    clear h4 h3 h1
    go_enter Try.func36, Try.ntmps36
    go_wp2_with fail
    go_ret
    exact ⟨rfl, rfl⟩
set_option maxRecDepth 100000 in
theorem left_q {w : World} {base cb : Nat} {bs : List Int} (h : PQ w base cb bs false) :
    Calls Try.prog 37 #[.pointer (some ⟨cb, 0, none⟩)] w fun e w' => e = .returned (.int .i64 (bs.length : Int)) ∧ w' = w := by
  have HP := Aside0.mk h
  rcases h with h | ⟨h1, h2, rfl, h4⟩
  · exact left_any h
  · have c0 : w.cell? ⟨cb, 0, none⟩ = some (.slice none 0 0) := cell_blk h4
    clear h4 h2 h1
    go_enter Try.func37, Try.ntmps37
    go_wp2_with fail
    refine (bad_q HP.out).mono ?_
    rintro e w1 ⟨rfl, rfl⟩
    go_wp2_with fail
    go_ret
    exact ⟨rfl, rfl⟩
set_option maxHeartbeats 8000000 in
set_option maxRecDepth 100000 in
theorem fail_q {w : World} {base cb : Nat} {bs : List Int} {bad : Bool} (h : PQ w base cb bs bad) :
    Calls Try.prog 75 #[.pointer (some ⟨cb, 0, none⟩)] w fun e w' => (∃ v, e = .returned v) ∧ PQ w' base cb [] true ∧ Only cb w w' := by
  rcases h with h | ⟨h1, h2, rfl, h4⟩
  · exact (fail_any h).mono (fun e w' ⟨h1, h2, h3⟩ => ⟨h1, .inl h2, h3⟩)
  · have c0 : w.cell? ⟨cb, 0, none⟩ = some (.slice none 0 0) := cell_blk h4
    have f0 : w.frozen? ⟨cb, 0, none⟩ = false := frozen_blk h4
    have c1 : w.cell? ⟨cb, 1, none⟩ = some (.bool false) := cell_blk h4
    have f1 : w.frozen? ⟨cb, 1, none⟩ = false := frozen_blk h4
    have HC := Aside0.mk h4
    have HB := Aside0.mk h1
    clear h1 h2 h4
    go_enter Try.func75, Try.ntmps75
    go_wp2_with fail
    go_end0
    refine ⟨⟨_, rfl⟩, .inl ⟨HB.out, rfl, ?_⟩, (Only.set _ _ _ _).trans (Only.set _ _ _ _)⟩
    rw [blk_set (blk_set HC.out 0 _) 1 _]
    rfl
def nextX (bs : List Int) (bad : Bool) : Bool := bad || decide (bs.length < 4)
def nextB (bs : List Int) (bad : Bool) : List Int := if nextX bs bad = true then [] else bs.drop 4
def nextV (bs : List Int) (bad : Bool) : Int := if nextX bs bad = true then -1 else numP (bs.take 4)
set_option maxHeartbeats 8000000 in
set_option maxRecDepth 100000 in
theorem take_q {w : World} {base cb : Nat} {bs : List Int} {bad : Bool} (h : PQ w base cb bs bad) :
    Calls Try.prog 35 #[.pointer (some ⟨cb, 0, none⟩), .int .i64 4] w fun e w' => ∃ v, e = .returned v ∧ Kd.R (Kd.int .u8) 5 w' w.heap.size (fun _ => True) v (if nextX bs bad = true then [] else bs.take 4) ∧ PQ w' base cb (nextB bs bad) (nextX bs bad) ∧ Only cb w w' := by
  unfold nextB
  rcases h with h | ⟨h1, rfl, rfl, h4⟩
  · cases hx : nextX bs bad with
    | true =>
      refine (take_no h 4 (by
        unfold nextX at hx
        unfold takeOk
        cases bad with
        | true => rfl
        | false => simp at hx ⊢; omega)).mono ?_
      rintro e w1 ⟨rfl, hp, ho⟩
      exact ⟨_, rfl, Kd.R_nil _ _ _ _ _, .inl hp, ho⟩
    | false =>
      unfold nextX at hx
      simp at hx
      obtain ⟨rfl, hx⟩ := hx
      refine (take_yes h 4 hx).mono ?_
      rintro e w1 ⟨v, rfl, hr, hp, ho⟩
      exact ⟨v, rfl, hr, .inl hp, ho⟩
  · have HP := Aside0.mk (show PQ w base cb [] false from .inr ⟨h1, rfl, rfl, h4⟩)
    have c0 : w.cell? ⟨cb, 0, none⟩ = some (.slice none 0 0) := cell_blk h4
    clear h1 h4
    go_enter Try.func35, Try.ntmps35
    go_wp2_with fail
    refine (bad_q HP.out).mono ?_
    rintro e w1 ⟨rfl, rfl⟩
    go_wp2_with fail
    refine (fail_q HP.out).mono ?_
    rintro e w2 ⟨⟨v, rfl⟩, p, o⟩
    have HP2 := Aside0.mk p
    have HO2 := Aside0.mk o
    clear p o c0
    go_wp2_with fail
    go_ret
    exact ⟨_, rfl, Kd.R_nil _ _ _ _ _, HP2.out, HO2.out⟩
set_option maxHeartbeats 8000000 in
set_option maxRecDepth 100000 in
theorem next_q {w : World} {base cb vb : Nat} {bs : List Int} {bad : Bool} (h : PQ w base cb bs bad) (hb : ∀ y ∈ bs, 0 ≤ y ∧ y ≤ 255) (hv : w.heap[vb]? = some (.cells #[.pointer (some ⟨cb, 0, none⟩)] 72 (0, 0))) :
    Calls Try.prog 33 #[.pointer (some ⟨vb, 0, none⟩)] w fun e w' => e = .returned (.int .i64 (nextV bs bad)) ∧ PQ w' base cb (nextB bs bad) (nextX bs bad) ∧ Only cb w w' := by
  have HP := Aside0.mk h
  have HBY := Aside0.mk hb
  have c0 : w.cell? ⟨vb, 0, none⟩ = some (.pointer (some ⟨cb, 0, none⟩)) := cell_blk hv
  clear h hb hv
  go_enter Try.func33, Try.ntmps33
  go_wp2_with fail
  refine (take_q HP.out).mono ?_
  rintro e w1 ⟨v, rfl, hr, hp, ho⟩
  obtain ⟨A, c, rfl⟩ := Kd.R_slice hr
  obtain ⟨bs', hbs'⟩ : ∃ z, z = (if nextX bs bad = true then [] else bs.take 4) := ⟨_, rfl⟩
  rw [← hbs'] at hr ⊢
  have HB' := Aside0.mk (show ∀ y ∈ bs', 0 ≤ y ∧ y ≤ 255 by
    rw [hbs']
    split
    · intro y hy; cases hy
    · exact fun y hy => HBY.out y (List.mem_of_mem_take hy))
  have HV := Aside0.mk (show numP bs' = nextV bs bad by
    rw [hbs']
    unfold nextV
    split <;> rfl)
  have HPQ := Aside0.mk hp
  have HO := Aside0.mk ho
  have HC := Aside0.mk (Kd.R_reads' hr)
  clear hr hp ho hbs' c0
  go_wp2_with fail
  refine (unfix_any A c bs' HC.out.2.2 HC.out.2.1 HB'.out).mono ?_
  rintro e w2 ⟨rfl, b2⟩
  have HPQ2 := Aside0.mk (HPQ.out.below b2)
  have HO2 := Aside0.mk (only_trans' HO.out (b2.mono HO.out.size))
  clear b2
  obtain ⟨q, hq⟩ : ∃ q, q = (unfixP bs').2 := ⟨_, rfl⟩
  obtain ⟨n, hn⟩ : ∃ n, n = (unfixP bs').1 := ⟨_, rfl⟩
  rw [← hq, ← hn]
  have HE := Aside0.mk (show nextV bs bad = if q ≠ 0 then -1 else n by rw [← HV.out, hq, hn]; rfl)
  clear hq hn
  by_cases h0 : q = 0
  · subst h0
    go_wp2_with fail
    go_ret
    exact ⟨by rw [HE.out]; rfl, HPQ2.out, HO2.out⟩
  · go_wp2_with fail
    go_ret
    exact ⟨by rw [HE.out, if_pos h0]; rfl, HPQ2.out, HO2.out⟩
end Supr
end Go.Proofs.Ytopfjmeejpamjaa
end
section
namespace Go.Proofs.Ytopfjmeejpamjaa
set_option linter.unusedVariables false
set_option linter.unusedSimpArgs false
set_option linter.ambiguousOpen false
open Go.RowKit Go.Proofs.YtopfjmeejpamjaaW.PrintWords Go.Proofs.YtopfjmeejpamjaaW.PrintLast Go.Proofs.YtopfjmeejpamjaaW.PrintMore
namespace Supr
open Go.Num Go.Crc Go.Proofs.Ytopfjmeejpamjaa.Cell Go.Proofs.Ytopfjmeejpamjaa.Sect
structure SU where
  g : Int
  b : Int
  l : Int
  p : Int
  q : Int
  o : Int
deriving DecidableEq
def zeroU : SU := ⟨0, 0, 0, 0, 0, 0⟩
abbrev SU.v (s : SU) : Value := .agg #[.int .i64 s.g, .int .i64 s.b, .int .i64 s.l, .int .i64 s.p, .int .i64 s.q, .int .i64 s.o]
abbrev SU.ok (s : SU) : Bool := supOk s.g s.b s.l s.p s.q s.o
abbrev SU.put (s : SU) : List Int × Int := putU s.g s.b s.l s.p s.q s.o
def ofSec (x : Sec) : SU := ⟨x.e, x.n, numP (x.d.take 4), numP ((x.d.drop 4).take 4), numP ((x.d.drop 8).take 4), numP ((x.d.drop 12).take 4)⟩
def getU (l : List Int) : SU × Int := if (getS l).2 ≠ 0 then (zeroU, (getS l).2) else if (getS l).1.d.length = 16 ∧ (getS l).1.k = 1 ∧ (getS l).1.l = 0 ∧ (ofSec (getS l).1).ok = true then (ofSec (getS l).1, 0) else (zeroU, 5)
theorem six_set {w : World} {b t : Nat} {a0 a1 a2 a3 a4 a5 : Value} (h : w.heap[b]? = some (.cells #[a0, a1, a2, a3, a4, a5] t (0, 0))) (v0 v1 v2 v3 v4 v5 : Value) : ((((((w.setCell ⟨b, 0, none⟩ v0).setCell ⟨b, 1, none⟩ v1).setCell ⟨b, 2, none⟩ v2).setCell ⟨b, 3, none⟩ v3).setCell ⟨b, 4, none⟩ v4).setCell ⟨b, 5, none⟩ v5).heap[b]? = some (.cells #[v0, v1, v2, v3, v4, v5] t (0, 0)) := by
  have := blk_set (blk_set (blk_set (blk_set (blk_set (blk_set h 0 v0) 1 v1) 2 v2) 3 v3) 4 v4) 5 v5
  rw [this]
  rfl
theorem six_below {w0 w : World} {base b : Nat} (h : Below base w0 w) (hb : base ≤ b) (v0 v1 v2 v3 v4 v5 : Value) : Below base w0 ((((((w.setCell ⟨b, 0, none⟩ v0).setCell ⟨b, 1, none⟩ v1).setCell ⟨b, 2, none⟩ v2).setCell ⟨b, 3, none⟩ v3).setCell ⟨b, 4, none⟩ v4).setCell ⟨b, 5, none⟩ v5) :=
  (((((h.setCell hb v0).setCell hb v1).setCell hb v2).setCell hb v3).setCell hb v4).setCell hb v5
theorem six_but {w : World} {b : Nat} (v0 v1 v2 v3 v4 v5 : Value) : ∀ k, k ≠ b → ((((((w.setCell ⟨b, 0, none⟩ v0).setCell ⟨b, 1, none⟩ v1).setCell ⟨b, 2, none⟩ v2).setCell ⟨b, 3, none⟩ v3).setCell ⟨b, 4, none⟩ v4).setCell ⟨b, 5, none⟩ v5).heap[k]? = w.heap[k]? := fun k hk => by
  rw [Below.heap_setCell _ _ _ _ hk, Below.heap_setCell _ _ _ _ hk, Below.heap_setCell _ _ _ _ hk, Below.heap_setCell _ _ _ _ hk, Below.heap_setCell _ _ _ _ hk, Below.heap_setCell _ _ _ _ hk]
theorem cells6 {x : World} {b t : Nat} {v0 v1 v2 v3 v4 v5 : Value} (h : x.heap[b]? = some (.cells #[v0, v1, v2, v3, v4, v5] t (0, 0))) : (x.cell? ⟨b, 0, none⟩ = some v0 ∧ x.cell? ⟨b, 1, none⟩ = some v1 ∧ x.cell? ⟨b, 2, none⟩ = some v2 ∧ x.cell? ⟨b, 3, none⟩ = some v3 ∧ x.cell? ⟨b, 4, none⟩ = some v4 ∧ x.cell? ⟨b, 5, none⟩ = some v5) ∧ (x.frozen? ⟨b, 0, none⟩ = false ∧ x.frozen? ⟨b, 1, none⟩ = false ∧ x.frozen? ⟨b, 2, none⟩ = false ∧ x.frozen? ⟨b, 3, none⟩ = false ∧ x.frozen? ⟨b, 4, none⟩ = false ∧ x.frozen? ⟨b, 5, none⟩ = false) := ⟨⟨cell_blk h, cell_blk h, cell_blk h, cell_blk h, cell_blk h, cell_blk h⟩, frozen_blk h, frozen_blk h, frozen_blk h, frozen_blk h, frozen_blk h, frozen_blk h⟩
abbrev sixU (a b c d e f : Int) : Array Value := #[.int .i64 a, .int .i64 b, .int .i64 c, .int .i64 d, .int .i64 e, .int .i64 f]
structure GU (w0 w : World) (sx vb cb : Nat) (x : Sec) (A : Option Addr) (c : Nat) (bs : List Int) (bad : Bool) : Prop where
  below : Below w0.heap.size w0 w
  zero : w.heap[w0.heap.size]? = some (.cells (sixU 0 0 0 0 0 0) 25 (0, 0))
  sec : w.heap[sx]? = some (.cells #[.int .i64 x.k, .int .i64 x.e, .int .i64 x.n, .int .i64 x.l, .slice A x.d.length c] 69 (0, 0))
  var : w.heap[vb]? = some (.cells #[.pointer (some ⟨cb, 0, none⟩)] 72 (0, 0))
  cur : PQ w w0.heap.size cb bs bad
theorem pq_cells {w : World} {base cb : Nat} {bs : List Int} {bad : Bool} (h : PQ w base cb bs bad) : ∃ cs, w.heap[cb]? = some (.cells cs 112 (0, 0)) := by
  rcases h with h | h
  · unfold PC at h
    cases bad with
    | true => exact ⟨_, h.2.2⟩
    | false => obtain ⟨_, _, _, _, _, h⟩ := h; exact ⟨_, h.cells⟩
  · exact ⟨_, h.2.2.2⟩
theorem tag_ne {w : World} {a b s t : Nat} {cs ds : Array Value} (h : w.heap[a]? = some (.cells cs s (0, 0))) (k : w.heap[b]? = some (.cells ds t (0, 0))) (hn : s ≠ t) : a ≠ b := fun e => by
  subst e
  rw [h] at k
  cases k
  exact hn rfl
theorem pq_base {w : World} {base base' cb : Nat} {bs : List Int} {bad : Bool} (h : PQ w base cb bs bad) (hb : base' ≤ base) : PQ w base' cb bs bad := by
  rcases h with h | ⟨h1, h2⟩
  · left
    unfold PC at *
    cases bad with
    | true => exact ⟨Nat.le_trans hb h.1, h.2⟩
    | false => obtain ⟨g, off, c, all, sp, h⟩ := h; exact ⟨g, off, c, all, sp, Nat.le_trans hb h.cbase, h.cells, h.row, h.at_, h.room, h.few⟩
  · exact .inr ⟨Nat.le_trans hb h1, h2⟩
theorem GU.step {w0 w w' : World} {sx vb cb : Nat} {x : Sec} {A : Option Addr} {c : Nat} {bs : List Int} {bad : Bool} (h : GU w0 w sx vb cb x A c bs bad) (f : Below w.heap.size w w') : GU w0 w' sx vb cb x A c bs bad :=
  ⟨h.below.trans (f.mono h.below.size), (f.block _ (blk_lt h.zero)).trans h.zero, (f.block _ (blk_lt h.sec)).trans h.sec, (f.block _ (blk_lt h.var)).trans h.var, h.cur.below f⟩
theorem GU.only {w0 w w' : World} {sx vb cb : Nat} {x : Sec} {A : Option Addr} {c : Nat} {bs bs' : List Int} {bad bad' : Bool} (h : GU w0 w sx vb cb x A c bs bad) (f : Only cb w w') (p : PQ w' w0.heap.size cb bs' bad') : GU w0 w' sx vb cb x A c bs' bad' := by
  obtain ⟨cs, hc⟩ := pq_cells h.cur
  exact ⟨h.below.trans (f.below (pq_lt h.cur).2 h.below.size), (f.block _ (blk_lt h.zero) (tag_ne h.zero hc (by decide))).trans h.zero, (f.block _ (blk_lt h.sec) (tag_ne h.sec hc (by decide))).trans h.sec, (f.block _ (blk_lt h.var) (tag_ne h.var hc (by decide))).trans h.var, p⟩
theorem GU.other {w0 w w' : World} {sx vb cb ub : Nat} {x : Sec} {A : Option Addr} {c : Nat} {bs : List Int} {bad : Bool} {cs : Array Value} (h : GU w0 w sx vb cb x A c bs bad) (hu : w.heap[ub]? = some (.cells cs 25 (0, 0))) (hub : w0.heap.size < ub) (f : ∀ k, k ≠ ub → w'.heap[k]? = w.heap[k]?) (hb : Below w0.heap.size w0 w') : GU w0 w' sx vb cb x A c bs bad := by
  obtain ⟨cs', hc⟩ := pq_cells h.cur
  exact ⟨hb, (f _ (by omega)).trans h.zero, (f _ (tag_ne h.sec hu (by decide))).trans h.sec, (f _ (tag_ne h.var hu (by decide))).trans h.var, pq_kept h.cur (fun k cs t ht hk => (f k (tag_ne hk hu (by rcases ht with rfl | rfl <;> decide))).trans hk)⟩
theorem get_dlen (l : List Int) : (getS l).1.d.length ≤ 200000 := by
  unfold getS
  split
  · exact Nat.zero_le _
  · split
    · exact Nat.zero_le _
    · split
      · rename_i h
        unfold okS at h
        rw [Bool.and_eq_true, decide_eq_true_eq] at h
        show ((rawS (openP l).1).d).length ≤ 200000
        unfold rawS
        show (List.take _ _).length ≤ 200000
        rw [List.length_take]
        omega
      · exact Nat.zero_le _
theorem nextB_byte {bs : List Int} (h : ∀ y ∈ bs, 0 ≤ y ∧ y ≤ 255) (bad : Bool) : ∀ y ∈ nextB bs bad, 0 ≤ y ∧ y ≤ 255 := by
  unfold nextB
  split
  · intro y hy; cases hy
  · exact fun y hy => h y (List.mem_of_mem_drop hy)
theorem next_yes {bs : List Int} (h : 4 ≤ bs.length) : nextX bs false = false ∧ nextB bs false = bs.drop 4 ∧ nextV bs false = numP (bs.take 4) := by
  have hx : nextX bs false = false := by unfold nextX; simp; omega
  unfold nextB nextV
  rw [hx]
  exact ⟨rfl, rfl, rfl⟩
theorem next_few {bs : List Int} (h : bs.length < 4) : nextX bs false = true ∧ nextB bs false = [] := by
  have hx : nextX bs false = true := by unfold nextX; simp; omega
  unfold nextB
  rw [hx]
  exact ⟨rfl, rfl⟩
theorem next_four (d : List Int) (v0 v1 v2 v3 : Int) (bs4 : List Int) (bad4 : Bool) (h0 : v0 = nextV d false) (h1 : v1 = nextV (nextB d false) (nextX d false))
    (h2 : v2 = nextV (nextB (nextB d false) (nextX d false)) (nextX (nextB d false) (nextX d false)))
    (h3 : v3 = nextV (nextB (nextB (nextB d false) (nextX d false)) (nextX (nextB d false) (nextX d false))) (nextX (nextB (nextB d false) (nextX d false)) (nextX (nextB d false) (nextX d false))))
    (h4 : bs4 = nextB (nextB (nextB (nextB d false) (nextX d false)) (nextX (nextB d false) (nextX d false))) (nextX (nextB (nextB d false) (nextX d false)) (nextX (nextB d false) (nextX d false))))
    (h5 : bad4 = nextX (nextB (nextB (nextB d false) (nextX d false)) (nextX (nextB d false) (nextX d false))) (nextX (nextB (nextB d false) (nextX d false)) (nextX (nextB d false) (nextX d false)))) :
    (d.length < 16 ∧ bad4 = true) ∨ (16 ≤ d.length ∧ bad4 = false ∧ bs4.length = d.length - 16 ∧ v0 = numP (d.take 4) ∧ v1 = numP ((d.drop 4).take 4) ∧ v2 = numP ((d.drop 8).take 4) ∧ v3 = numP ((d.drop 12).take 4)) := by
  by_cases c0 : 4 ≤ d.length
  · obtain ⟨a0, b0, d0⟩ := next_yes c0
    rw [a0, b0] at h1 h2 h3 h4 h5
    by_cases c1 : 4 ≤ (d.drop 4).length
    · obtain ⟨a1, b1, d1⟩ := next_yes c1
      rw [a1, b1] at h2 h3 h4 h5
      by_cases c2 : 4 ≤ ((d.drop 4).drop 4).length
      · obtain ⟨a2, b2, d2⟩ := next_yes c2
        rw [a2, b2] at h3 h4 h5
        by_cases c3 : 4 ≤ (((d.drop 4).drop 4).drop 4).length
        · obtain ⟨a3, b3, d3⟩ := next_yes c3
          rw [a3] at h5
          rw [b3] at h4
          have hl : 16 ≤ d.length := by simp only [List.length_drop] at c3; omega
          refine .inr ⟨hl, h5, by rw [h4]; simp only [List.length_drop]; omega, h0.trans d0, h1.trans d1, ?_, ?_⟩
          · rw [h2, d2, List.drop_drop]
          · rw [h3, d3, List.drop_drop, List.drop_drop]
        · obtain ⟨a3, b3⟩ := next_few (bs := ((d.drop 4).drop 4).drop 4) (by omega)
          rw [a3] at h5
          exact .inl ⟨by simp only [List.length_drop] at c3; omega, h5⟩
      · obtain ⟨a2, b2⟩ := next_few (bs := (d.drop 4).drop 4) (by omega)
        rw [a2] at h5
        exact .inl ⟨by simp only [List.length_drop] at c2; omega, h5⟩
    · obtain ⟨a1, b1⟩ := next_few (bs := d.drop 4) (by omega)
      rw [a1] at h5
      exact .inl ⟨by simp only [List.length_drop] at c1; omega, h5⟩
  · obtain ⟨a0, b0⟩ := next_few (bs := d) (by omega)
    rw [a0] at h5
    exact .inl ⟨by omega, h5⟩
set_option maxHeartbeats 16000000 in
set_option maxRecDepth 100000 in
theorem sget_any {w : World} (A : Option Addr) (c : Nat) (l : List Int) (hC : Kd.C (Kd.int .u8) w A l.length l) (hb : ∀ y ∈ l, 0 ≤ y ∧ y ≤ 255) (hc : l.length ≤ c) (hl : l.length ≤ 200000) :
    Calls Try.prog 9 #[.slice A l.length c] w fun r w' => r = .returned (.tuple #[(getU l).1.v, .int .i64 (getU l).2]) ∧ Below w.heap.size w w' := by
  have HC := Aside0.mk hC
  have HBY := Aside0.mk hb
  have HXB := Aside0.mk (get_byte l hb)
  have HXL := Aside0.mk (show (getS l).1.d.length ≤ 200000 from get_dlen l)
  clear hC hb
  obtain ⟨R, hR⟩ : ∃ R, R = getU l := ⟨_, rfl⟩
  rw [← hR]
  have HR := Aside0.mk hR
  obtain ⟨x, hx⟩ : ∃ x, x = (getS l).1 := ⟨_, rfl⟩
  obtain ⟨e, he⟩ : ∃ e, e = (getS l).2 := ⟨_, rfl⟩
  have HE := Aside0.mk (show R = if e ≠ 0 then (zeroU, e) else if x.d.length = 16 ∧ x.k = 1 ∧ x.l = 0 ∧ (ofSec x).ok = true then (ofSec x, 0) else (zeroU, 5) by rw [hR, he, hx]; rfl)
  rw [← hx] at HXB HXL
  clear hR HR
  obtain ⟨W, hW⟩ : ∃ W, W = w.alloc (.cells (sixU 0 0 0 0 0 0) 25) := ⟨_, rfl⟩
  have HB0 := Aside0.mk (show Below w.heap.size w W by rw [hW]; exact (Below.refl _ _).alloc (Nat.le_refl _) _)
  have HZ0 := Aside0.mk (show W.heap[w.heap.size]? = some (.cells (sixU 0 0 0 0 0 0) 25 (0, 0)) by rw [hW]; exact heap_alloc_new w _)
  have hg := get_any (w := W) A c l (Kd.C_below HC.out HB0.out) HBY.out hc hl
  rw [← hx, ← he] at hg
  have HG := Aside0.mk hg
  have HWE := Aside0.mk hW
  clear hx he hg hW hl hc
  go_enter Try.func9, Try.ntmps9
  go_wp2_with fail
  rw [← HWE.out]
  refine HG.out.mono ?_
  rintro r w1 ⟨A1, c1, rfl, h1, hC1, b1⟩
  have HC1 := Aside0.mk hC1
  have HZ1 := Aside0.mk ((b1.block _ (blk_lt HZ0.out)).trans HZ0.out)
  have HB1 := Aside0.mk (HB0.out.trans (b1.mono HB0.out.size))
  have H1 := Aside0.mk h1
  clear b1 hC1 h1 HG HWE HZ0 HB0
  by_cases h0 : e = 0
  · subst h0
    have HE1 := Aside0.mk (show R = if x.d.length = 16 ∧ x.k = 1 ∧ x.l = 0 ∧ (ofSec x).ok = true then (ofSec x, 0) else (zeroU, 5) from HE.out)
    clear HE
    go_wp2_with fail
    obtain ⟨w1', hw1'⟩ : ∃ z, z = w1.alloc (.cells #[.int .i64 x.k, .int .i64 x.e, .int .i64 x.n, .int .i64 x.l, .slice A1 x.d.length c1] 69) := ⟨_, rfl⟩
    have b1' : Below w1.heap.size w1 w1' := by rw [hw1']; exact (Below.refl _ _).alloc (Nat.le_refl _) _
    have hs1' : w1'.heap[w1.heap.size]? = some (.cells #[.int .i64 x.k, .int .i64 x.e, .int .i64 x.n, .int .i64 x.l, .slice A1 x.d.length c1] 69 (0, 0)) := by rw [hw1']; exact heap_alloc_new w1 _
    rw [← hw1']
    refine (from_q A1 c1 x.d (HC1.out _ b1') HXL.out).mono ?_
    rintro r w2 ⟨cb, rfl, hp, b2⟩
    obtain ⟨sx, hsx⟩ : ∃ sx, sx = w1.heap.size := ⟨_, rfl⟩
    rw [← hsx] at hs1' ⊢
    have b12 : Below w1.heap.size w1 w2 := b1'.trans (b2.mono b1'.size)
    have HB2 := Aside0.mk (HB1.out.trans (b12.mono HB1.out.size))
    have HZ2 := Aside0.mk ((b12.block _ (blk_lt HZ1.out)).trans HZ1.out)
    have HS2 := Aside0.mk ((b2.block _ (blk_lt hs1')).trans hs1')
    have HP2 := Aside0.mk (pq_base (base' := w.heap.size) hp (Nat.le_trans HB1.out.size b1'.size))
    clear hw1' hs1' b1' b12 b2 hp hsx HB1 HZ1
    have HG3 := Aside0.mk (show GU w (w2.alloc (.cells #[.pointer (some ⟨cb, 0, none⟩)] 72)) sx w2.heap.size cb x A1 c1 x.d false from ⟨HB2.out.alloc HB2.out.size _, (Below.heap_alloc _ _ _ (blk_lt HZ2.out)).trans HZ2.out, (Below.heap_alloc _ _ _ (blk_lt HS2.out)).trans HS2.out, heap_alloc_new w2 _, HP2.out.below ((Below.refl _ _).alloc (Nat.le_refl _) _)⟩)
    obtain ⟨vb, hvb⟩ : ∃ vb, vb = w2.heap.size := ⟨_, rfl⟩
    have HVB := Aside0.mk hvb
    rw [← hvb] at HG3
    clear hvb HP2 HS2 HZ2 HB2
    go_upto_region 6 with (fail)
    rw [← HVB.out]
    obtain ⟨w3, hw3⟩ : ∃ w3, w3 = w2.alloc (.cells #[.pointer (some ⟨cb, 0, none⟩)] 72) := ⟨_, rfl⟩
    rw [← hw3] at HG3 ⊢
    clear hw3 HVB
    have HSC := Aside0.mk (show sx ≠ cb by obtain ⟨cs, hc⟩ := pq_cells HG3.out.cur; exact tag_ne HG3.out.sec hc (by decide))
    go_cut [8] from 22 to 28 (fun v8 wc => ∃ (ub : Nat), v8 = .pointer (some ⟨ub, 0, none⟩) ∧ Aside0 (GU w wc sx vb cb x A1 c1 (nextB x.d false) (nextX x.d false)) ∧ Aside0 (wc.heap[ub]? = some (.cells (sixU x.e x.n (nextV x.d false) 0 0 0) 25 (0, 0))) ∧ Aside0 (w.heap.size < ub))
    case first =>
      refine Go.Reg.region_fork (Only cb w3) [.s, .s, .s, .s, .s, .w, .p, .w, .x] [0, 1, 2, 3, 4] 5 7 [6, 7, 8] [5, 6, 8] (by kernel_rfl) (by kernel_rfl) (.of_below (below_drew1 (Below.refl _ _))) (fun ne => ?_)
      have hm1 : ∀ m : Go.Reg.In (Only cb w3), m.w.cell? ⟨sx, 1, none⟩ = some (.int .i64 x.e) := fun m => cell_blk ((m.h.block sx (blk_lt HG3.out.sec) HSC.out).trans HG3.out.sec)
      have hm2 : ∀ m : Go.Reg.In (Only cb w3), m.w.cell? ⟨sx, 2, none⟩ = some (.int .i64 x.n) := fun m => cell_blk ((m.h.block sx (blk_lt HG3.out.sec) HSC.out).trans HG3.out.sec)
      dsimp only [Go.Reg.pick, List.filterMap, List.map, List.getD_eq_getElem?_getD]
      simp only [List.getElem?_toArray, List.getElem?_cons_zero, List.getElem?_cons_succ, List.filterMap_cons, List.filterMap_nil, Option.getD_some]
      refine Go.Reg.lex_q 5 _ _ _ _ (by rfl) ?_; simp only [List.take_succ_cons, List.take_zero, List.drop_succ_cons, List.drop_zero]; (repeat (go_big_quiet_step (rfl))); refine wpQuiet_nil ?_
      refine Go.Reg.lex_nil ?_
      clear hm1 hm2
      have HOD := Aside0.mk (Only.of_below (b := cb) (below_drew1 (Below.refl w3.heap.size w3)))
      have HGD := Aside0.mk (HG3.out.step (below_drew1 (Below.refl w3.heap.size w3)))
      have HUZ := Aside0.mk (show w.heap.size < w3.heap.size from blk_lt HG3.out.zero)
      refine ⟨?_, ?_, fun o ho => ?_⟩
      · refine Go.Reg.step_w (fun KK hKK => ?_)
        go_wp2_with fail
        refine (next_q HGD.out.cur HXB.out HGD.out.var).mono ?_
        rintro z w5 ⟨rfl, hp, ho⟩
        have HO5 := Aside0.mk (HOD.out.trans ho)
        have HG5 := Aside0.mk (HGD.out.only ho hp)
        clear hp ho
        go_wp2_with fail
        refine hKK.out _ _ HO5.out ?_
        clear hKK KK
        refine Go.Reg.lex_qp 1 _ _ _ _ _ (by rfl) ?_; simp only [List.take_succ_cons, List.take_zero, List.drop_succ_cons, List.drop_zero]; (repeat (go_big_quiet_step (rfl))); refine wpQuiet_nil ?_
        refine Go.Reg.step_w (fun KK hKK => ?_)
        go_wp2_with fail
        obtain ⟨w6, hw6⟩ : ∃ w6, w6 = w5.alloc (.cells (sixU 0 0 0 0 0 0) 25) := ⟨_, rfl⟩
        have hal : Below w5.heap.size w5 w6 := by rw [hw6]; exact (Below.refl _ _).alloc (Nat.le_refl _) _
        have hnb : w6.heap[w5.heap.size]? = some (.cells (sixU 0 0 0 0 0 0) 25 (0, 0)) := by rw [hw6]; exact heap_alloc_new w5 _
        rw [← hw6]
        have HO6 := Aside0.mk (HO5.out.trans (.of_below hal))
        have HG6 := Aside0.mk (HG5.out.step hal)
        have hub : w.heap.size < w5.heap.size := by have := HO5.out.size; have := HUZ.out; omega
        obtain ⟨ub, hub'⟩ : ∃ ub, ub = w5.heap.size := ⟨_, rfl⟩
        rw [← hub'] at hnb hub ⊢
        have HNB := Aside0.mk hnb
        have HUB := Aside0.mk hub
        clear hw6 hal hnb hub hub'
        refine hKK.out _ _ HO6.out ?_
        clear hKK KK
        obtain ⟨⟨e0, e1, e2, e3, e4, e5⟩, g0, g1, g2, g3, g4, g5⟩ := cells6 HNB.out
        refine Go.Reg.step_x (by rfl) (fun KK hKK => ?_)
        go_wp2_with fail
        refine hKK.out _ _ ?_
        clear hKK KK
        try simp only [Act.put, List.setIfInBounds_toArray, List.set_cons_succ, List.set_cons_zero]
        refine Go.Reg.lex_nil ?_
        clear e0 e1 e2 e3 e4 e5 g0 g1 g2 g3 g4 g5
        go_wp2_with fail
        go_meet
        case rel =>
          exact ⟨ub, rfl, ⟨HG6.out.other HNB.out HUB.out (six_but _ _ _ _ _ _) (six_below HG6.out.below (Nat.le_of_lt HUB.out) _ _ _ _ _ _)⟩, ⟨six_set HNB.out _ _ _ _ _ _⟩, HUB⟩
      · refine Go.Reg.step_w (fun KK hKK => ?_)
        go_wp2_with fail
        obtain ⟨w5, hw5⟩ : ∃ w5, w5 = (w3.alloc (.cells (sixU 0 0 0 0 0 0) 25)).drew := ⟨_, rfl⟩
        have hal : Below w3.drew.heap.size w3.drew w5 := by rw [hw5]; exact (Below.refl w3.drew.heap.size w3.drew).alloc (Nat.le_refl _) (.cells (sixU 0 0 0 0 0 0) 25)
        have hnb : w5.heap[w3.heap.size]? = some (.cells (sixU 0 0 0 0 0 0) 25 (0, 0)) := by rw [hw5]; exact heap_alloc_new w3.drew (.cells (sixU 0 0 0 0 0 0) 25)
        rw [← hw5]
        have HO5 := Aside0.mk (HOD.out.trans (.of_below hal))
        have HGE := Aside0.mk (HGD.out.step hal)
        have hub : w.heap.size < w3.heap.size := HUZ.out
        obtain ⟨ub, hub'⟩ : ∃ ub, ub = w3.heap.size := ⟨_, rfl⟩
        rw [← hub'] at hnb hub ⊢
        have HNB5 := Aside0.mk hnb
        have HUB := Aside0.mk hub
        clear hw5 hal hnb hub hub'
        refine hKK.out _ _ HO5.out ?_
        clear hKK KK
        refine Go.Reg.step_w (fun KK hKK => ?_)
        go_wp2_with fail
        refine (next_q HGE.out.cur HXB.out HGE.out.var).mono ?_
        rintro z w6 ⟨rfl, hp, ho⟩
        have HO6 := Aside0.mk (HO5.out.trans ho)
        have HG6 := Aside0.mk (HGE.out.only ho hp)
        have HNB := Aside0.mk ((ho.block ub (blk_lt HNB5.out) (by obtain ⟨cs, hc⟩ := pq_cells HGE.out.cur; exact tag_ne HNB5.out hc (by decide))).trans HNB5.out)
        clear hp ho
        go_wp2_with fail
        refine hKK.out _ _ HO6.out ?_
        clear hKK KK
        refine Go.Reg.lex_qp 1 _ _ _ _ _ (by rfl) ?_; simp only [List.take_succ_cons, List.take_zero, List.drop_succ_cons, List.drop_zero]; (repeat (go_big_quiet_step (rfl))); refine wpQuiet_nil ?_
        obtain ⟨⟨e0, e1, e2, e3, e4, e5⟩, g0, g1, g2, g3, g4, g5⟩ := cells6 HNB.out
        refine Go.Reg.step_x (by rfl) (fun KK hKK => ?_)
        go_wp2_with fail
        refine hKK.out _ _ ?_
        clear hKK KK
        try simp only [Act.put, List.setIfInBounds_toArray, List.set_cons_succ, List.set_cons_zero]
        refine Go.Reg.lex_nil ?_
        clear e0 e1 e2 e3 e4 e5 g0 g1 g2 g3 g4 g5
        go_wp2_with fail
        go_meet
        case rel =>
          exact ⟨ub, rfl, ⟨HG6.out.other HNB.out HUB.out (six_but _ _ _ _ _ _) (six_below HG6.out.below (Nat.le_of_lt HUB.out) _ _ _ _ _ _)⟩, ⟨six_set HNB.out _ _ _ _ _ _⟩, HUB⟩
      · rcases ho with ho | ho <;> (cases ho; rfl)
    case rest =>
      clear HG3 HSC
      obtain ⟨ub, rfl, HG, HU, HUB⟩ := hcut
      have hy1 := nextB_byte HXB.out false
      have hy2 := nextB_byte hy1 (nextX x.d false)
      have hy3 := nextB_byte hy2 (nextX (nextB x.d false) (nextX x.d false))
      have HY1 := Aside0.mk hy1
      have HY2 := Aside0.mk hy2
      have HY3 := Aside0.mk hy3
      clear hy1 hy2 hy3
      go_wp2_with fail
      refine (next_q HG.out.cur HY1.out HG.out.var).mono ?_
      rintro z w4 ⟨rfl, hp4, ho4⟩
      have HG4 := Aside0.mk (HG.out.only ho4 hp4)
      have HU4 := Aside0.mk ((ho4.block ub (blk_lt HU.out) (by obtain ⟨cs, hc⟩ := pq_cells HG.out.cur; exact tag_ne HU.out hc (by decide))).trans HU.out)
      clear hp4 ho4 HG HU
      go_wp2_with fail
      refine (next_q HG4.out.cur HY2.out HG4.out.var).mono ?_
      rintro z w5 ⟨rfl, hp5, ho5⟩
      have HG5 := Aside0.mk (HG4.out.only ho5 hp5)
      have HU5 := Aside0.mk ((ho5.block ub (blk_lt HU4.out) (by obtain ⟨cs, hc⟩ := pq_cells HG4.out.cur; exact tag_ne HU4.out hc (by decide))).trans HU4.out)
      clear hp5 ho5 HG4 HU4
      go_wp2_with fail
      refine (next_q HG5.out.cur HY3.out HG5.out.var).mono ?_
      rintro z w6 ⟨rfl, hp6, ho6⟩
      have HG6 := Aside0.mk (HG5.out.only ho6 hp6)
      have HU6 := Aside0.mk ((ho6.block ub (blk_lt HU5.out) (by obtain ⟨cs, hc⟩ := pq_cells HG5.out.cur; exact tag_ne HU5.out hc (by decide))).trans HU5.out)
      clear hp6 ho6 HG5 HU5
      obtain ⟨bs4, hbs4⟩ : ∃ z, z = nextB (nextB (nextB (nextB x.d false) (nextX x.d false)) (nextX (nextB x.d false) (nextX x.d false))) (nextX (nextB (nextB x.d false) (nextX x.d false)) (nextX (nextB x.d false) (nextX x.d false))) := ⟨_, rfl⟩
      obtain ⟨bad4, hbad4⟩ : ∃ z, z = nextX (nextB (nextB (nextB x.d false) (nextX x.d false)) (nextX (nextB x.d false) (nextX x.d false))) (nextX (nextB (nextB x.d false) (nextX x.d false)) (nextX (nextB x.d false) (nextX x.d false))) := ⟨_, rfl⟩
      rw [← hbs4, ← hbad4] at HG6
      obtain ⟨v0, hv0⟩ : ∃ z, z = nextV x.d false := ⟨_, rfl⟩
      obtain ⟨v1, hv1⟩ : ∃ z, z = nextV (nextB x.d false) (nextX x.d false) := ⟨_, rfl⟩
      obtain ⟨v2, hv2⟩ : ∃ z, z = nextV (nextB (nextB x.d false) (nextX x.d false)) (nextX (nextB x.d false) (nextX x.d false)) := ⟨_, rfl⟩
      obtain ⟨v3, hv3⟩ : ∃ z, z = nextV (nextB (nextB (nextB x.d false) (nextX x.d false)) (nextX (nextB x.d false) (nextX x.d false))) (nextX (nextB (nextB x.d false) (nextX x.d false)) (nextX (nextB x.d false) (nextX x.d false))) := ⟨_, rfl⟩
      rw [← hv0] at HU6
      rw [← hv1, ← hv2, ← hv3]
      have HSQ := Aside0.mk (next_four x.d v0 v1 v2 v3 bs4 bad4 hv0 hv1 hv2 hv3 hbs4 hbad4)
      clear hv0 hv1 hv2 hv3 hbs4 hbad4 HY1 HY2 HY3
      obtain ⟨⟨e0, e1, e2, e3, e4, e5⟩, g0, g1, g2, g3, g4, g5⟩ := cells6 HU6.out
      go_upto_region 8 with (fail)
      clear e0 e1 e2 e3 e4 e5 g0 g1 g2 g3 g4 g5
      obtain ⟨w7, hw7⟩ : ∃ w7, w7 = ((w6.setCell ⟨ub, 3, none⟩ (.int .i64 v1)).setCell ⟨ub, 4, none⟩ (.int .i64 v2)).setCell ⟨ub, 5, none⟩ (.int .i64 v3) := ⟨_, rfl⟩
      have HU7 := Aside0.mk (show w7.heap[ub]? = some (.cells (sixU x.e x.n v0 v1 v2 v3) 25 (0, 0)) by
        rw [hw7]
        exact blk_set (blk_set (blk_set HU6.out 3 (.int .i64 v1)) 4 (.int .i64 v2)) 5 (.int .i64 v3))
      have HG7 := Aside0.mk (show GU w w7 sx vb cb x A1 c1 bs4 bad4 by
        rw [hw7]
        exact HG6.out.other HU6.out HUB.out (fun k hk => by rw [Below.heap_setCell _ _ _ _ hk, Below.heap_setCell _ _ _ _ hk, Below.heap_setCell _ _ _ _ hk]) (((HG6.out.below.setCell (p := ⟨ub, 3, none⟩) (Nat.le_of_lt HUB.out) _).setCell (p := ⟨ub, 4, none⟩) (Nat.le_of_lt HUB.out) _).setCell (p := ⟨ub, 5, none⟩) (Nat.le_of_lt HUB.out) _))
      rw [← hw7]
      clear hw7 HU6 HG6
      have k0 : w7.cell? ⟨vb, 0, none⟩ = some (.pointer (some ⟨cb, 0, none⟩)) := cell_blk HG7.out.var
      go_wp2_with fail
      refine (bad_q HG7.out.cur).mono ?_
      rintro z w8 ⟨rfl, hw8⟩
      obtain rfl : w8 = w7 := hw8
      have s0 : w8.cell? ⟨sx, 0, none⟩ = some (.int .i64 x.k) := cell_blk HG7.out.sec
      have s3 : w8.cell? ⟨sx, 3, none⟩ = some (.int .i64 x.l) := cell_blk HG7.out.sec
      by_cases hl : bad4 = true
      · have HN := Aside0.mk (show R = (zeroU, 5) by
          rcases HSQ.out with ⟨h1, h2⟩ | ⟨h1, h2, _⟩
          · rw [HE1.out, if_neg (by omega)]
          · rw [hl] at h2; cases h2)
        subst hl
        obtain ⟨⟨p0, p1, p2, p3, p4, p5⟩, q0, q1, q2, q3, q4, q5⟩ := cells6 HG7.out.zero
        go_wp2_with fail
        refine bodyPost_ret (results_ct rfl _ _ w.heap.size 25 (sixU 0 0 0 0 0 0) (0, 0) _ rfl (six_set HG7.out.zero _ _ _ _ _ _) Try.underlying25 rfl (by kernel_rfl)) rfl ?_
        exact ⟨by rw [HN.out]; rfl, six_below HG7.out.below (Nat.le_refl _) _ _ _ _ _ _⟩
      · have hbf : bad4 = false := by simpa using hl
        subst hbf
        obtain ⟨h1, h2, h3, h4, h5, h6⟩ : 16 ≤ x.d.length ∧ bs4.length = x.d.length - 16 ∧ v0 = numP (x.d.take 4) ∧ v1 = numP ((x.d.drop 4).take 4) ∧ v2 = numP ((x.d.drop 8).take 4) ∧ v3 = numP ((x.d.drop 12).take 4) := by
          rcases HSQ.out with ⟨_, h2⟩ | ⟨h1, _, h2⟩
          · cases h2
          · exact ⟨h1, h2⟩
        have HOF := Aside0.mk (show ofSec x = ⟨x.e, x.n, v0, v1, v2, v3⟩ by unfold ofSec; rw [h3, h4, h5, h6])
        have HLE := left_q HG7.out.cur
        obtain ⟨m, hm⟩ : ∃ m, m = bs4.length := ⟨_, rfl⟩
        rw [← hm] at h2 HLE
        have HLF := Aside0.mk HLE
        clear h3 h4 h5 h6 HSQ hl HLE hm
        by_cases hm0 : 0 < m
        · have HN := Aside0.mk (show R = (zeroU, 5) by rw [HE1.out, if_neg (by omega)])
          have hmi : 0 < (m : Int) := by omega
          clear h1 h2
          go_wp2_with fail
          refine HLF.out.mono ?_
          rintro z w9 ⟨rfl, hw9⟩
          obtain rfl : w9 = w8 := hw9
          clear HLF
          obtain ⟨⟨p0, p1, p2, p3, p4, p5⟩, q0, q1, q2, q3, q4, q5⟩ := cells6 HG7.out.zero
          go_wp2_with fail
          refine bodyPost_ret (results_ct rfl _ _ w.heap.size 25 (sixU 0 0 0 0 0 0) (0, 0) _ rfl (six_set HG7.out.zero _ _ _ _ _ _) Try.underlying25 rfl (by kernel_rfl)) rfl ?_
          exact ⟨by rw [HN.out]; rfl, six_below HG7.out.below (Nat.le_refl _) _ _ _ _ _ _⟩
        · have hz : m = 0 := by omega
          subst hz
          have HD := Aside0.mk (show x.d.length = 16 by omega)
          clear h1 h2 hm0
          go_wp2_with fail
          refine HLF.out.mono ?_
          rintro z w9 ⟨rfl, hw9⟩
          obtain rfl : w9 = w8 := hw9
          clear HLF
          obtain ⟨k, hk⟩ : ∃ k, k = x.k := ⟨_, rfl⟩
          obtain ⟨lf, hlf⟩ : ∃ k, k = x.l := ⟨_, rfl⟩
          rw [← hk] at s0
          rw [← hlf] at s3
          by_cases hk1 : k ≠ 1
          · have HN := Aside0.mk (show R = (zeroU, 5) by rw [HE1.out, if_neg (fun h => hk1 (hk.trans h.2.1))])
            clear hk hlf
            obtain ⟨⟨p0, p1, p2, p3, p4, p5⟩, q0, q1, q2, q3, q4, q5⟩ := cells6 HG7.out.zero
            go_wp2_with fail
            refine bodyPost_ret (results_ct rfl _ _ w.heap.size 25 (sixU 0 0 0 0 0 0) (0, 0) _ rfl (six_set HG7.out.zero _ _ _ _ _ _) Try.underlying25 rfl (by kernel_rfl)) rfl ?_
            exact ⟨by rw [HN.out]; rfl, six_below HG7.out.below (Nat.le_refl _) _ _ _ _ _ _⟩
          · have hk2 : k = 1 := Classical.byContradiction hk1
            subst hk2
            have HK := Aside0.mk hk
            clear hk hk1
            by_cases hl1 : lf ≠ 0
            · have HN := Aside0.mk (show R = (zeroU, 5) by rw [HE1.out, if_neg (fun h => hl1 (hlf.trans h.2.2.1))])
              clear hlf
              obtain ⟨⟨p0, p1, p2, p3, p4, p5⟩, q0, q1, q2, q3, q4, q5⟩ := cells6 HG7.out.zero
              go_wp2_with fail
              refine bodyPost_ret (results_ct rfl _ _ w.heap.size 25 (sixU 0 0 0 0 0 0) (0, 0) _ rfl (six_set HG7.out.zero _ _ _ _ _ _) Try.underlying25 rfl (by kernel_rfl)) rfl ?_
              exact ⟨by rw [HN.out]; rfl, six_below HG7.out.below (Nat.le_refl _) _ _ _ _ _ _⟩
            · have hl2 : lf = 0 := Classical.byContradiction hl1
              subst hl2
              have HLZ := Aside0.mk hlf
              clear hlf hl1
              obtain ⟨⟨e0, e1, e2, e3, e4, e5⟩, g0, g1, g2, g3, g4, g5⟩ := cells6 HU7.out
              have hck := check_any (w := w9) x.e x.n v0 v1 v2 v3
              obtain ⟨z, hz⟩ : ∃ z, z = supOk x.e x.n v0 v1 v2 v3 := ⟨_, rfl⟩
              rw [← hz] at hck
              have HCK := Aside0.mk hck
              have HZ := Aside0.mk hz
              clear hck hz
              go_wp2_with fail
              refine HCK.out.mono ?_
              clear HCK s0 s3 k0
              rintro y w10 ⟨rfl, b10⟩
              have HU10 := Aside0.mk ((b10.block _ (blk_lt HU7.out)).trans HU7.out)
              have HG8 := Aside0.mk (HG7.out.step b10)
              clear b10 HG7 HU7 e0 e1 e2 e3 e4 e5 g0 g1 g2 g3 g4 g5
              cases z with
              | false =>
                have HN := Aside0.mk (show R = (zeroU, 5) by rw [HE1.out, if_neg (fun h => by have h4 := h.2.2.2; rw [HOF.out] at h4; exact absurd (HZ.out.trans h4) (by decide))])
                obtain ⟨⟨p0, p1, p2, p3, p4, p5⟩, q0, q1, q2, q3, q4, q5⟩ := cells6 HG8.out.zero
                go_wp2_with fail
                refine bodyPost_ret (results_ct rfl _ _ w.heap.size 25 (sixU 0 0 0 0 0 0) (0, 0) _ rfl (six_set HG8.out.zero _ _ _ _ _ _) Try.underlying25 rfl (by kernel_rfl)) rfl ?_
                exact ⟨by rw [HN.out]; rfl, six_below HG8.out.below (Nat.le_refl _) _ _ _ _ _ _⟩
              | true =>
                have HN := Aside0.mk (show R = (⟨x.e, x.n, v0, v1, v2, v3⟩, 0) by
                  rw [HE1.out, if_pos ⟨HD.out, HK.out.symm, HLZ.out.symm, by rw [HOF.out]; exact HZ.out.symm⟩, HOF.out])
                obtain ⟨⟨e0, e1, e2, e3, e4, e5⟩, _⟩ := cells6 HU10.out
                obtain ⟨⟨p0, p1, p2, p3, p4, p5⟩, q0, q1, q2, q3, q4, q5⟩ := cells6 HG8.out.zero
                go_wp2_with fail
                refine bodyPost_ret (results_ct rfl _ _ w.heap.size 25 (sixU x.e x.n v0 v1 v2 v3) (0, 0) _ rfl (six_set HG8.out.zero _ _ _ _ _ _) Try.underlying25 rfl (by kernel_rfl)) rfl ?_
                exact ⟨by rw [HN.out]; rfl, six_below HG8.out.below (Nat.le_refl _) _ _ _ _ _ _⟩
  · have hq : ∀ ob, (w1.alloc ob).heap[w.heap.size]? = some (.cells (sixU 0 0 0 0 0 0) 25 (0, 0)) := fun ob => (Below.heap_alloc _ _ _ (blk_lt HZ1.out)).trans HZ1.out
    have f0 : ∀ ob, (w1.alloc ob).frozen? ⟨w.heap.size, 0, none⟩ = false := fun ob => frozen_blk (hq ob)
    have f1 : ∀ ob, (w1.alloc ob).frozen? ⟨w.heap.size, 1, none⟩ = false := fun ob => frozen_blk (hq ob)
    have f2 : ∀ ob, (w1.alloc ob).frozen? ⟨w.heap.size, 2, none⟩ = false := fun ob => frozen_blk (hq ob)
    have f3 : ∀ ob, (w1.alloc ob).frozen? ⟨w.heap.size, 3, none⟩ = false := fun ob => frozen_blk (hq ob)
    have f4 : ∀ ob, (w1.alloc ob).frozen? ⟨w.heap.size, 4, none⟩ = false := fun ob => frozen_blk (hq ob)
    have f5 : ∀ ob, (w1.alloc ob).frozen? ⟨w.heap.size, 5, none⟩ = false := fun ob => frozen_blk (hq ob)
    have c0 : ∀ ob, (w1.alloc ob).cell? ⟨w.heap.size, 0, none⟩ = some (.int .i64 0) := fun ob => cell_blk (hq ob)
    have c1 : ∀ ob, (w1.alloc ob).cell? ⟨w.heap.size, 1, none⟩ = some (.int .i64 0) := fun ob => cell_blk (hq ob)
    have c2 : ∀ ob, (w1.alloc ob).cell? ⟨w.heap.size, 2, none⟩ = some (.int .i64 0) := fun ob => cell_blk (hq ob)
    have c3 : ∀ ob, (w1.alloc ob).cell? ⟨w.heap.size, 3, none⟩ = some (.int .i64 0) := fun ob => cell_blk (hq ob)
    have c4 : ∀ ob, (w1.alloc ob).cell? ⟨w.heap.size, 4, none⟩ = some (.int .i64 0) := fun ob => cell_blk (hq ob)
    have c5 : ∀ ob, (w1.alloc ob).cell? ⟨w.heap.size, 5, none⟩ = some (.int .i64 0) := fun ob => cell_blk (hq ob)
    have HQ := Aside0.mk hq
    have HN := Aside0.mk (show R = (zeroU, e) by rw [HE.out, if_pos h0])
    clear HE hq
    go_wp2_with fail
    refine bodyPost_ret (results_ct rfl _ _ w.heap.size 25 (sixU 0 0 0 0 0 0) (0, 0) _ rfl (six_set (HQ.out _) _ _ _ _ _ _) Try.underlying25 rfl (by kernel_rfl)) rfl ?_
    exact ⟨by rw [HN.out]; rfl, six_below (HB1.out.alloc HB1.out.size _) (Nat.le_refl _) _ _ _ _ _ _⟩
end Supr
end Go.Proofs.Ytopfjmeejpamjaa
end
section
namespace Go.Proofs.Ytopfjmeejpamjaa
set_option linter.unusedVariables false
set_option linter.unusedSimpArgs false
set_option linter.ambiguousOpen false
open Go.RowKit Go.Proofs.YtopfjmeejpamjaaW.PrintWords Go.Proofs.YtopfjmeejpamjaaW.PrintLast Go.Proofs.YtopfjmeejpamjaaW.PrintMore
namespace Supr
open Go.Num Go.Crc Go.Proofs.Ytopfjmeejpamjaa.Cell Go.Proofs.Ytopfjmeejpamjaa.Sect
def num4 (d : List Int) (j : Nat) : Int × Int := unfixP ((d.drop (4 * j)).take 4)
theorem numP4 (d : List Int) (j : Nat) : numP ((d.drop (4 * j)).take 4) = if (num4 d j).2 ≠ 0 then -1 else (num4 d j).1 := rfl
theorem chunk4 (d : List Int) (hl : d.length = 16) (hb : ∀ x ∈ d, 0 ≤ x ∧ x ≤ 255) (j : Nat) (hj : j < 4) (h : 0 ≤ numP ((d.drop (4 * j)).take 4)) : leB (numP ((d.drop (4 * j)).take 4)) 4 = (d.drop (4 * j)).take 4 :=
  (num_of _ (take_byte hb _ _) 4 (by rw [List.length_take, List.length_drop, hl]; omega) h).2.2
theorem data_of (x : Sec) (hl : x.d.length = 16) (hb : ∀ y ∈ x.d, 0 ≤ y ∧ y ≤ 255) (hs : (ofSec x).ok = true) : dataU (ofSec x).l (ofSec x).p (ofSec x).q (ofSec x).o = x.d := by
  have hr := supOk_range hs
  have e0 := chunk4 x.d hl hb 0 (by decide) (by have : 1 ≤ numP ((x.d.drop (4 * 0)).take 4) := hr.2.2.2.2.1; omega)
  have e1 := chunk4 x.d hl hb 1 (by decide) hr.2.2.2.2.2.2.1
  have e2 := chunk4 x.d hl hb 2 (by decide) hr.2.2.2.2.2.2.2.2.1
  have e3 := chunk4 x.d hl hb 3 (by decide) hr.2.2.2.2.2.2.2.2.2.2.1
  have hd : x.d = (x.d.drop (4 * 0)).take 4 ++ ((x.d.drop (4 * 1)).take 4 ++ ((x.d.drop (4 * 2)).take 4 ++ (x.d.drop (4 * 3)).take 4)) := by
    have a3 : (x.d.drop (4 * 3)).take 4 = x.d.drop 12 := List.take_of_length_le (by rw [List.length_drop, hl]; omega)
    have a2 : (x.d.drop (4 * 2)).take 4 ++ x.d.drop 12 = x.d.drop 8 := by
      have := List.take_append_drop 4 (x.d.drop 8)
      rw [List.drop_drop] at this
      exact this
    have a1 : (x.d.drop (4 * 1)).take 4 ++ x.d.drop 8 = x.d.drop 4 := by
      have := List.take_append_drop 4 (x.d.drop 4)
      rw [List.drop_drop] at this
      exact this
    rw [a3, a2, a1]
    exact (List.take_append_drop 4 x.d).symm
  unfold dataU
  show leB (numP ((x.d.drop (4 * 0)).take 4)) 4 ++ (leB (numP ((x.d.drop (4 * 1)).take 4)) 4 ++ (leB (numP ((x.d.drop (4 * 2)).take 4)) 4 ++ leB (numP ((x.d.drop (4 * 3)).take 4)) 4)) = x.d
  rw [e0, e1, e2, e3]
  exact hd.symm
theorem getU_yes (l : List Int) (hb : ∀ x ∈ l, 0 ≤ x ∧ x ≤ 255) (h0 : (getS l).2 = 0) (hd : (getS l).1.d.length = 16) : getU l = if (ofSec (getS l).1).put.2 = 0 ∧ (ofSec (getS l).1).put.1 = l then (ofSec (getS l).1, 0) else (zeroU, 5) := by
  obtain ⟨x, hx⟩ : ∃ x, x = (getS l).1 := ⟨_, rfl⟩
  have hxb := get_byte l hb
  have hpg := put_get l hb h0
  unfold getU
  rw [← hx] at hd hxb hpg ⊢
  rw [if_neg (by rw [h0]; decide)]
  by_cases hs : (ofSec x).ok = true
  · have hdd := data_of x hd hxb hs
    have hp : (ofSec x).put = putS 1 x.e x.n 0 x.d := by
      show putU _ _ _ _ _ _ = _
      unfold putU
      rw [if_pos hs, hdd]
      rfl
    by_cases h1 : x.k = 1 ∧ x.l = 0
    · rw [if_pos ⟨hd, h1.1, h1.2, hs⟩, if_pos]
      rw [h1.1, h1.2] at hpg
      rw [hp, hpg]
      exact ⟨rfl, rfl⟩
    · rw [if_neg (fun h => h1 ⟨h.2.1, h.2.2.1⟩), if_neg]
      rintro ⟨_, h2⟩
      have hsec := secU hs
      rw [hdd] at hsec
      have hg := get_put 1 x.e x.n 0 x.d hsec
      rw [← hp, h2] at hg
      have hk : x = ⟨1, x.e, x.n, 0, x.d⟩ := by rw [hx, hg]
      exact h1 ⟨by rw [hk], by rw [hk]⟩
  · rw [if_neg (fun h => hs h.2.2.2), if_neg]
    rintro ⟨h1, _⟩
    have : (ofSec x).put.2 = 1 := by
      show (putU _ _ _ _ _ _).2 = 1
      rw [put_code, if_neg hs]
    omega
theorem getU_no (l : List Int) (h0 : (getS l).2 = 0) (hn : (getS l).1.d.length ≠ 16 ∨ ∃ j, j < 4 ∧ (num4 (getS l).1.d j).2 ≠ 0) : getU l = (zeroU, 5) := by
  unfold getU
  rw [if_neg (by rw [h0]; decide), if_neg]
  rintro ⟨hd, _, _, hs⟩
  rcases hn with hn | ⟨j, hj, hc⟩
  · exact hn hd
  · have hr := supOk_range hs
    have hm := numP4 (getS l).1.d j
    rw [if_pos hc] at hm
    rcases (show j = 0 ∨ j = 1 ∨ j = 2 ∨ j = 3 by omega) with rfl | rfl | rfl | rfl
    · have h := hr.2.2.2.2.1
      rw [show (ofSec (getS l).1).l = -1 from hm] at h
      omega
    · have h := hr.2.2.2.2.2.2.1
      rw [show (ofSec (getS l).1).p = -1 from hm] at h
      omega
    · have h := hr.2.2.2.2.2.2.2.2.1
      rw [show (ofSec (getS l).1).q = -1 from hm] at h
      omega
    · have h := hr.2.2.2.2.2.2.2.2.2.2.1
      rw [show (ofSec (getS l).1).o = -1 from hm] at h
      omega
end Supr
end Go.Proofs.Ytopfjmeejpamjaa
end
section
namespace Go.Proofs.Ytopfjmeejpamjaa
set_option linter.unusedVariables false
set_option linter.unusedSimpArgs false
set_option linter.ambiguousOpen false
open Go.RowKit Go.Proofs.YtopfjmeejpamjaaW.PrintWords Go.Proofs.YtopfjmeejpamjaaW.PrintLast Go.Proofs.YtopfjmeejpamjaaW.PrintMore
namespace Supr
open Go.Num Go.Crc Go.Proofs.Ytopfjmeejpamjaa.Cell Go.Proofs.Ytopfjmeejpamjaa.Sect
structure GX (w0 w : World) (sx : Nat) (x : Sec) (A : Option Addr) (c : Nat) : Prop where
  below : Below w0.heap.size w0 w
  zero : w.heap[w0.heap.size]? = some (.cells (sixU 0 0 0 0 0 0) 25 (0, 0))
  sec : w.heap[sx]? = some (.cells #[.int .i64 x.k, .int .i64 x.e, .int .i64 x.n, .int .i64 x.l, .slice A x.d.length c] 69 (0, 0))
  row : ∀ y, Below w.heap.size w y → Kd.C (Kd.int .u8) y A x.d.length x.d
theorem GX.step {w0 w w' : World} {sx : Nat} {x : Sec} {A : Option Addr} {c : Nat} (h : GX w0 w sx x A c) (f : Below w.heap.size w w') : GX w0 w' sx x A c :=
  ⟨h.below.trans (f.mono h.below.size), (f.block _ (blk_lt h.zero)).trans h.zero, (f.block _ (blk_lt h.sec)).trans h.sec, fun y hy => h.row y (below_steps f hy)⟩
theorem GX.grown {w0 w w' : World} {sx : Nat} {x : Sec} {c base : Nat} {a : Addr} {v : Value} {xs : List Int} (h : GX w0 w sx x (some a) c) (hr : Kd.R (Kd.int .i64) 3 w base (fun _ => True) v xs) (f : w.grownBy w' v.ownBlock) (hb : Below w0.heap.size w0 w') (hrow : ∀ y, Below w'.heap.size w' y → Kd.C (Kd.int .u8) y (some a) x.d.length x.d) : GX w0 w' sx x (some a) c :=
  ⟨hb, (f.block _ (blk_lt h.zero) (Kd.R_ne hr h.zero (by decide))).trans h.zero, (f.block _ (blk_lt h.sec) (Kd.R_ne hr h.sec (by decide))).trans h.sec, hrow⟩
set_option maxHeartbeats 16000000 in
set_option maxRecDepth 100000 in
theorem xsget_any {w : World} (A : Option Addr) (c : Nat) (l : List Int) (hC : Kd.C (Kd.int .u8) w A l.length l) (hb : ∀ y ∈ l, 0 ≤ y ∧ y ≤ 255) (hc : l.length ≤ c) (hl : l.length ≤ 200000) :
    Calls Try.prog 12 #[.slice A l.length c] w fun r w' => r = .returned (.tuple #[(getU l).1.v, .int .i64 (getU l).2]) ∧ Below w.heap.size w w' := by
  have HC := Aside0.mk hC
  have HBY := Aside0.mk hb
  have HXB := Aside0.mk (get_byte l hb)
  have HC0 := Aside0.mk hc
  obtain ⟨R, hR⟩ : ∃ R, R = getU l := ⟨_, rfl⟩
  rw [← hR]
  obtain ⟨x, hx⟩ : ∃ x, x = (getS l).1 := ⟨_, rfl⟩
  obtain ⟨e, he⟩ : ∃ e, e = (getS l).2 := ⟨_, rfl⟩
  have HE0 := Aside0.mk (show e ≠ 0 → R = (zeroU, e) from fun h => by rw [hR]; unfold getU; rw [if_pos (by rw [← he]; exact h), ← he])
  have HEN := Aside0.mk (show e = 0 → (x.d.length ≠ 16 ∨ ∃ j, j < 4 ∧ (num4 x.d j).2 ≠ 0) → R = (zeroU, 5) from fun h k => by rw [hR]; exact getU_no l (he.symm.trans h) (by rw [← hx]; exact k))
  have HEY := Aside0.mk (show e = 0 → x.d.length = 16 → R = if (ofSec x).put.2 = 0 ∧ (ofSec x).put.1 = l then (ofSec x, 0) else (zeroU, 5) from fun h k => by rw [hR, hx]; exact getU_yes l hb (he.symm.trans h) (by rw [← hx]; exact k))
  rw [← hx] at HXB
  clear hR hC hb
  obtain ⟨W, hW⟩ : ∃ W, W = w.alloc (.cells (sixU 0 0 0 0 0 0) 25) := ⟨_, rfl⟩
  have HB0 := Aside0.mk (show Below w.heap.size w W by rw [hW]; exact (Below.refl _ _).alloc (Nat.le_refl _) _)
  have HZ0 := Aside0.mk (show W.heap[w.heap.size]? = some (.cells (sixU 0 0 0 0 0 0) 25 (0, 0)) by rw [hW]; exact heap_alloc_new w _)
  have hg := xget_any (w := W) A c l (Kd.C_below HC.out HB0.out) HBY.out hc hl
  rw [← hx, ← he] at hg
  have HG := Aside0.mk hg
  have HWE := Aside0.mk hW
  clear hx he hg hW hl hc
  go_enter Try.func12, Try.ntmps12
  go_wp2_with fail
  rw [← HWE.out]
  refine HG.out.mono ?_
  rintro r w1 ⟨A1, c1, rfl, h1, hC1, b1⟩
  have HC1 := Aside0.mk hC1
  have HZ1 := Aside0.mk ((b1.block _ (blk_lt HZ0.out)).trans HZ0.out)
  have HB1 := Aside0.mk (HB0.out.trans (b1.mono HB0.out.size))
  have H1 := Aside0.mk h1
  clear b1 hC1 h1 HG HWE HZ0 HB0
  obtain ⟨w2, hw2⟩ : ∃ z, z = w1.alloc (.cells #[.int .i64 x.k, .int .i64 x.e, .int .i64 x.n, .int .i64 x.l, .slice A1 x.d.length c1] 69) := ⟨_, rfl⟩
  have b2 : Below w1.heap.size w1 w2 := by rw [hw2]; exact (Below.refl _ _).alloc (Nat.le_refl _) _
  have HX := Aside0.mk (show GX w w2 w1.heap.size x A1 c1 from ⟨HB1.out.trans (b2.mono HB1.out.size), (b2.block _ (blk_lt HZ1.out)).trans HZ1.out, by rw [hw2]; exact heap_alloc_new w1 _, fun y hy => HC1.out y (below_steps b2 hy)⟩)
  clear HC1 HZ1 HB1 b2
  by_cases h0 : e ≠ 0
  · have HN := Aside0.mk (HE0.out h0)
    obtain ⟨⟨p0, p1, p2, p3, p4, p5⟩, q0, q1, q2, q3, q4, q5⟩ := cells6 HX.out.zero
    rw [hw2] at p0 p1 p2 p3 p4 p5 q0 q1 q2 q3 q4 q5
    go_wp2_with fail
    rw [← hw2]
    refine bodyPost_ret (results_ct rfl _ _ w.heap.size 25 (sixU 0 0 0 0 0 0) (0, 0) _ rfl (six_set HX.out.zero _ _ _ _ _ _) Try.underlying25 rfl (by kernel_rfl)) rfl ?_
    exact ⟨by rw [HN.out]; rfl, six_below HX.out.below (Nat.le_refl _) _ _ _ _ _ _⟩
  · have h00 : e = 0 := Classical.byContradiction h0
    subst h00
    have HEN1 := Aside0.mk (HEN.out rfl)
    have HEY1 := Aside0.mk (HEY.out rfl)
    clear h0 HE0 HEN HEY
    obtain ⟨m, hm⟩ : ∃ m, m = x.d.length := ⟨_, rfl⟩
    have HW2 := Aside0.mk hw2
    clear hw2
    rw [← hm]
    have HM := Aside0.mk hm
    clear hm
    by_cases hm16 : m ≠ 16
    · have HN := Aside0.mk (HEN1.out (.inl (by rw [← HM.out]; exact hm16)))
      have hmi : ((m : Int) != 16) = true := by simp; omega
      obtain ⟨⟨p0, p1, p2, p3, p4, p5⟩, q0, q1, q2, q3, q4, q5⟩ := cells6 HX.out.zero
      rw [HW2.out] at p0 p1 p2 p3 p4 p5 q0 q1 q2 q3 q4 q5
      rw [← HM.out] at p0 p1 p2 p3 p4 p5 q0 q1 q2 q3 q4 q5
      go_wp2_with fail
      rw [HM.out, ← HW2.out]
      refine bodyPost_ret (results_ct rfl _ _ w.heap.size 25 (sixU 0 0 0 0 0 0) (0, 0) _ rfl (six_set HX.out.zero _ _ _ _ _ _) Try.underlying25 rfl (by kernel_rfl)) rfl ?_
      exact ⟨by rw [HN.out]; rfl, six_below HX.out.below (Nat.le_refl _) _ _ _ _ _ _⟩
    · have hm2 : m = 16 := Classical.byContradiction hm16
      subst hm2
      clear hm16
      obtain ⟨a, rfl⟩ : ∃ a, A1 = some a := by obtain ⟨a, ha, _⟩ := (HX.out.row _ (Below.refl _ _)).2.2 (by rw [← HM.out]; decide); exact ⟨a, ha⟩
      have HWM := Aside0.mk (show w2 = w1.alloc (.cells #[.int .i64 x.k, .int .i64 x.e, .int .i64 x.n, .int .i64 x.l, .slice (some a) 16 c1] 69) by rw [HW2.out, ← HM.out])
      go_wp2_with fail
      rw [← HWM.out]
      obtain ⟨sx, hsx⟩ : ∃ sx, sx = w1.heap.size := ⟨_, rfl⟩
      rw [← hsx] at HX ⊢
      clear hsx HW2 HWM
      have H16 := Aside0.mk (show 16 ≤ c1 by have := H1.out; rw [← HM.out] at this; exact this)
      go_loopg [7, 6] 4 (fun gk v7 v6 wr => ∃ (i : Nat) (I : Int) (A' : Option Addr) (c' : Nat), Aside0 (i + gk = 4) ∧ Aside0 (I = i) ∧ v7 = .int .i64 I ∧ v6 = .slice A' i c' ∧ Aside0 (∀ j, j < i → (num4 x.d j).2 = 0) ∧ Aside0 (Kd.R (Kd.int .i64) 3 wr w2.heap.size (fun _ => True) (.slice A' i c') ((List.range i).map (fun j => (num4 x.d j).1))) ∧ Aside0 (Below w2.heap.size w2 wr))
      case atStart => exact ⟨0, 0, none, 0, ⟨by omega⟩, ⟨rfl⟩, rfl, rfl, ⟨fun j hj => absurd hj (by omega)⟩, ⟨Kd.R_nil _ _ _ _ _⟩, ⟨Below.refl _ _⟩⟩
      case round =>
        obtain ⟨i, I, A', c', HI, HII, rfl, rfl, HZ, HR, HB⟩ := hrel
        have HXr := Aside0.mk (HX.out.step HB.out)
        rcases (show i = 0 ∨ i = 1 ∨ i = 2 ∨ i = 3 ∨ i = 4 by have := HI.out; omega) with rfl | rfl | rfl | rfl | rfl
        · obtain rfl : I = 0 := HII.out
          have x4 : wr.cell? ⟨sx, 4, none⟩ = some (.slice (some a) 16 c1) := by have := cell_blk (k := 4) HXr.out.sec; rw [← HM.out] at this; exact this
          have h16 := H16.out
          go_wp2_with fail
          clear h16
          refine (xunfix_any (some (a.add 0)) (c1 - 0) ((x.d.drop (4 * 0)).take 4) 4 (by rw [List.length_take, List.length_drop, ← HM.out]; decide) (by have := mid_C (HXr.out.row _ (Below.refl _ _)) 0 4 (by rw [← HM.out]; decide); exact this) (by have := H16.out; omega) (take_byte HXB.out _ _)).mono ?_
          rintro r w3 ⟨rfl, b3⟩
          have HX3 := Aside0.mk (HXr.out.step b3)
          have HB3 := Aside0.mk (HB.out.trans (b3.mono HB.out.size))
          have HR3 := Aside0.mk (Kd.R_below HR.out b3)
          clear b3 x4 HXr HR HB
          obtain ⟨n, hn⟩ : ∃ n, n = (unfixP ((x.d.drop (4 * 0)).take 4)).1 := ⟨_, rfl⟩
          obtain ⟨q, hq⟩ : ∃ n, n = (unfixP ((x.d.drop (4 * 0)).take 4)).2 := ⟨_, rfl⟩
          rw [← hn, ← hq]
          have HNN := Aside0.mk (show n = (num4 x.d 0).1 from hn)
          have HQQ := Aside0.mk (show q = (num4 x.d 0).2 from hq)
          clear hn hq
          by_cases hq0 : q ≠ 0
          · have HN := Aside0.mk (HEN1.out (.inr ⟨0, by decide, by rw [← HQQ.out]; exact hq0⟩))
            obtain ⟨⟨p0, p1, p2, p3, p4, p5⟩, q0, q1, q2, q3, q4, q5⟩ := cells6 HX3.out.zero
            go_wp2_with fail
            refine bodyPost_ret (results_ct rfl _ _ w.heap.size 25 (sixU 0 0 0 0 0 0) (0, 0) _ rfl (six_set HX3.out.zero _ _ _ _ _ _) Try.underlying25 rfl (by kernel_rfl)) rfl ?_
            exact ⟨by rw [HN.out]; rfl, six_below HX3.out.below (Nat.le_refl _) _ _ _ _ _ _⟩
          · have hq1 : q = 0 := Classical.byContradiction hq0
            subst hq1
            clear hq0
            go_wp2_with ((with_reducible refine gate_builtin (b := .append) (xs := #[.tmp 46, .tmp 48]) rfl ?_); at_builtin; refine Hid.out ?_)
            refine Lib.hid ?_
            obtain ⟨w4, hw4⟩ : ∃ w4, w4 = w3.alloc (.cells #[.int .i64 n] 3) := ⟨_, rfl⟩
            have b4 : Below w3.heap.size w3 w4 := by rw [hw4]; exact (Below.refl _ _).alloc (Nat.le_refl _) _
            have hn4 : w4.heap[w3.heap.size]? = some (.cells (([n] : List Int).map (Value.int .i64)).toArray 3 (0, 0)) := by rw [hw4]; exact heap_alloc_new w3 _
            have HB4 := Aside0.mk (HB3.out.trans (b4.mono HB3.out.size))
            have HR4 := Aside0.mk (Kd.R_below HR3.out b4)
            have HC4 := Aside0.mk (rowI hn4 (by simp))
            rw [← hw4]
            clear hw4 b4 hn4 HX3 HR3 HB3
            refine Kd.R_append_rows (Kd.int .i64) (Rr := (Kd.int .i64).K w4) (w0 := w2) w2.heap.size rfl (.tmp 46) (.tmp 48) 37 3 (.int .i64 0) 8 rfl Try.underlying37 infoI64 rfl (by decide) (by omega) (.slice A' 0 c') ((List.range 0).map (fun j => (num4 x.d j).1)) [n] (some ⟨w3.heap.size, 0, none⟩) 1 1 (fun _ => True) (fun _ => False) rfl rfl HR4.out HC4.out (fun x cs h => h) (fun _ hk => hk.elim) (fun _ _ => trivial) HB4.out HB4.out.size (by simp) ?_
            intro v2 w5 ho hb hg _
            obtain ⟨A2, c2, rfl⟩ := Kd.R_slice ho
            have HO := Aside0.mk ho
            have HB5 := Aside0.mk hb
            clear ho hb hg HR4 HC4 HB4
            go_wp2_with fail
            go_roundg (4 - 1)
            case measure => have := HI.out; omega
            case rel => exact ⟨1, 1, A2, c2, ⟨by have := HI.out; omega⟩, ⟨rfl⟩, rfl, by simp, ⟨fun j hj => by rcases Nat.lt_succ_iff_lt_or_eq.1 hj with h | h; exact HZ.out j h; rw [h]; exact HQQ.out.symm⟩, ⟨by rw [List.range_succ, List.map_append, List.map_singleton, ← HNN.out]; have := HO.out; simp only [List.length_append, List.length_map, List.length_range, List.length_singleton] at this; exact this⟩, HB5⟩
        · obtain rfl : I = 1 := HII.out
          have x4 : wr.cell? ⟨sx, 4, none⟩ = some (.slice (some a) 16 c1) := by have := cell_blk (k := 4) HXr.out.sec; rw [← HM.out] at this; exact this
          have h16 := H16.out
          go_wp2_with fail
          clear h16
          refine (xunfix_any (some (a.add 4)) (c1 - 4) ((x.d.drop (4 * 1)).take 4) 4 (by rw [List.length_take, List.length_drop, ← HM.out]; decide) (by have := mid_C (HXr.out.row _ (Below.refl _ _)) 4 4 (by rw [← HM.out]; decide); exact this) (by have := H16.out; omega) (take_byte HXB.out _ _)).mono ?_
          rintro r w3 ⟨rfl, b3⟩
          have HX3 := Aside0.mk (HXr.out.step b3)
          have HB3 := Aside0.mk (HB.out.trans (b3.mono HB.out.size))
          have HR3 := Aside0.mk (Kd.R_below HR.out b3)
          clear b3 x4 HXr HR HB
          obtain ⟨n, hn⟩ : ∃ n, n = (unfixP ((x.d.drop (4 * 1)).take 4)).1 := ⟨_, rfl⟩
          obtain ⟨q, hq⟩ : ∃ n, n = (unfixP ((x.d.drop (4 * 1)).take 4)).2 := ⟨_, rfl⟩
          rw [← hn, ← hq]
          have HNN := Aside0.mk (show n = (num4 x.d 1).1 from hn)
          have HQQ := Aside0.mk (show q = (num4 x.d 1).2 from hq)
          clear hn hq
          by_cases hq0 : q ≠ 0
          · have HN := Aside0.mk (HEN1.out (.inr ⟨1, by decide, by rw [← HQQ.out]; exact hq0⟩))
            obtain ⟨⟨p0, p1, p2, p3, p4, p5⟩, q0, q1, q2, q3, q4, q5⟩ := cells6 HX3.out.zero
            go_wp2_with fail
            refine bodyPost_ret (results_ct rfl _ _ w.heap.size 25 (sixU 0 0 0 0 0 0) (0, 0) _ rfl (six_set HX3.out.zero _ _ _ _ _ _) Try.underlying25 rfl (by kernel_rfl)) rfl ?_
            exact ⟨by rw [HN.out]; rfl, six_below HX3.out.below (Nat.le_refl _) _ _ _ _ _ _⟩
          · have hq1 : q = 0 := Classical.byContradiction hq0
            subst hq1
            clear hq0
            go_wp2_with ((with_reducible refine gate_builtin (b := .append) (xs := #[.tmp 46, .tmp 48]) rfl ?_); at_builtin; refine Hid.out ?_)
            refine Lib.hid ?_
            obtain ⟨w4, hw4⟩ : ∃ w4, w4 = w3.alloc (.cells #[.int .i64 n] 3) := ⟨_, rfl⟩
            have b4 : Below w3.heap.size w3 w4 := by rw [hw4]; exact (Below.refl _ _).alloc (Nat.le_refl _) _
            have hn4 : w4.heap[w3.heap.size]? = some (.cells (([n] : List Int).map (Value.int .i64)).toArray 3 (0, 0)) := by rw [hw4]; exact heap_alloc_new w3 _
            have HB4 := Aside0.mk (HB3.out.trans (b4.mono HB3.out.size))
            have HR4 := Aside0.mk (Kd.R_below HR3.out b4)
            have HC4 := Aside0.mk (rowI hn4 (by simp))
            rw [← hw4]
            clear hw4 b4 hn4 HX3 HR3 HB3
            refine Kd.R_append_rows (Kd.int .i64) (Rr := (Kd.int .i64).K w4) (w0 := w2) w2.heap.size rfl (.tmp 46) (.tmp 48) 37 3 (.int .i64 0) 8 rfl Try.underlying37 infoI64 rfl (by decide) (by omega) (.slice A' 1 c') ((List.range 1).map (fun j => (num4 x.d j).1)) [n] (some ⟨w3.heap.size, 0, none⟩) 1 1 (fun _ => True) (fun _ => False) rfl rfl HR4.out HC4.out (fun x cs h => h) (fun _ hk => hk.elim) (fun _ _ => trivial) HB4.out HB4.out.size (by simp) ?_
            intro v2 w5 ho hb hg _
            obtain ⟨A2, c2, rfl⟩ := Kd.R_slice ho
            have HO := Aside0.mk ho
            have HB5 := Aside0.mk hb
            clear ho hb hg HR4 HC4 HB4
            go_wp2_with fail
            go_roundg (4 - 2)
            case measure => have := HI.out; omega
            case rel => exact ⟨2, 2, A2, c2, ⟨by have := HI.out; omega⟩, ⟨rfl⟩, rfl, by simp, ⟨fun j hj => by rcases Nat.lt_succ_iff_lt_or_eq.1 hj with h | h; exact HZ.out j h; rw [h]; exact HQQ.out.symm⟩, ⟨by rw [List.range_succ, List.map_append, List.map_singleton, ← HNN.out]; have := HO.out; simp only [List.length_append, List.length_map, List.length_range, List.length_singleton] at this; exact this⟩, HB5⟩
        · obtain rfl : I = 2 := HII.out
          have x4 : wr.cell? ⟨sx, 4, none⟩ = some (.slice (some a) 16 c1) := by have := cell_blk (k := 4) HXr.out.sec; rw [← HM.out] at this; exact this
          have h16 := H16.out
          go_wp2_with fail
          clear h16
          refine (xunfix_any (some (a.add 8)) (c1 - 8) ((x.d.drop (4 * 2)).take 4) 4 (by rw [List.length_take, List.length_drop, ← HM.out]; decide) (by have := mid_C (HXr.out.row _ (Below.refl _ _)) 8 4 (by rw [← HM.out]; decide); exact this) (by have := H16.out; omega) (take_byte HXB.out _ _)).mono ?_
          rintro r w3 ⟨rfl, b3⟩
          have HX3 := Aside0.mk (HXr.out.step b3)
          have HB3 := Aside0.mk (HB.out.trans (b3.mono HB.out.size))
          have HR3 := Aside0.mk (Kd.R_below HR.out b3)
          clear b3 x4 HXr HR HB
          obtain ⟨n, hn⟩ : ∃ n, n = (unfixP ((x.d.drop (4 * 2)).take 4)).1 := ⟨_, rfl⟩
          obtain ⟨q, hq⟩ : ∃ n, n = (unfixP ((x.d.drop (4 * 2)).take 4)).2 := ⟨_, rfl⟩
          rw [← hn, ← hq]
          have HNN := Aside0.mk (show n = (num4 x.d 2).1 from hn)
          have HQQ := Aside0.mk (show q = (num4 x.d 2).2 from hq)
          clear hn hq
          by_cases hq0 : q ≠ 0
          · have HN := Aside0.mk (HEN1.out (.inr ⟨2, by decide, by rw [← HQQ.out]; exact hq0⟩))
            obtain ⟨⟨p0, p1, p2, p3, p4, p5⟩, q0, q1, q2, q3, q4, q5⟩ := cells6 HX3.out.zero
            go_wp2_with fail
            refine bodyPost_ret (results_ct rfl _ _ w.heap.size 25 (sixU 0 0 0 0 0 0) (0, 0) _ rfl (six_set HX3.out.zero _ _ _ _ _ _) Try.underlying25 rfl (by kernel_rfl)) rfl ?_
            exact ⟨by rw [HN.out]; rfl, six_below HX3.out.below (Nat.le_refl _) _ _ _ _ _ _⟩
          · have hq1 : q = 0 := Classical.byContradiction hq0
            subst hq1
            clear hq0
            go_wp2_with ((with_reducible refine gate_builtin (b := .append) (xs := #[.tmp 46, .tmp 48]) rfl ?_); at_builtin; refine Hid.out ?_)
            refine Lib.hid ?_
            obtain ⟨w4, hw4⟩ : ∃ w4, w4 = w3.alloc (.cells #[.int .i64 n] 3) := ⟨_, rfl⟩
            have b4 : Below w3.heap.size w3 w4 := by rw [hw4]; exact (Below.refl _ _).alloc (Nat.le_refl _) _
            have hn4 : w4.heap[w3.heap.size]? = some (.cells (([n] : List Int).map (Value.int .i64)).toArray 3 (0, 0)) := by rw [hw4]; exact heap_alloc_new w3 _
            have HB4 := Aside0.mk (HB3.out.trans (b4.mono HB3.out.size))
            have HR4 := Aside0.mk (Kd.R_below HR3.out b4)
            have HC4 := Aside0.mk (rowI hn4 (by simp))
            rw [← hw4]
            clear hw4 b4 hn4 HX3 HR3 HB3
            refine Kd.R_append_rows (Kd.int .i64) (Rr := (Kd.int .i64).K w4) (w0 := w2) w2.heap.size rfl (.tmp 46) (.tmp 48) 37 3 (.int .i64 0) 8 rfl Try.underlying37 infoI64 rfl (by decide) (by omega) (.slice A' 2 c') ((List.range 2).map (fun j => (num4 x.d j).1)) [n] (some ⟨w3.heap.size, 0, none⟩) 1 1 (fun _ => True) (fun _ => False) rfl rfl HR4.out HC4.out (fun x cs h => h) (fun _ hk => hk.elim) (fun _ _ => trivial) HB4.out HB4.out.size (by simp) ?_
            intro v2 w5 ho hb hg _
            obtain ⟨A2, c2, rfl⟩ := Kd.R_slice ho
            have HO := Aside0.mk ho
            have HB5 := Aside0.mk hb
            clear ho hb hg HR4 HC4 HB4
            go_wp2_with fail
            go_roundg (4 - 3)
            case measure => have := HI.out; omega
            case rel => exact ⟨3, 3, A2, c2, ⟨by have := HI.out; omega⟩, ⟨rfl⟩, rfl, by simp, ⟨fun j hj => by rcases Nat.lt_succ_iff_lt_or_eq.1 hj with h | h; exact HZ.out j h; rw [h]; exact HQQ.out.symm⟩, ⟨by rw [List.range_succ, List.map_append, List.map_singleton, ← HNN.out]; have := HO.out; simp only [List.length_append, List.length_map, List.length_range, List.length_singleton] at this; exact this⟩, HB5⟩
        · obtain rfl : I = 3 := HII.out
          have x4 : wr.cell? ⟨sx, 4, none⟩ = some (.slice (some a) 16 c1) := by have := cell_blk (k := 4) HXr.out.sec; rw [← HM.out] at this; exact this
          have h16 := H16.out
          go_wp2_with fail
          clear h16
          refine (xunfix_any (some (a.add 12)) (c1 - 12) ((x.d.drop (4 * 3)).take 4) 4 (by rw [List.length_take, List.length_drop, ← HM.out]; decide) (by have := mid_C (HXr.out.row _ (Below.refl _ _)) 12 4 (by rw [← HM.out]; decide); exact this) (by have := H16.out; omega) (take_byte HXB.out _ _)).mono ?_
          rintro r w3 ⟨rfl, b3⟩
          have HX3 := Aside0.mk (HXr.out.step b3)
          have HB3 := Aside0.mk (HB.out.trans (b3.mono HB.out.size))
          have HR3 := Aside0.mk (Kd.R_below HR.out b3)
          clear b3 x4 HXr HR HB
          obtain ⟨n, hn⟩ : ∃ n, n = (unfixP ((x.d.drop (4 * 3)).take 4)).1 := ⟨_, rfl⟩
          obtain ⟨q, hq⟩ : ∃ n, n = (unfixP ((x.d.drop (4 * 3)).take 4)).2 := ⟨_, rfl⟩
          rw [← hn, ← hq]
          have HNN := Aside0.mk (show n = (num4 x.d 3).1 from hn)
          have HQQ := Aside0.mk (show q = (num4 x.d 3).2 from hq)
          clear hn hq
          by_cases hq0 : q ≠ 0
          · have HN := Aside0.mk (HEN1.out (.inr ⟨3, by decide, by rw [← HQQ.out]; exact hq0⟩))
            obtain ⟨⟨p0, p1, p2, p3, p4, p5⟩, q0, q1, q2, q3, q4, q5⟩ := cells6 HX3.out.zero
            go_wp2_with fail
            refine bodyPost_ret (results_ct rfl _ _ w.heap.size 25 (sixU 0 0 0 0 0 0) (0, 0) _ rfl (six_set HX3.out.zero _ _ _ _ _ _) Try.underlying25 rfl (by kernel_rfl)) rfl ?_
            exact ⟨by rw [HN.out]; rfl, six_below HX3.out.below (Nat.le_refl _) _ _ _ _ _ _⟩
          · have hq1 : q = 0 := Classical.byContradiction hq0
            subst hq1
            clear hq0
            go_wp2_with ((with_reducible refine gate_builtin (b := .append) (xs := #[.tmp 46, .tmp 48]) rfl ?_); at_builtin; refine Hid.out ?_)
            refine Lib.hid ?_
            obtain ⟨w4, hw4⟩ : ∃ w4, w4 = w3.alloc (.cells #[.int .i64 n] 3) := ⟨_, rfl⟩
            have b4 : Below w3.heap.size w3 w4 := by rw [hw4]; exact (Below.refl _ _).alloc (Nat.le_refl _) _
            have hn4 : w4.heap[w3.heap.size]? = some (.cells (([n] : List Int).map (Value.int .i64)).toArray 3 (0, 0)) := by rw [hw4]; exact heap_alloc_new w3 _
            have HB4 := Aside0.mk (HB3.out.trans (b4.mono HB3.out.size))
            have HR4 := Aside0.mk (Kd.R_below HR3.out b4)
            have HC4 := Aside0.mk (rowI hn4 (by simp))
            rw [← hw4]
            clear hw4 b4 hn4 HX3 HR3 HB3
            refine Kd.R_append_rows (Kd.int .i64) (Rr := (Kd.int .i64).K w4) (w0 := w2) w2.heap.size rfl (.tmp 46) (.tmp 48) 37 3 (.int .i64 0) 8 rfl Try.underlying37 infoI64 rfl (by decide) (by omega) (.slice A' 3 c') ((List.range 3).map (fun j => (num4 x.d j).1)) [n] (some ⟨w3.heap.size, 0, none⟩) 1 1 (fun _ => True) (fun _ => False) rfl rfl HR4.out HC4.out (fun x cs h => h) (fun _ hk => hk.elim) (fun _ _ => trivial) HB4.out HB4.out.size (by simp) ?_
            intro v2 w5 ho hb hg _
            obtain ⟨A2, c2, rfl⟩ := Kd.R_slice ho
            have HO := Aside0.mk ho
            have HB5 := Aside0.mk hb
            clear ho hb hg HR4 HC4 HB4
            go_wp2_with fail
            go_roundg (4 - 4)
            case measure => have := HI.out; omega
            case rel => exact ⟨4, 4, A2, c2, ⟨by have := HI.out; omega⟩, ⟨rfl⟩, rfl, by simp, ⟨fun j hj => by rcases Nat.lt_succ_iff_lt_or_eq.1 hj with h | h; exact HZ.out j h; rw [h]; exact HQQ.out.symm⟩, ⟨by rw [List.range_succ, List.map_append, List.map_singleton, ← HNN.out]; have := HO.out; simp only [List.length_append, List.length_map, List.length_range, List.length_singleton] at this; exact this⟩, HB5⟩
        · obtain rfl : I = 4 := HII.out
          obtain ⟨n0, hn0⟩ : ∃ n, n = (num4 x.d 0).1 := ⟨_, rfl⟩
          obtain ⟨n1, hn1⟩ : ∃ n, n = (num4 x.d 1).1 := ⟨_, rfl⟩
          obtain ⟨n2, hn2⟩ : ∃ n, n = (num4 x.d 2).1 := ⟨_, rfl⟩
          obtain ⟨n3, hn3⟩ : ∃ n, n = (num4 x.d 3).1 := ⟨_, rfl⟩
          have hlist : (List.range 4).map (fun j => (num4 x.d j).1) = [n0, n1, n2, n3] := by rw [hn0, hn1, hn2, hn3]; rfl
          have HOF := Aside0.mk (show ofSec x = ⟨x.e, x.n, n0, n1, n2, n3⟩ by
            have e : ∀ j, j < 4 → numP ((x.d.drop (4 * j)).take 4) = (num4 x.d j).1 := fun j hj => by rw [numP4, if_neg (by rw [HZ.out j hj]; decide)]
            unfold ofSec
            rw [hn0, hn1, hn2, hn3, ← e 0 (by decide), ← e 1 (by decide), ← e 2 (by decide), ← e 3 (by decide)]
            rfl)
          have HEY2 := Aside0.mk (HEY1.out HM.out.symm)
          rw [hlist] at HR
          clear hn0 hn1 hn2 hn3 hlist HX HZ HEN1 HEY1
          obtain ⟨_, hown⟩ := Kd.own_of_R HR.out
          rcases hown with ⟨_, hz⟩ | ⟨gi, capi, curi, hei, _, hgi, _⟩
          · cases hz
          cases hei
          have hci := (Kd.R_reads' HR.out).2.2
          have hgl := blk_lt hgi
          have hcell : ∀ (y : World), Below wr.heap.size wr y → ∀ (j : Nat) (v : Int), j < 4 → ([n0, n1, n2, n3] : List Int).getD j 0 = v → y.cell? ⟨gi, j, none⟩ = some (.int .i64 v) := fun y hy j v hj hv => by
            obtain ⟨ad, ea, hx⟩ := Kd.at_int (Kd.C_below hci hy) (j : Int) (by omega) (by simp; omega)
            cases ea
            rw [Int.toNat_natCast] at hx
            have hadd : (⟨gi, 0, none⟩ : Addr).add j = ⟨gi, j, none⟩ := by unfold Addr.add; split <;> simp_all
            rw [hadd] at hx
            rw [hx, ← hv]
            rfl
          have HCL := Aside0.mk hcell
          clear hcell hci hgi hgl HR
          go_upto_region 14 with (fail)
          go_cut [10] from 50 to 67 (fun v10 wc => ∃ (ub : Nat), v10 = .pointer (some ⟨ub, 0, none⟩) ∧ Aside0 (Below wr.heap.size wr wc) ∧ Aside0 (wc.heap[ub]? = some (.cells (sixU x.e x.n n0 n1 n2 n3) 25 (0, 0))))
          case first =>
            refine Go.Reg.region (Below wr.heap.size wr) [.s, .s, .s, .s, .s, .s, .s, .s, .s, .s, .s, .s, .s, .s, .s, .s, .s, .s, .w, .x] (by kernel_rfl) (by kernel_rfl) (below_drew1 (Below.refl _ _)) (fun ne => ?_)
            have m1 : ∀ m : Go.Reg.In (Below wr.heap.size wr), m.w.cell? ⟨sx, 1, none⟩ = some (.int .i64 x.e) := fun m => cell_blk ((m.h.block sx (blk_lt HXr.out.sec)).trans HXr.out.sec)
            have m2 : ∀ m : Go.Reg.In (Below wr.heap.size wr), m.w.cell? ⟨sx, 2, none⟩ = some (.int .i64 x.n) := fun m => cell_blk ((m.h.block sx (blk_lt HXr.out.sec)).trans HXr.out.sec)
            have i0 : ∀ m : Go.Reg.In (Below wr.heap.size wr), m.w.cell? ⟨gi, 0, none⟩ = some (.int .i64 n0) := fun m => HCL.out m.w m.h 0 n0 (by decide) rfl
            have i1 : ∀ m : Go.Reg.In (Below wr.heap.size wr), m.w.cell? ⟨gi, 1, none⟩ = some (.int .i64 n1) := fun m => HCL.out m.w m.h 1 n1 (by decide) rfl
            have i2 : ∀ m : Go.Reg.In (Below wr.heap.size wr), m.w.cell? ⟨gi, 2, none⟩ = some (.int .i64 n2) := fun m => HCL.out m.w m.h 2 n2 (by decide) rfl
            have i3 : ∀ m : Go.Reg.In (Below wr.heap.size wr), m.w.cell? ⟨gi, 3, none⟩ = some (.int .i64 n3) := fun m => HCL.out m.w m.h 3 n3 (by decide) rfl
            refine Go.Reg.lex_q 18 _ _ _ _ (by rfl) ?_; simp only [List.take_succ_cons, List.take_zero, List.drop_succ_cons, List.drop_zero]; (repeat (go_big_quiet_step (rfl))); refine wpQuiet_nil ?_
            clear m1 m2 i0 i1 i2 i3
            refine Go.Reg.step_w (fun KK hKK => ?_)
            go_wp2_with fail
            obtain ⟨w3, hw3⟩ : ∃ w3, w3 = (wr.alloc (.cells (sixU 0 0 0 0 0 0) 25)).drew := ⟨_, rfl⟩
            have hal : Below wr.heap.size wr w3 := by rw [hw3]; exact below_drew1 ((Below.refl wr.heap.size wr).alloc (Nat.le_refl _) (.cells (sixU 0 0 0 0 0 0) 25))
            have hnb : w3.heap[wr.heap.size]? = some (.cells (sixU 0 0 0 0 0 0) 25 (0, 0)) := by rw [hw3]; exact heap_alloc_new wr (.cells (sixU 0 0 0 0 0 0) 25)
            rw [← hw3]
            have HB3 := Aside0.mk hal
            obtain ⟨ub, hub⟩ : ∃ ub, ub = wr.heap.size := ⟨_, rfl⟩
            have HUB := Aside0.mk (show wr.heap.size ≤ ub by omega)
            rw [← hub] at hnb
            rw [← hub]
            have HNB := Aside0.mk hnb
            clear hw3 hal hnb hub
            refine hKK.out _ _ HB3.out ?_
            clear hKK KK
            obtain ⟨⟨e0, e1, e2, e3, e4, e5⟩, g0, g1, g2, g3, g4, g5⟩ := cells6 HNB.out
            refine Go.Reg.step_x (by rfl) (fun KK hKK => ?_)
            go_wp2_with fail
            refine hKK.out _ _ ?_
            clear hKK KK
            try simp only [Act.put, List.setIfInBounds_toArray, List.set_cons_succ, List.set_cons_zero]
            refine Go.Reg.lex_nil ?_
            clear e0 e1 e2 e3 e4 e5 g0 g1 g2 g3 g4 g5
            go_wp2_with fail
            go_meet
            case rel => exact ⟨ub, rfl, ⟨six_below HB3.out HUB.out _ _ _ _ _ _⟩, ⟨six_set HNB.out _ _ _ _ _ _⟩⟩
          case rest =>
            obtain ⟨ub, rfl, HBC, HU⟩ := hcut
            have HX7 := Aside0.mk (HXr.out.step HBC.out)
            clear HXr HCL
            obtain ⟨⟨e0, e1, e2, e3, e4, e5⟩, _⟩ := cells6 HU.out
            have hp := xsput_any (w := wc) x.e x.n n0 n1 n2 n3
            obtain ⟨P, hP⟩ : ∃ P, P = putU x.e x.n n0 n1 n2 n3 := ⟨_, rfl⟩
            rw [← hP] at hp
            have HPR := Aside0.mk (show R = if P.2 = 0 ∧ P.1 = l then (⟨x.e, x.n, n0, n1, n2, n3⟩, 0) else (zeroU, 5) by rw [HEY2.out, HOF.out, hP])
            have HPB := Aside0.mk (show ∀ y ∈ P.1, 0 ≤ y ∧ y ≤ 255 by rw [hP]; exact put_bytes _ _ _ _ _ _)
            have HPP := Aside0.mk hp
            clear hP hp HEY2 HOF
            go_wp2_with fail
            refine HPP.out.mono ?_
            clear HPP
            rintro r w8 ⟨A8, c8, rfl, _, hr8, b8⟩
            have HX8 := Aside0.mk (HX7.out.step b8)
            have HU8 := Aside0.mk ((b8.block _ (blk_lt HU.out)).trans HU.out)
            have HL8 := Aside0.mk (Kd.C_below HC.out (below_up HX8.out.below))
            clear HX7 b8 e0 e1 e2 e3 e4 e5 HU
            obtain ⟨T, hT⟩ : ∃ T, T = strOfNums P.1 := ⟨_, rfl⟩
            obtain ⟨U, hU⟩ : ∃ U, U = strOfNums l := ⟨_, rfl⟩
            have hcv1 : (convert 26 9 (.slice A8 P.1.length c8)).run Try.prog w8 = .ok (.string T) w8 := by rw [hT]; exact strC (hr8 _ (Below.refl _ _))
            have hcv2 : (convert 26 9 (.slice A l.length c)).run Try.prog w8 = .ok (.string U) w8 := by rw [hU]; exact strC HL8.out
            obtain ⟨e2, he2⟩ : ∃ e2, e2 = P.2 := ⟨_, rfl⟩
            obtain ⟨pl, hpl⟩ : ∃ pl, pl = P.1.length := ⟨_, rfl⟩
            have HTU := Aside0.mk (show T.toList = U.toList → P.1 = l from fun h => str_inj HPB.out HBY.out (by rw [← hT, ← hU]; exact h))
            have HTU2 := Aside0.mk (show P.1 = l → T = U from fun h => by rw [hT, hU, h])
            have HPR2 := Aside0.mk (show R = if e2 = 0 ∧ P.1 = l then (⟨x.e, x.n, n0, n1, n2, n3⟩, 0) else (zeroU, 5) by rw [he2]; exact HPR.out)
            rw [← he2, ← hpl]
            rw [← hpl] at hcv1
            clear hT hU he2 hpl hr8 HPR
            by_cases he : e2 = 0
            · subst he
              by_cases hpq : P.1 = l
              · have HN := Aside0.mk (show R = (⟨x.e, x.n, n0, n1, n2, n3⟩, 0) by rw [HPR2.out, if_pos ⟨rfl, hpq⟩])
                obtain rfl := HTU2.out hpq
                clear hpq
                obtain ⟨⟨e0, e1, e2, e3, e4, e5⟩, _⟩ := cells6 HU8.out
                obtain ⟨⟨p0, p1, p2, p3, p4, p5⟩, q0, q1, q2, q3, q4, q5⟩ := cells6 HX8.out.zero
                go_wp2_with fail
                refine bodyPost_ret (results_ct rfl _ _ w.heap.size 25 (sixU x.e x.n n0 n1 n2 n3) (0, 0) _ rfl (six_set HX8.out.zero _ _ _ _ _ _) Try.underlying25 rfl (by kernel_rfl)) rfl ?_
                exact ⟨by rw [HN.out]; rfl, six_below HX8.out.below (Nat.le_refl _) _ _ _ _ _ _⟩
              · have hne : (!T.toList == U.toList) = true := by simpa using (fun h => hpq (HTU.out h))
                have HN := Aside0.mk (show R = (zeroU, 5) by rw [HPR2.out, if_neg (fun h => hpq h.2)])
                clear hpq
                obtain ⟨⟨p0, p1, p2, p3, p4, p5⟩, q0, q1, q2, q3, q4, q5⟩ := cells6 HX8.out.zero
                go_wp2_with fail
                refine bodyPost_ret (results_ct rfl _ _ w.heap.size 25 (sixU 0 0 0 0 0 0) (0, 0) _ rfl (six_set HX8.out.zero _ _ _ _ _ _) Try.underlying25 rfl (by kernel_rfl)) rfl ?_
                exact ⟨by rw [HN.out]; rfl, six_below HX8.out.below (Nat.le_refl _) _ _ _ _ _ _⟩
            · have he' : (e2 != 0) = true := by simpa using he
              have HN := Aside0.mk (show R = (zeroU, 5) by rw [HPR2.out, if_neg (fun h => he h.1)])
              obtain ⟨⟨p0, p1, p2, p3, p4, p5⟩, q0, q1, q2, q3, q4, q5⟩ := cells6 HX8.out.zero
              go_wp2_with fail
              refine bodyPost_ret (results_ct rfl _ _ w.heap.size 25 (sixU 0 0 0 0 0 0) (0, 0) _ rfl (six_set HX8.out.zero _ _ _ _ _ _) Try.underlying25 rfl (by kernel_rfl)) rfl ?_
              exact ⟨by rw [HN.out]; rfl, six_below HX8.out.below (Nat.le_refl _) _ _ _ _ _ _⟩
end Supr
end Go.Proofs.Ytopfjmeejpamjaa
end
