/- Cells put and got: the program's and the document's, and the plain law. -/
import Derived.Test.YtkfbegmfepehiaaKx
import Derived.Test.YtkfbegmfepehiaaKr
import Derived.Test.YtkfbegmfepehiaaQc5
import Derived.Test.YtkfbegmfepehiaaPCellGetsx2
import Derived.Test.YtkfbegmfepehiaaKw
import Derived.Test.YtkfbegmfepehiaaPCellGetsx6
import Derived.Below
import Derived.Lib.Hide
import Derived.OwnWalk
import Derived.WalkKit
import Derived.KernelRfl
import Derived.RowKit3
import Derived.Deep.LoopGhost
import Derived.Deep.QuietTactic
import Derived.BigQuiet
import Derived.WideLaws
import Derived.Great.BuildSlice
import Derived.Outline
import Derived.Deep.DeepCutAuto
import Derived.WalkSpells
import Derived.RegionTactic
import Derived.BigRegion
import Derived.WalkLawsBesides
import Derived.IntWalk
import Derived.Deep.Slices
import Derived.Lib.AppendZerosOnto
namespace Go.Proofs.Ytkfbegmfepehiaa
set_option linter.unusedVariables false
set_option linter.unusedSimpArgs false
open Go.RowKit Go.Proofs.YtkfbegmfepehiaaW.PrintWords Go.Proofs.YtkfbegmfepehiaaW.PrintLast Go.Proofs.YtkfbegmfepehiaaW.PrintMore
namespace Cell
open Go.Num Go.Crc PCellGets

def cellOk (o n x : Int) (d : List Int) : Bool := decide (1 ≤ o ∧ o ≤ 2147483647 ∧ 0 ≤ n ∧ n ≤ 65535 ∧ 0 ≤ x ∧ x ≤ 65535 ∧ 1 ≤ d.length ∧ d.length ≤ 242)
theorem short_plain (n : Int) : cell_short.f n = some (decide (0 ≤ n ∧ n ≤ 65535)) := by
  unfold cell_short.f
  by_cases h : n ≥ 0
  · rw [if_pos h]; congr 1; exact decide_eq_decide.2 (by omega)
  · rw [if_neg h]; congr 1; exact (decide_eq_false (by omega)).symm
theorem may_plain (o n x : Int) (d : List Int) : cell_may.f o n x d = some (cellOk o n x d) := by
  unfold cell_may.f cellOk
  rw [short_plain, short_plain]
  simp only [Option.bind_some]
  by_cases h1 : o ≥ 1
  · rw [if_pos h1]
    by_cases h2 : o ≤ 2147483647
    · rw [if_pos h2]
      by_cases h3 : 0 ≤ n ∧ n ≤ 65535
      · rw [if_pos (by simpa using h3)]
        by_cases h4 : 0 ≤ x ∧ x ≤ 65535
        · rw [if_pos (by simpa using h4)]
          by_cases h5 : (d.length : Int) ≥ 1
          · rw [if_pos h5]; congr 1; exact decide_eq_decide.2 (by omega)
          · rw [if_neg h5]; congr 1; exact (decide_eq_false (by omega)).symm
        · rw [if_neg (by simpa using h4)]; congr 1; exact (decide_eq_false (by omega)).symm
      · rw [if_neg (by simpa using h3)]; congr 1; exact (decide_eq_false (by omega)).symm
    · rw [if_neg h2]; congr 1; exact (decide_eq_false (by omega)).symm
  · rw [if_neg h1]; congr 1; exact (decide_eq_false (by omega)).symm
def headC (o n x : Int) (d : List Int) (i : Nat) : List Int := leB o 4 ++ ((if 1 ≤ i then leB n 2 else []) ++ ((if 2 ≤ i then leB x 2 else []) ++ (if 3 ≤ i then leB (d.length : Int) 2 else [])))
theorem headC_len (o n x : Int) (d : List Int) (i : Nat) (hi : i ≤ 3) : (headC o n x d i).length = 4 + 2 * i := by
  unfold headC
  rcases (show i = 0 ∨ i = 1 ∨ i = 2 ∨ i = 3 by omega) with rfl | rfl | rfl | rfl <;> simp [leB_len]
theorem headC1 (o n x : Int) (d : List Int) : headC o n x d 0 ++ leB n 2 = headC o n x d 1 := by simp [headC]
theorem headC2 (o n x : Int) (d : List Int) : headC o n x d 1 ++ leB x 2 = headC o n x d 2 := by simp [headC]
theorem headC3 (o n x : Int) (d : List Int) : headC o n x d 2 ++ leB (d.length : Int) 2 = headC o n x d 3 := by simp [headC]
/-- A cell's bytes ahead of the sum. -/
def bodyC (o n x : Int) (d : List Int) : List Int := (headC o n x d 3 ++ d) ++ List.replicate (242 - d.length) 0
theorem bodyC_len (o n x : Int) (d : List Int) (hd : d.length ≤ 242) : (bodyC o n x d).length = 252 := by
  unfold bodyC
  rw [List.length_append, List.length_append, headC_len _ _ _ _ 3 (by omega), List.length_replicate]
  omega
theorem headC_byte (o n x : Int) (d : List Int) (i : Nat) : ∀ y ∈ headC o n x d i, 0 ≤ y ∧ y ≤ 255 := by
  intro y hy
  unfold headC at hy
  have key : ∀ (p : Prop) [Decidable p] (m : Int) (k : Nat), y ∈ (if p then leB m k else []) → 0 ≤ y ∧ y ≤ 255 := fun p _ m k h => by
    split at h
    · exact leB_byte _ _ y h
    · cases h
  rcases List.mem_append.1 hy with h | h
  · exact leB_byte _ _ y h
  rcases List.mem_append.1 h with h | h
  · exact key _ _ _ h
  rcases List.mem_append.1 h with h | h
  · exact key _ _ _ h
  · exact key _ _ _ h
theorem bodyC_byte (o n x : Int) (d : List Int) (hb : ∀ y ∈ d, 0 ≤ y ∧ y ≤ 255) : ∀ y ∈ bodyC o n x d, 0 ≤ y ∧ y ≤ 255 := by
  intro y hy
  unfold bodyC at hy
  rcases List.mem_append.1 hy with h | h
  · rcases List.mem_append.1 h with h | h
    · exact headC_byte _ _ _ _ _ y h
    · exact hb y h
  · rw [(List.mem_replicate.1 h).2]; omega
def putP (o n x : Int) (d : List Int) : List Int × Int := if cellOk o n x d = true then (sealB (bodyC o n x d), 0) else ([], 1)
theorem fix_ok4 (n : Int) (h : 0 ≤ n ∧ n ≤ 2147483647) : fixP n 4 = (leB n 4, 0) := by
  unfold fixP
  rw [if_neg (by rw [show (256 : Int) ^ ((4 : Int)).toNat = 4294967296 from by decide]; omega)]
  rfl

set_option maxHeartbeats 8000000 in
set_option maxRecDepth 100000 in
theorem put_any {w : World} (o n x : Int) (A : Option Addr) (c : Nat) (d : List Int) (hC : Kd.C (Kd.int .u8) w A d.length d) (hc : d.length ≤ c) (hb : ∀ y ∈ d, 0 ≤ y ∧ y ≤ 255) :
    Calls Try.prog 11 #[.agg #[.int .i64 o, .int .i64 n, .int .i64 x, .slice A d.length c]] w fun e w' => ∃ v, e = .returned (.tuple #[v, .int .i64 (putP o n x d).2]) ∧ Kd.R (Kd.int .u8) 5 w' w.heap.size (fun _ => True) v (putP o n x d).1 ∧ Below w.heap.size w w' := by
  have HC := Aside0.mk hC
  have HBY := Aside0.mk hb
  clear hC hb
  obtain ⟨R, hR⟩ : ∃ R, R = putP o n x d := ⟨_, rfl⟩
  rw [← hR]
  obtain ⟨W, hW⟩ : ∃ W, W = w.alloc (.cells #[.int .i64 o, .int .i64 n, .int .i64 x, .slice A d.length c] 24) := ⟨_, rfl⟩
  have HB0 := Aside0.mk (show Below w.heap.size w W by rw [hW]; exact (Below.refl _ _).alloc (Nat.le_refl _) _)
  have hbx : W.heap[w.heap.size]? = some (.cells #[.int .i64 o, .int .i64 n, .int .i64 x, .slice A d.length c] 24 (0, 0)) := by rw [hW]; exact heap_alloc_new w _
  have HBX := Aside0.mk hbx
  have HWE := Aside0.mk hW
  clear hW hbx
  obtain ⟨b, hbo⟩ : ∃ b, b = cellOk o n x d := ⟨_, rfl⟩
  have hmay := cell_may.calls o n x A c d b W (Kd.C_below HC.out HB0.out) hc (by rw [may_plain, hbo])
  have HM := Aside0.mk hmay
  clear hmay
  cases b with
  | false =>
    have HQ := Aside0.mk (show R = ([], 1) by rw [hR]; unfold putP; rw [← hbo]; rfl)
    clear hR hbo
    go_enter Try.func11, Try.ntmps11
    go_wp2_with fail
    rw [← HWE.out]
    refine HM.out.mono ?_
    rintro e w1 ⟨rfl, b1⟩
    have HB1 := Aside0.mk (HB0.out.trans (b1.mono HB0.out.size))
    clear b1
    go_wp2_with fail
    go_ret2
    exact ⟨_, by rw [HQ.out]; rfl, by rw [HQ.out]; exact Kd.R_nil _ _ _ _ _, HB1.out⟩
  | true =>
    have hok := hbo.symm
    unfold cellOk at hok
    obtain ⟨o1, o2, n1, n2, x1, x2, d1, d2⟩ := of_decide_eq_true hok
    have HQ := Aside0.mk (show R = (sealB (bodyC o n x d), 0) by rw [hR]; unfold putP; rw [← hbo]; rfl)
    clear hR hbo hok
    go_enter Try.func11, Try.ntmps11
    go_wp2_with fail
    rw [← HWE.out]
    refine HM.out.mono ?_
    rintro e w1 ⟨rfl, b1⟩
    have k1 := (b1.block _ (blk_lt HBX.out)).trans HBX.out
    have HB1 := Aside0.mk (HB0.out.trans (b1.mono HB0.out.size))
    have HK1 := Aside0.mk k1
    have c0 : w1.cell? ⟨w.heap.size, 0, none⟩ = some (.int .i64 o) := cell_blk k1
    clear b1 k1
    go_wp2_with fail
    have hf4 := fix4_any o w1 (by omega)
    rw [fix_ok4 o (by omega)] at hf4
    refine hf4.mono ?_
    clear hf4
    rintro e w2 ⟨v2, rfl, hr2, b2⟩
    obtain ⟨A2, c2, rfl⟩ := Kd.R_slice hr2
    have k2 := (b2.block _ (blk_lt HK1.out)).trans HK1.out
    have HK2 := Aside0.mk k2
    have HB2 := Aside0.mk (HB1.out.trans (b2.mono HB1.out.size))
    have HR2 := Aside0.mk (Kd.R_lower hr2 HB1.out.size)
    have c1 : w2.cell? ⟨w.heap.size, 1, none⟩ = some (.int .i64 n) := cell_blk k2
    have c2' : w2.cell? ⟨w.heap.size, 2, none⟩ = some (.int .i64 x) := cell_blk k2
    have c3 : w2.cell? ⟨w.heap.size, 3, none⟩ = some (.slice A d.length c) := cell_blk k2
    clear hr2 b2 k2 c0
    go_wp2_with fail
    obtain ⟨w3, hw3⟩ : ∃ w3, w3 = w2.alloc (.cells #[.int .i64 n, .int .i64 x, .int .i64 d.length] 3) := ⟨_, rfl⟩
    have hb3 : Below w2.heap.size w2 w3 := by rw [hw3]; exact (Below.refl _ _).alloc (Nat.le_refl _) _
    have hc3 : w3.heap[w2.heap.size]? = some (.cells #[.int .i64 n, .int .i64 x, .int .i64 d.length] 3 (0, 0)) := by rw [hw3]; exact heap_alloc_new w2 _
    rw [← hw3]
    obtain ⟨g, hg⟩ : ∃ g, g = w2.heap.size := ⟨_, rfl⟩
    rw [← hg] at hc3 ⊢
    have HG := Aside0.mk hc3
    have HB3 := Aside0.mk (HB2.out.trans (hb3.mono HB2.out.size))
    have HR3 := Aside0.mk (show Kd.R (Kd.int .u8) 5 w3 w.heap.size (fun _ => True) (.slice A2 (headC o n x d 0).length c2) (headC o n x d 0) by
      have := Kd.R_below HR2.out hb3
      rw [show headC o n x d 0 = leB o 4 by simp [headC]]
      exact this)
    have HK3 := Aside0.mk ((hb3.block _ (blk_lt HK2.out)).trans HK2.out)
    have HWG := Aside0.mk (show w.heap.size < g by rw [hg]; exact blk_lt HK2.out)
    have e0 : (leB o 4).length = (headC o n x d 0).length := by rw [show headC o n x d 0 = leB o 4 by simp [headC]]
    rw [e0]
    clear hw3 hb3 hc3 hg c1 c2' c3 e0
    go_loopg [28, 7, 8, 9, 4] 3 (fun gk v28 v7 v8 v9 v4 wr => ∃ (i : Nat) (A' : Option Addr) (c' : Nat), Aside0 (i + gk = 3) ∧ v28 = .int .i64 i ∧ v4 = .slice A' (headC o n x d i).length c' ∧ Aside0 (Kd.R (Kd.int .u8) 5 wr w.heap.size (fun _ => True) (.slice A' (headC o n x d i).length c') (headC o n x d i)) ∧ Aside0 (Below w.heap.size w wr) ∧ Aside0 (wr.heap[g]? = some (.cells #[.int .i64 n, .int .i64 x, .int .i64 d.length] 3 (0, 0)) ∧ wr.heap[w.heap.size]? = some (.cells #[.int .i64 o, .int .i64 n, .int .i64 x, .slice A d.length c] 24 (0, 0))))
    case atStart => exact ⟨0, A2, c2, ⟨by omega⟩, rfl, rfl, HR3, HB3, ⟨HG.out, HK3.out⟩⟩
    case round =>
      clear HR3 HB3 HG HK3 HR2 HB2 HK2
      obtain ⟨i, A', c', HI, rfl, rfl, HR, HB, HGK⟩ := hrel
      rcases (show i = 0 ∨ i = 1 ∨ i = 2 ∨ i = 3 by have := HI.out; omega) with rfl | rfl | rfl | rfl
      · have q0 : wr.cell? ⟨g, 0, none⟩ = some (.int .i64 n) := cell_blk HGK.out.1
        go_wp2_with fail
        have hf := fix2_any n wr (by omega)
        rw [fix_small2 n (by omega) (by omega)] at hf
        refine hf.mono ?_
        clear hf
        rintro e w5 ⟨v5, rfl, hr5, b5⟩
        obtain ⟨A5, c5, rfl⟩ := Kd.R_slice hr5
        have HC5 := Aside0.mk (row_at hr5)
        have HB5 := Aside0.mk (HB.out.trans (b5.mono HB.out.size))
        have HR5 := Aside0.mk (Kd.R_below HR.out b5)
        have HGK5 := Aside0.mk (And.intro ((b5.block _ (blk_lt HGK.out.1)).trans HGK.out.1) ((b5.block _ (blk_lt HGK.out.2)).trans HGK.out.2))
        clear hr5 b5
        go_wp2_with ((with_reducible refine gate_builtin (b := .append) (xs := #[.tmp 37, .tmp 38]) rfl ?_); at_builtin; refine Hid.out ?_)
        refine Lib.hid ?_
        refine Kd.R_append_rows (Kd.int .u8) (Rr := (Kd.int .u8).K w5) (w0 := w) w.heap.size rfl (.tmp 37) (.tmp 38) 22 5 (.int .u8 0) 1 rfl Try.underlying22 infoU8 rfl (by decide) (by omega) (.slice A' (headC o n x d 0).length c') (headC o n x d 0) (leB n 2) A5 (leB n 2).length c5 (fun _ => True) (fun _ => False) rfl rfl HR5.out HC5.out (fun x cs h => h) (fun _ hk => hk.elim) (fun _ _ => trivial) HB5.out HB5.out.size (by rw [headC_len _ _ _ _ 0 (by omega), leB_len]; omega) ?_
        intro v6 w6 ho hb hg _
        rw [headC1] at ho
        have HGK6 := Aside0.mk (And.intro ((hg.block g (blk_lt HGK5.out.1) (Kd.R_ne HR5.out HGK5.out.1 (by decide))).trans HGK5.out.1) ((hg.block w.heap.size (blk_lt HGK5.out.2) (Kd.R_ne HR5.out HGK5.out.2 (by decide))).trans HGK5.out.2))
        clear hg
        obtain ⟨A6, c6, rfl⟩ := Kd.R_slice ho
        have HO6 := Aside0.mk ho
        have HB6 := Aside0.mk hb
        clear ho hb
        go_wp2_with fail
        go_roundg (2)
        case measure => have := HI.out; omega
        case rel => exact ⟨1, A6, c6, ⟨by omega⟩, by go_num, rfl, HO6, HB6, HGK6⟩
      · have q0 : wr.cell? ⟨g, 1, none⟩ = some (.int .i64 x) := cell_blk HGK.out.1
        go_wp2_with fail
        have hf := fix2_any x wr (by omega)
        rw [fix_small2 x (by omega) (by omega)] at hf
        refine hf.mono ?_
        clear hf
        rintro e w5 ⟨v5, rfl, hr5, b5⟩
        obtain ⟨A5, c5, rfl⟩ := Kd.R_slice hr5
        have HC5 := Aside0.mk (row_at hr5)
        have HB5 := Aside0.mk (HB.out.trans (b5.mono HB.out.size))
        have HR5 := Aside0.mk (Kd.R_below HR.out b5)
        have HGK5 := Aside0.mk (And.intro ((b5.block _ (blk_lt HGK.out.1)).trans HGK.out.1) ((b5.block _ (blk_lt HGK.out.2)).trans HGK.out.2))
        clear hr5 b5
        go_wp2_with ((with_reducible refine gate_builtin (b := .append) (xs := #[.tmp 37, .tmp 38]) rfl ?_); at_builtin; refine Hid.out ?_)
        refine Lib.hid ?_
        refine Kd.R_append_rows (Kd.int .u8) (Rr := (Kd.int .u8).K w5) (w0 := w) w.heap.size rfl (.tmp 37) (.tmp 38) 22 5 (.int .u8 0) 1 rfl Try.underlying22 infoU8 rfl (by decide) (by omega) (.slice A' (headC o n x d 1).length c') (headC o n x d 1) (leB x 2) A5 (leB x 2).length c5 (fun _ => True) (fun _ => False) rfl rfl HR5.out HC5.out (fun x cs h => h) (fun _ hk => hk.elim) (fun _ _ => trivial) HB5.out HB5.out.size (by rw [headC_len _ _ _ _ 1 (by omega), leB_len]; omega) ?_
        intro v6 w6 ho hb hg _
        rw [headC2] at ho
        have HGK6 := Aside0.mk (And.intro ((hg.block g (blk_lt HGK5.out.1) (Kd.R_ne HR5.out HGK5.out.1 (by decide))).trans HGK5.out.1) ((hg.block w.heap.size (blk_lt HGK5.out.2) (Kd.R_ne HR5.out HGK5.out.2 (by decide))).trans HGK5.out.2))
        clear hg
        obtain ⟨A6, c6, rfl⟩ := Kd.R_slice ho
        have HO6 := Aside0.mk ho
        have HB6 := Aside0.mk hb
        clear ho hb
        go_wp2_with fail
        go_roundg (1)
        case measure => have := HI.out; omega
        case rel => exact ⟨2, A6, c6, ⟨by omega⟩, by go_num, rfl, HO6, HB6, HGK6⟩
      · have q0 : wr.cell? ⟨g, 2, none⟩ = some (.int .i64 d.length) := cell_blk HGK.out.1
        go_wp2_with fail
        have hf := fix2_any (d.length : Int) wr (by omega)
        rw [fix_small2 (d.length : Int) (by omega) (by omega)] at hf
        refine hf.mono ?_
        clear hf
        rintro e w5 ⟨v5, rfl, hr5, b5⟩
        obtain ⟨A5, c5, rfl⟩ := Kd.R_slice hr5
        have HC5 := Aside0.mk (row_at hr5)
        have HB5 := Aside0.mk (HB.out.trans (b5.mono HB.out.size))
        have HR5 := Aside0.mk (Kd.R_below HR.out b5)
        have HGK5 := Aside0.mk (And.intro ((b5.block _ (blk_lt HGK.out.1)).trans HGK.out.1) ((b5.block _ (blk_lt HGK.out.2)).trans HGK.out.2))
        clear hr5 b5
        go_wp2_with ((with_reducible refine gate_builtin (b := .append) (xs := #[.tmp 37, .tmp 38]) rfl ?_); at_builtin; refine Hid.out ?_)
        refine Lib.hid ?_
        refine Kd.R_append_rows (Kd.int .u8) (Rr := (Kd.int .u8).K w5) (w0 := w) w.heap.size rfl (.tmp 37) (.tmp 38) 22 5 (.int .u8 0) 1 rfl Try.underlying22 infoU8 rfl (by decide) (by omega) (.slice A' (headC o n x d 2).length c') (headC o n x d 2) (leB (d.length : Int) 2) A5 (leB (d.length : Int) 2).length c5 (fun _ => True) (fun _ => False) rfl rfl HR5.out HC5.out (fun x cs h => h) (fun _ hk => hk.elim) (fun _ _ => trivial) HB5.out HB5.out.size (by rw [headC_len _ _ _ _ 2 (by omega), leB_len]; omega) ?_
        intro v6 w6 ho hb hg _
        rw [headC3] at ho
        have HGK6 := Aside0.mk (And.intro ((hg.block g (blk_lt HGK5.out.1) (Kd.R_ne HR5.out HGK5.out.1 (by decide))).trans HGK5.out.1) ((hg.block w.heap.size (blk_lt HGK5.out.2) (Kd.R_ne HR5.out HGK5.out.2 (by decide))).trans HGK5.out.2))
        clear hg
        obtain ⟨A6, c6, rfl⟩ := Kd.R_slice ho
        have HO6 := Aside0.mk ho
        have HB6 := Aside0.mk hb
        clear ho hb
        go_wp2_with fail
        go_roundg (0)
        case measure => have := HI.out; omega
        case rel => exact ⟨3, A6, c6, ⟨by omega⟩, by go_num, rfl, HO6, HB6, HGK6⟩
      · have q3 : wr.cell? ⟨w.heap.size, 3, none⟩ = some (.slice A d.length c) := cell_blk HGK.out.2
        have hl3 := headC_len o n x d 3 (by omega)
        go_wp2_with ((with_reducible refine gate_builtin (b := .append) (xs := #[.tmp 41, .tmp 43]) rfl ?_); at_builtin; refine Hid.out ?_)
        refine Lib.hid ?_
        refine Kd.R_append_rows (Kd.int .u8) (Rr := (Kd.int .u8).K wr) (w0 := w) w.heap.size rfl (.tmp 41) (.tmp 43) 22 5 (.int .u8 0) 1 rfl Try.underlying22 infoU8 rfl (by decide) (by omega) (.slice A' (headC o n x d 3).length c') (headC o n x d 3) d A d.length c (fun _ => True) (fun _ => False) rfl rfl HR.out (Kd.C_below HC.out HB.out) (fun x cs h => h) (fun _ hk => hk.elim) (fun _ _ => trivial) HB.out HB.out.size (by omega) ?_
        intro v6 w6 ho hb _ _
        obtain ⟨A6, c6, rfl⟩ := Kd.R_slice ho
        have HO6 := Aside0.mk ho
        have HB6 := Aside0.mk hb
        have hlen : (headC o n x d 3 ++ d).length = 10 + d.length := by rw [List.length_append, hl3]
        have HLEN := Aside0.mk hlen
        have ho7 := ho
        rw [hlen] at ho7 ⊢
        clear ho hb hl3 q3 hlen
        go_wp2_with ((with_reducible refine gate_builtin (b := .append) (xs := #[.tmp 45, .tmp 48]) rfl ?_); at_builtin; refine Hid.out ?_)
        refine Lib.hid ?_
        have HO7 := Aside0.mk ho7
        clear ho7
        refine Kd.R_append_zeros (Kd.int .u8) (w0 := w) w.heap.size rfl (.tmp 45) (.tmp 48) 22 3 5 (.int .u8 0) 1 rfl Try.underlying22 Try.underlying3 infoU8 rfl (by decide) (by omega) (.slice A6 (10 + d.length) c6) (headC o n x d 3 ++ d) 0 (kx := .i64) (252 - (10 + (d.length : Int))) (fun _ => True) rfl rfl rfl (fun _ _ => trivial) HO7.out (by omega) HB6.out HB6.out.size (by rw [HLEN.out]; omega) ?_
        intro v7 w7 ho hb _ _
        rw [show (252 - (10 + (d.length : Int))).toNat = 242 - d.length by omega] at ho
        have HO8 := Aside0.mk (show Kd.R (Kd.int .u8) 5 w7 w.heap.size (fun _ => True) v7 (bodyC o n x d) from ho)
        have HB7 := Aside0.mk hb
        clear ho hb
        obtain ⟨A7, c7, rfl⟩ := Kd.R_slice HO8.out
        have hbl := bodyC_len o n x d d2
        have HBL := Aside0.mk hbl
        have hcap := (Kd.R_reads' HO8.out).2.1
        go_wp2_with fail
        have hsl := seal_any A7 c7 (bodyC o n x d) w7 (row_at HO8.out) (bodyC_byte o n x d HBY.out) (by omega)
        rw [HBL.out] at hsl
        refine hsl.mono ?_
        clear hsl
        rintro e w8 ⟨v8, rfl, hr8, b8⟩
        have HR8 := Aside0.mk (Kd.R_lower hr8 HB7.out.size)
        have HB8 := Aside0.mk (HB7.out.trans (b8.mono HB7.out.size))
        clear hr8 b8 hbl hcap
        go_wp2_with fail
        go_ret2
        exact ⟨_, by rw [HQ.out]; rfl, by rw [HQ.out]; exact HR8.out, HB8.out⟩
end Cell
end Go.Proofs.Ytkfbegmfepehiaa
namespace Go.Proofs.Ytkfbegmfepehiaa
set_option linter.unusedVariables false
set_option linter.unusedSimpArgs false
open Go.RowKit Go.Proofs.YtkfbegmfepehiaaW.PrintWords Go.Proofs.YtkfbegmfepehiaaW.PrintLast Go.Proofs.YtkfbegmfepehiaaW.PrintMore
namespace Cell
open Go.Num Go.Crc PCellGets

structure Cel where
  o : Int
  n : Int
  x : Int
  d : List Int
def zeroC : Cel := ⟨0, 0, 0, []⟩
def sizeC (own : List Int) : Int := (unfixP ((own.drop 8).take 2)).1
def rawC (own : List Int) : Cel := ⟨(unfixP (own.take 4)).1, (unfixP ((own.drop 4).take 2)).1, (unfixP ((own.drop 6).take 2)).1, (own.drop 10).take (sizeC own).toNat⟩
def okG (own : List Int) : Bool := decide (sizeC own ≤ 242) && (cellOk (rawC own).o (rawC own).n (rawC own).x (rawC own).d && decide (maxL (own.drop (10 + (sizeC own).toNat)) = 0))
def getP (l : List Int) : Cel × Int := if l.length ≠ 256 then (zeroC, 11) else if (openP l).2 ≠ 0 then (zeroC, (openP l).2) else if okG (openP l).1 = true then (rawC (openP l).1, 0) else (zeroC, 5)
theorem unfix2 (l : List Int) (hl : l.length = 2) (hb : ∀ x ∈ l, 0 ≤ x ∧ x ≤ 255) : unfixP l = (unB l, 0) ∧ 0 ≤ unB l ∧ unB l ≤ 65535 := by
  have h := unB_lt l hb
  rw [hl] at h
  have h2 : (256 : Int) ^ 2 = 65536 := by decide
  rw [h2] at h
  refine ⟨?_, h.1, by omega⟩
  unfold unfixP
  rw [if_neg (by omega), if_neg (by omega)]
theorem take_byte {l : List Int} (hb : ∀ x ∈ l, 0 ≤ x ∧ x ≤ 255) (i k : Nat) : ∀ x ∈ (l.drop i).take k, 0 ≤ x ∧ x ≤ 255 := fun x hx => hb x (List.mem_of_mem_drop (List.mem_of_mem_take hx))
theorem open_err (l : List Int) : (openP l).2 = 0 ∨ (openP l).2 = 12 := by
  unfold openP
  split
  · exact .inr rfl
  · exact .inl rfl
theorem open_len (l : List Int) (h : (openP l).2 = 0) : (openP l).1 = l.take (l.length - 4) ∧ 4 ≤ l.length := by
  unfold openP at *
  split at h
  · cases h
  · rename_i hn
    rw [if_neg hn]
    exact ⟨rfl, by omega⟩
theorem rowN {w : World} {b t : Nat} {x : Int} (hb : w.heap[b]? = some (.cells #[.int .u8 x] t (0, 0))) : Kd.C (Kd.int .u8) w (some ⟨b, 0, none⟩) 1 [x] := by
  refine Kd.C_of_reads (enc := fun x => Value.int .u8 x) (d := (0:Int)) (h1 := fun _ => rfl) ⟨rfl, by decide, fun _ => ⟨_, rfl, fun j hj => ?_⟩⟩
  obtain rfl : j = 0 := by omega
  have : (⟨b, 0, none⟩ : Addr).add 0 = ⟨b, 0, none⟩ := by unfold Addr.add; simp
  rw [this, cell_blk hb]
  rfl

theorem four_set {w : World} {b t : Nat} {a0 a1 a2 a3 : Value} (h : w.heap[b]? = some (.cells #[a0, a1, a2, a3] t (0, 0))) (v0 v1 v2 v3 : Value) : ((((w.setCell ⟨b, 0, none⟩ v0).setCell ⟨b, 1, none⟩ v1).setCell ⟨b, 2, none⟩ v2).setCell ⟨b, 3, none⟩ v3).heap[b]? = some (.cells #[v0, v1, v2, v3] t (0, 0)) := by
  have := blk_set (blk_set (blk_set (blk_set h 0 v0) 1 v1) 2 v2) 3 v3
  rw [this]
  rfl
theorem four_below {w0 w : World} {base b : Nat} (h : Below base w0 w) (hb : base ≤ b) (v0 v1 v2 v3 : Value) : Below base w0 ((((w.setCell ⟨b, 0, none⟩ v0).setCell ⟨b, 1, none⟩ v1).setCell ⟨b, 2, none⟩ v2).setCell ⟨b, 3, none⟩ v3) :=
  (((h.setCell hb v0).setCell hb v1).setCell hb v2).setCell hb v3
theorem unfix_any {w : World} (A : Option Addr) (c : Nat) (l : List Int) (hC : Kd.C (Kd.int .u8) w A l.length l) (hc : l.length ≤ c) (hb : ∀ x ∈ l, 0 ≤ x ∧ x ≤ 255) :
    Calls Try.prog 42 #[.slice A l.length c] w fun e w' => e = .returned (.tuple #[.int .i64 (unfixP l).1, .int .i64 (unfixP l).2]) ∧ Below w.heap.size w w' :=
  (num_Unfix.calls 7 A c l _ _ w hC hc (unfix_plain 0 l hb)).mono (fun _ _ h => ⟨h.1, h.2.below⟩)
theorem R_bnd {w : World} {base t : Nat} {ok : Nat → Prop} {v : Value} {xs : List Int} (h : Kd.R (Kd.int .u8) t w base ok v xs) : Kd.R (Kd.int .u8) t w base (fun k => base ≤ k) v xs := Kd.R_mono (Kd.R_bound h) (fun k hk => hk.2.1)
theorem R_only {w w' : World} {cb base t : Nat} {ok : Nat → Prop} {v : Value} {xs : List Int} (h : Kd.R (Kd.int .u8) t w base ok v xs) (f : Only cb w w') (hb : cb < base) : Kd.R (Kd.int .u8) t w' base ok v xs :=
  Kd.R_mono (Kd.R_step (Kd.R_bound h) (fun k hk hlt => f.block k hlt (by have := hk.2.1; omega))) (fun k hk => hk.1)
theorem R_only' {w w' : World} {cb base q t : Nat} {v : Value} {xs : List Int} (h : Kd.R (Kd.int .u8) t w base (fun k => q ≤ k) v xs) (f : Only cb w w') (hb : cb < q) : Kd.R (Kd.int .u8) t w' base (fun k => q ≤ k) v xs :=
  Kd.R_step h (fun k hk hlt => f.block k hlt (by omega))
/-- What Get keeps: the result's cell, the cursor. -/
structure GS (w0 w : World) (base cb : Nat) (bs : List Int) (bad : Bool) : Prop where
  below : Below w0.heap.size w0 w
  zero : w.heap[w0.heap.size]? = some (.cells #[.int .i64 0, .int .i64 0, .int .i64 0, .slice none 0 0] 24 (0, 0))
  pc : PC w base cb bs bad
  far : w0.heap.size < cb
  cur : cb < w.heap.size
theorem GS.only {w0 w w' : World} {base cb : Nat} {bs bs' : List Int} {bad bad' : Bool} (h : GS w0 w base cb bs bad) (f : Only cb w w') (p : PC w' base cb bs' bad') : GS w0 w' base cb bs' bad' :=
  ⟨h.below.trans (f.below (by have := h.far; omega) h.below.size), (f.block _ (blk_lt h.zero) (by have := h.far; omega)).trans h.zero, p, h.far, Nat.lt_of_lt_of_le h.cur f.size⟩
theorem Only.trans' {b : Nat} {x y z : World} (h : Only b x y) (k : Below x.heap.size y z) : Only b x z :=
  ⟨k.os.trans h.os, k.tape.trans h.tape, k.output.trans h.output, Nat.le_trans h.size k.size, fun q hq hn => (k.block q hq).trans (h.block q hq hn)⟩
theorem GS.end_ {w0 w w' : World} {base cb : Nat} {bs : List Int} {bad : Bool} (h : GS w0 w base cb bs bad) (f : Only cb w w') : Below w0.heap.size w0 w' ∧ w'.heap[w0.heap.size]? = some (.cells #[.int .i64 0, .int .i64 0, .int .i64 0, .slice none 0 0] 24 (0, 0)) :=
  ⟨h.below.trans (f.below (by have := h.far; omega) h.below.size), (f.block _ (blk_lt h.zero) (by have := h.far; omega)).trans h.zero⟩
theorem GS.step {w0 w w' : World} {base cb : Nat} {bs : List Int} {bad : Bool} (h : GS w0 w base cb bs bad) (f : Below w.heap.size w w') : GS w0 w' base cb bs bad :=
  ⟨h.below.trans (f.mono h.below.size), (f.block _ (blk_lt h.zero)).trans h.zero, h.pc.only (b := 0) f, h.far, Nat.lt_of_lt_of_le h.cur f.size⟩
theorem PC.lt {w : World} {base cb : Nat} {bs : List Int} {bad : Bool} (h : PC w base cb bs bad) : cb < w.heap.size ∧ base ≤ cb := by
  unfold PC at h
  cases bad with
  | true => exact ⟨blk_lt h.2.2, h.1⟩
  | false => obtain ⟨_, _, _, _, _, h⟩ := h; exact ⟨blk_lt h.cells, h.cbase⟩

set_option maxHeartbeats 16000000 in
set_option maxRecDepth 100000 in
theorem get_no {w : World} (A : Option Addr) (c : Nat) (l : List Int) (hC : Kd.C (Kd.int .u8) w A l.length l) (hb : ∀ y ∈ l, 0 ≤ y ∧ y ≤ 255) (hc : l.length ≤ c) (hl : l.length ≤ 200000) (hno : l.length ≠ 256 ∨ (openP l).2 ≠ 0) :
    Calls Try.prog 13 #[.slice A l.length c] w fun e w' => e = .returned (.tuple #[.agg #[.int .i64 0, .int .i64 0, .int .i64 0, .slice none 0 0], .int .i64 (getP l).2]) ∧ Below w.heap.size w w' := by
  have HC := Aside0.mk hC
  have HBY := Aside0.mk hb
  clear hC hb
  obtain ⟨r, hr⟩ : ∃ r, r = (getP l).2 := ⟨_, rfl⟩
  rw [← hr]
  by_cases h256 : l.length ≠ 256
  · have HQ := Aside0.mk (show r = 11 by rw [hr]; unfold getP; rw [if_pos h256])
    have hne : ((l.length : Int) != 256) = true := by simp; omega
    clear hr hno
    go_enter Try.func13, Try.ntmps13
    go_wp2_with fail
    refine bodyPost_ret (results_ct rfl _ _ w.heap.size 24 #[.int .i64 0, .int .i64 0, .int .i64 0, .slice none 0 0] (0, 0) _ rfl (heap_alloc_new w _) Try.underlying24 rfl (by kernel_rfl)) rfl ?_
    exact ⟨by rw [HQ.out]; rfl, (Below.refl _ _).alloc (Nat.le_refl _) _⟩
  · have h2 : l.length = 256 := by omega
    have h12 : (openP l).2 = 12 := by
      rcases open_err l with h | h
      · rcases hno with hn | hn
        · exact absurd h2 hn
        · exact absurd h hn
      · exact h
    have HQ := Aside0.mk (show r = 12 by rw [hr]; unfold getP; rw [if_neg h256, if_pos (by rw [h12]; decide), h12])
    have HL := Aside0.mk h2
    have H12 := Aside0.mk h12
    rw [h2] at hc hl ⊢
    clear hr hno h256 h2 h12
    go_enter Try.func13, Try.ntmps13
    go_wp2_with fail
    obtain ⟨W, hW⟩ : ∃ W, W = w.alloc (.cells #[.int .i64 0, .int .i64 0, .int .i64 0, .slice none 0 0] 24) := ⟨_, rfl⟩
    have HB0 := Aside0.mk (show Below w.heap.size w W by rw [hW]; exact (Below.refl _ _).alloc (Nat.le_refl _) _)
    have HBX := Aside0.mk (show W.heap[w.heap.size]? = some (.cells #[.int .i64 0, .int .i64 0, .int .i64 0, .slice none 0 0] 24 (0, 0)) by rw [hW]; exact heap_alloc_new w _)
    rw [← hW]
    clear hW
    have hop := open_any A c l W (Kd.C_below HC.out HB0.out) HBY.out (by rw [HL.out]; omega) (by rw [HL.out]; omega)
    rw [HL.out, H12.out] at hop
    refine hop.mono ?_
    clear hop
    rintro e w1 ⟨v1, rfl, _, b1⟩
    have hbx := (b1.block _ (blk_lt HBX.out)).trans HBX.out
    have HB1 := Aside0.mk (HB0.out.trans (b1.mono HB0.out.size))
    have HX1 := Aside0.mk hbx
    have c0 : w1.cell? ⟨w.heap.size, 0, none⟩ = some (.int .i64 0) := cell_blk hbx
    have c1 : w1.cell? ⟨w.heap.size, 1, none⟩ = some (.int .i64 0) := cell_blk hbx
    have c2 : w1.cell? ⟨w.heap.size, 2, none⟩ = some (.int .i64 0) := cell_blk hbx
    have c3 : w1.cell? ⟨w.heap.size, 3, none⟩ = some (.slice none 0 0) := cell_blk hbx
    have f0 : w1.frozen? ⟨w.heap.size, 0, none⟩ = false := frozen_blk hbx
    have f1 : w1.frozen? ⟨w.heap.size, 1, none⟩ = false := frozen_blk hbx
    have f2 : w1.frozen? ⟨w.heap.size, 2, none⟩ = false := frozen_blk hbx
    have f3 : w1.frozen? ⟨w.heap.size, 3, none⟩ = false := frozen_blk hbx
    clear b1 hbx
    go_wp2_with fail
    refine bodyPost_ret (results_ct rfl _ _ w.heap.size 24 #[.int .i64 0, .int .i64 0, .int .i64 0, .slice none 0 0] (0, 0) _ rfl (four_set HX1.out _ _ _ _) Try.underlying24 rfl (by kernel_rfl)) rfl ?_
    exact ⟨by rw [HQ.out]; rfl, four_below HB1.out (Nat.le_refl _) _ _ _ _⟩

set_option maxHeartbeats 16000000 in
set_option maxRecDepth 100000 in
theorem get_yes {w : World} (A : Option Addr) (c : Nat) (l : List Int) (hC : Kd.C (Kd.int .u8) w A l.length l) (hb : ∀ y ∈ l, 0 ≤ y ∧ y ≤ 255) (hc : l.length ≤ c) (h256 : l.length = 256) (h0 : (openP l).2 = 0) :
    Calls Try.prog 13 #[.slice A l.length c] w fun e w' => ∃ v, e = .returned (.tuple #[.agg #[.int .i64 (getP l).1.o, .int .i64 (getP l).1.n, .int .i64 (getP l).1.x, v], .int .i64 (getP l).2]) ∧ Kd.R (Kd.int .u8) 5 w' w.heap.size (fun _ => True) v (getP l).1.d ∧ Below w.heap.size w w' := by
  have HC := Aside0.mk hC
  have HBY := Aside0.mk hb
  have HL := Aside0.mk h256
  have H0 := Aside0.mk h0
  obtain ⟨ho1, _⟩ := open_len l h0
  obtain ⟨own, hown⟩ : ∃ own, own = (openP l).1 := ⟨_, rfl⟩
  have hlo : own.length = 252 := by rw [hown, ho1, List.length_take, h256]; omega
  have hob : ∀ y ∈ own, 0 ≤ y ∧ y ≤ 255 := fun y hy => hb y (by rw [hown, ho1] at hy; exact List.mem_of_mem_take hy)
  have HLO := Aside0.mk hlo
  have HOB := Aside0.mk hob
  obtain ⟨r, hr⟩ : ∃ r, r = getP l := ⟨_, rfl⟩
  rw [← hr]
  have HQ := Aside0.mk (show r = if okG own = true then (rawC own, 0) else (zeroC, 5) by rw [hr, hown]; unfold getP; rw [if_neg (by omega), if_neg (by omega)])
  have HOWN := Aside0.mk hown
  obtain ⟨o, ho⟩ : ∃ o, o = (unfixP (own.take 4)).1 := ⟨_, rfl⟩
  obtain ⟨n, hn⟩ : ∃ o, o = (unfixP ((own.drop 4).take 2)).1 := ⟨_, rfl⟩
  obtain ⟨x, hx⟩ : ∃ o, o = (unfixP ((own.drop 6).take 2)).1 := ⟨_, rfl⟩
  have hsz := unfix2 ((own.drop 8).take 2) (by rw [List.length_take, List.length_drop, hlo]; omega) (take_byte hob 8 2)
  obtain ⟨sn, hs⟩ : ∃ sn : Nat, (sn : Int) = (unfixP ((own.drop 8).take 2)).1 := ⟨(unB ((own.drop 8).take 2)).toNat, by rw [hsz.1]; omega⟩
  have hs6 : sn ≤ 65535 := by rw [hsz.1] at hs; omega
  have Ho := Aside0.mk ho
  have Hn := Aside0.mk hn
  have Hx := Aside0.mk hx
  have Hs := Aside0.mk hs
  have HS6 := Aside0.mk hs6
  have HSZ := Aside0.mk (show sizeC own = (sn : Int) from hs.symm)
  have HRAW := Aside0.mk (show rawC own = ⟨o, n, x, (own.drop 10).take sn⟩ by unfold rawC; rw [← ho, ← hn, ← hx, show sizeC own = (sn : Int) from hs.symm, Int.toNat_natCast])
  clear hC hb h0 ho1 hown hlo hob hr ho hn hx hsz hs hs6
  rw [h256] at hc ⊢
  clear h256
  go_enter Try.func13, Try.ntmps13
  go_wp2_with fail
  obtain ⟨W, hW⟩ : ∃ W, W = w.alloc (.cells #[.int .i64 0, .int .i64 0, .int .i64 0, .slice none 0 0] 24) := ⟨_, rfl⟩
  have HB0 := Aside0.mk (show Below w.heap.size w W by rw [hW]; exact (Below.refl _ _).alloc (Nat.le_refl _) _)
  have HBX := Aside0.mk (show W.heap[w.heap.size]? = some (.cells #[.int .i64 0, .int .i64 0, .int .i64 0, .slice none 0 0] 24 (0, 0)) by rw [hW]; exact heap_alloc_new w _)
  rw [← hW]
  clear hW
  have hop := open_any A c l W (Kd.C_below HC.out HB0.out) HBY.out (by rw [HL.out]; omega) (by rw [HL.out]; omega)
  rw [HL.out, H0.out, ← HOWN.out] at hop
  refine hop.mono ?_
  clear hop
  rintro e w1 ⟨v1, rfl, hr1, b1⟩
  obtain ⟨_, ho1⟩ := Kd.own_of_R hr1
  rcases ho1 with ⟨_, hz⟩ | ⟨g, cap, cur, rfl, _⟩
  · have := HLO.out; rw [hz] at this; cases this
  have HX1 := Aside0.mk ((b1.block _ (blk_lt HBX.out)).trans HBX.out)
  have HB1 := Aside0.mk (HB0.out.trans (b1.mono HB0.out.size))
  have HR1 := Aside0.mk (row_at hr1)
  clear hr1 b1
  rw [HLO.out]
  go_wp2_with fail
  have hf := from_any ⟨g, 0, none⟩ cap own HR1.out (by rw [HLO.out]; omega)
  rw [HLO.out] at hf
  refine hf.mono ?_
  clear hf
  rintro e w2 ⟨cb, rfl, hp, b2⟩
  have HG := Aside0.mk (show GS w w2 w1.heap.size cb own false from ⟨HB1.out.trans (b2.mono HB1.out.size), (b2.block _ (blk_lt HX1.out)).trans HX1.out, hp, by have := hp.lt.2; have := blk_lt HX1.out; omega, hp.lt.1⟩)
  clear hp b2 HX1 HR1
  go_wp2_with fail
  have ht := take_yes HG.out.pc 4 (by rw [show own.length = 252 by exact HLO.out]; omega)
  rw [show ((4 : Nat) : Int) = 4 from rfl] at ht
  refine ht.mono ?_
  clear ht
  rintro e w3a ⟨v3, rfl, hr, hp, ho⟩
  obtain ⟨A3, c3, rfl⟩ := Kd.R_slice hr
  have htl : (own.take 4).length = 4 := by rw [List.length_take, show own.length = 252 by exact HLO.out]; omega
  have HC3 := Aside0.mk (row_at hr)
  have HT3 := Aside0.mk htl
  have HM3 := Aside0.mk (Kd.R_reads' hr).2.1
  have hg := HG.out.only ho hp
  
  clear HG hp ho hr
  have HG := Aside0.mk hg
  clear hg
  rw [htl]
  clear htl
  go_wp2_with fail
  have hu := unfix_any A3 c3 (own.take 4) HC3.out HM3.out (fun x hx => HOB.out x (List.mem_of_mem_take hx))
  rw [HT3.out, ← Ho.out] at hu
  obtain ⟨q3, hq⟩ : ∃ q, q = (unfixP (own.take 4)).2 := ⟨_, rfl⟩
  rw [← hq] at hu
  refine hu.mono ?_
  clear hu hq HC3 HT3 HM3
  rintro e w3 ⟨rfl, b⟩
  have hg := HG.out.step b
  clear HG b
  have HG := Aside0.mk hg
  clear hg
  go_wp2_with fail
  have ht := take_yes HG.out.pc 2 (by rw [show (own.drop 4).length = 248 by rw [List.length_drop, HLO.out]]; omega)
  rw [show ((2 : Nat) : Int) = 2 from rfl] at ht
  refine ht.mono ?_
  clear ht
  rintro e w4a ⟨v4, rfl, hr, hp, ho⟩
  obtain ⟨A4, c4, rfl⟩ := Kd.R_slice hr
  have htl : ((own.drop 4).take 2).length = 2 := by rw [List.length_take, show (own.drop 4).length = 248 by rw [List.length_drop, HLO.out]]; omega
  have HC4 := Aside0.mk (row_at hr)
  have HT4 := Aside0.mk htl
  have HM4 := Aside0.mk (Kd.R_reads' hr).2.1
  have hg := HG.out.only ho hp
  rw [List.drop_drop] at hg
  clear HG hp ho hr
  have HG := Aside0.mk hg
  clear hg
  rw [htl]
  clear htl
  go_wp2_with fail
  have hu := unfix_any A4 c4 ((own.drop 4).take 2) HC4.out HM4.out (take_byte HOB.out 4 2)
  rw [HT4.out, ← Hn.out] at hu
  obtain ⟨q4, hq⟩ : ∃ q, q = (unfixP ((own.drop 4).take 2)).2 := ⟨_, rfl⟩
  rw [← hq] at hu
  refine hu.mono ?_
  clear hu hq HC4 HT4 HM4
  rintro e w4 ⟨rfl, b⟩
  have hg := HG.out.step b
  clear HG b
  have HG := Aside0.mk hg
  clear hg
  go_wp2_with fail
  have ht := take_yes HG.out.pc 2 (by rw [show (own.drop 6).length = 246 by rw [List.length_drop, HLO.out]]; omega)
  rw [show ((2 : Nat) : Int) = 2 from rfl] at ht
  refine ht.mono ?_
  clear ht
  rintro e w5a ⟨v5, rfl, hr, hp, ho⟩
  obtain ⟨A5, c5, rfl⟩ := Kd.R_slice hr
  have htl : ((own.drop 6).take 2).length = 2 := by rw [List.length_take, show (own.drop 6).length = 246 by rw [List.length_drop, HLO.out]]; omega
  have HC5 := Aside0.mk (row_at hr)
  have HT5 := Aside0.mk htl
  have HM5 := Aside0.mk (Kd.R_reads' hr).2.1
  have hg := HG.out.only ho hp
  rw [List.drop_drop] at hg
  clear HG hp ho hr
  have HG := Aside0.mk hg
  clear hg
  rw [htl]
  clear htl
  go_wp2_with fail
  have hu := unfix_any A5 c5 ((own.drop 6).take 2) HC5.out HM5.out (take_byte HOB.out 6 2)
  rw [HT5.out, ← Hx.out] at hu
  obtain ⟨q5, hq⟩ : ∃ q, q = (unfixP ((own.drop 6).take 2)).2 := ⟨_, rfl⟩
  rw [← hq] at hu
  refine hu.mono ?_
  clear hu hq HC5 HT5 HM5
  rintro e w5 ⟨rfl, b⟩
  have hg := HG.out.step b
  clear HG b
  have HG := Aside0.mk hg
  clear hg
  go_wp2_with fail
  have ht := take_yes HG.out.pc 2 (by rw [show (own.drop 8).length = 244 by rw [List.length_drop, HLO.out]]; omega)
  rw [show ((2 : Nat) : Int) = 2 from rfl] at ht
  refine ht.mono ?_
  clear ht
  rintro e w6a ⟨v6, rfl, hr, hp, ho⟩
  obtain ⟨A6, c6, rfl⟩ := Kd.R_slice hr
  have htl : ((own.drop 8).take 2).length = 2 := by rw [List.length_take, show (own.drop 8).length = 244 by rw [List.length_drop, HLO.out]]; omega
  have HC6 := Aside0.mk (row_at hr)
  have HT6 := Aside0.mk htl
  have HM6 := Aside0.mk (Kd.R_reads' hr).2.1
  have hg := HG.out.only ho hp
  rw [List.drop_drop] at hg
  clear HG hp ho hr
  have HG := Aside0.mk hg
  clear hg
  rw [htl]
  clear htl
  go_wp2_with fail
  have hu := unfix_any A6 c6 ((own.drop 8).take 2) HC6.out HM6.out (take_byte HOB.out 8 2)
  rw [HT6.out, ← Hs.out] at hu
  obtain ⟨q6, hq⟩ : ∃ q, q = (unfixP ((own.drop 8).take 2)).2 := ⟨_, rfl⟩
  rw [← hq] at hu
  refine hu.mono ?_
  clear hu hq HC6 HT6 HM6
  rintro e w6 ⟨rfl, b⟩
  have hg := HG.out.step b
  clear HG b
  have HG := Aside0.mk hg
  clear hg
  go_wp2_with fail
  by_cases hk : sn ≤ 242
  · have HK := Aside0.mk hk
    obtain ⟨d, hd⟩ : ∃ d, d = (own.drop 10).take sn := ⟨_, rfl⟩
    obtain ⟨rs, hrs⟩ : ∃ rs, rs = (own.drop 10).drop sn := ⟨_, rfl⟩
    have hdl : d.length = sn := by rw [hd, List.length_take, List.length_drop, HLO.out]; omega
    have HDL := Aside0.mk hdl
    have HD := Aside0.mk hd
    have HRS := Aside0.mk hrs
    have ht := take_yes (show PC w6 w1.heap.size cb (own.drop 10) false from HG.out.pc) sn (by rw [List.length_drop, HLO.out]; omega)
    rw [← hd, ← hrs] at ht
    clear hd hrs hk hdl
    refine ht.mono ?_
    clear ht
    rintro e w7 ⟨v7, rfl, hr, hp, ho⟩
    have HC6 := Aside0.mk HG.out.cur
    have HR7 := Aside0.mk (Kd.R_lower (base' := w1.heap.size) (R_bnd hr) (by have := HG.out.pc.lt; omega))
    have hg := HG.out.only ho hp
    clear HG hp ho hr
    have HG := Aside0.mk hg
    clear hg
    obtain ⟨A7, c7, rfl⟩ := Kd.R_slice HR7.out
    go_wp2_with fail
    obtain ⟨w8, hw8⟩ : ∃ w8, w8 = w7.alloc (.cells #[.int .i64 o, .int .i64 n, .int .i64 x, .slice A7 d.length c7] 24) := ⟨_, rfl⟩
    have hb8 : Below w7.heap.size w7 w8 := by rw [hw8]; exact (Below.refl _ _).alloc (Nat.le_refl _) _
    have hx8 : w8.heap[w7.heap.size]? = some (.cells #[.int .i64 o, .int .i64 n, .int .i64 x, .slice A7 d.length c7] 24 (0, 0)) := by rw [hw8]; exact heap_alloc_new w7 _
    have hcx := HG.out.cur
    rw [← hw8]
    obtain ⟨xb, hxb⟩ : ∃ xb, xb = w7.heap.size := ⟨_, rfl⟩
    rw [← hxb] at hx8 hcx ⊢
    have HXB := Aside0.mk hx8
    have HCX := Aside0.mk hcx
    have HR8 := Aside0.mk (Kd.R_below HR7.out hb8)
    have hg := HG.out.step hb8
    clear HG hb8 hx8 hcx hw8 hxb
    have HG := Aside0.mk hg
    clear hg
    refine (bad_any HG.out.pc).mono ?_
    rintro e w8' ⟨rfl, hw8'⟩
    obtain rfl : w8' = w8 := hw8'
    have c0 : w8'.cell? ⟨xb, 0, none⟩ = some (.int .i64 o) := cell_blk HXB.out
    have c1 : w8'.cell? ⟨xb, 1, none⟩ = some (.int .i64 n) := cell_blk HXB.out
    have c2 : w8'.cell? ⟨xb, 2, none⟩ = some (.int .i64 x) := cell_blk HXB.out
    have c3 : w8'.cell? ⟨xb, 3, none⟩ = some (.slice A7 d.length c7) := cell_blk HXB.out
    go_wp2_with fail
    have hm := cell_may.calls o n x A7 c7 d (cellOk o n x d) w8' (row_at HR8.out) (Kd.R_reads' HR8.out).2.1 (may_plain o n x d)
    by_cases hok : cellOk o n x d = true
    · rw [hok] at hm
      refine hm.mono ?_
      clear hm c0 c1 c2 c3
      rintro e w9 ⟨rfl, b9⟩
      have HOK := Aside0.mk hok
      have HX9 := Aside0.mk ((b9.block _ (blk_lt HXB.out)).trans HXB.out)
      have HR9 := Aside0.mk (Kd.R_below HR8.out b9)
      have hg := HG.out.step b9
      clear HG b9 hok HXB HR8 HR7
      have HG := Aside0.mk hg
      clear hg
      go_wp2_with fail
      refine (left_any HG.out.pc).mono ?_
      rintro e w9' ⟨rfl, hw9'⟩
      obtain rfl : w9' = w9 := hw9'
      go_wp2_with fail
      refine (take_yes HG.out.pc rs.length (Nat.le_refl _)).mono ?_
      rintro e w10 ⟨v10, rfl, hr, hp, ho⟩
      rw [List.take_length] at hr
      have HO10 := Aside0.mk ho
      have HV10 := Aside0.mk hr
      clear hr hp ho
      obtain ⟨A10, c10, rfl⟩ := Kd.R_slice HV10.out
      go_wp2_with ((with_reducible refine gate_builtin (b := .append) (xs := #[.tmp 73, .tmp 74]) rfl ?_); at_builtin; refine Hid.out ?_)
      refine Lib.hid ?_
      obtain ⟨w11, hw11⟩ : ∃ w11, w11 = w10.alloc (.cells #[.int .u8 0] 5) := ⟨_, rfl⟩
      have hb11 : Below w10.heap.size w10 w11 := by rw [hw11]; exact (Below.refl _ _).alloc (Nat.le_refl _) _
      have hn11 : w11.heap[w10.heap.size]? = some (.cells #[.int .u8 0] 5 (0, 0)) := by rw [hw11]; exact heap_alloc_new w10 _
      rw [← hw11]
      clear hw11
      have HO11 := Aside0.mk (HO10.out.trans (Only.of_below hb11))
      have HV11 := Aside0.mk (Kd.R_below HV10.out hb11)
      have HN11 := Aside0.mk (rowN hn11)
      clear HO10 HV10 hb11 hn11
      have HRL := Aside0.mk (show rs.length ≤ 252 by rw [HRS.out, List.length_drop, List.length_drop, HLO.out]; omega)
      have HRB := Aside0.mk (show ∀ y ∈ rs ++ [0], 0 ≤ y ∧ y ≤ 255 from fun y hy => by
        rcases List.mem_append.1 hy with h | h
        · exact HOB.out y (by rw [HRS.out] at h; exact List.mem_of_mem_drop (List.mem_of_mem_drop h))
        · rw [List.mem_singleton.1 h]; omega)
      refine wpList_step (fun K' hK => ?_)
      refine Kd.R_append_rows_step (Kd.int .u8) (Rr := (Kd.int .u8).K w11) (w0 := w11) w9'.heap.size (by rfl) (.tmp 73) (.tmp 74) 22 5 (.int .u8 0) 1 rfl Try.underlying22 infoU8 rfl (by decide) (by omega) (.slice A10 rs.length c10) rs [0] _ _ _ (fun _ => True) (fun _ => False) rfl rfl HV11.out HN11.out (fun x cs h => h) (fun _ hk => hk.elim) (fun _ _ => trivial) (Below.refl _ _) HO11.out.size (by have := HRL.out; omega) ?_
      intro v12 w12 hr12 hb12 _ _
      refine hK _ _ ?_
      clear hK K'
      have HO12 := Aside0.mk (show Only cb w9' w12 from HO11.out.trans' hb12)
      have HV12 := Aside0.mk hr12
      obtain ⟨A12, c12, rfl⟩ := Kd.R_slice hr12
      clear hr12 hb12 HO11 HV11 HN11
      have hln : (rs ++ [0]).length = rs.length + 1 := by rw [List.length_append]; rfl
      have hmx := max_any A12 c12 (rs ++ [0]) (row_at HV12.out) HRB.out (by rw [hln]; omega) (by rw [hln]; have := HRL.out; omega)
      obtain ⟨ln, hlnn⟩ : ∃ ln, ln = (rs ++ [0]).length := ⟨_, rfl⟩
      obtain ⟨m, hm⟩ : ∃ m, m = maxL (rs ++ [0]) := ⟨_, rfl⟩
      have hmr := maxL_range (rs ++ [0]) HRB.out
      rw [← hlnn, ← hm] at hmx
      rw [← hm] at hmr
      rw [← hlnn]
      have HM := Aside0.mk (show m = maxL (own.drop (10 + sn)) by
        rw [hm, maxL_snoc _ _ (by omega), HRS.out, List.drop_drop]
        have := (maxL_range (own.drop (10 + sn)) (fun y hy => HOB.out y (List.mem_of_mem_drop hy))).1
        first
        | (rw [Nat.add_comm sn 10]; omega)
        | omega)
      have HX12 := Aside0.mk ((HO12.out.block _ (blk_lt HX9.out) (by have := HCX.out; omega)).trans HX9.out)
      have HR12 := Aside0.mk (R_only' HR9.out HO12.out HC6.out)
      have HBW := Aside0.mk (HG.out.end_ HO12.out).1
      have HZ := Aside0.mk (HG.out.end_ HO12.out).2
      clear hm hln hlnn HX9 HR9 HV12
      by_cases h0 : m = 0
      · subst h0
        go_wp2_with fail
        refine hmx.mono ?_
        clear hmx
        rintro e w13 ⟨rfl, hw13⟩
        obtain rfl : w13 = w12 := hw13
        have z0 : w13.cell? ⟨w.heap.size, 0, none⟩ = some (.int .i64 0) := cell_blk HZ.out
        have z1 : w13.cell? ⟨w.heap.size, 1, none⟩ = some (.int .i64 0) := cell_blk HZ.out
        have z2 : w13.cell? ⟨w.heap.size, 2, none⟩ = some (.int .i64 0) := cell_blk HZ.out
        have z3 : w13.cell? ⟨w.heap.size, 3, none⟩ = some (.slice none 0 0) := cell_blk HZ.out
        have f0 : w13.frozen? ⟨w.heap.size, 0, none⟩ = false := frozen_blk HZ.out
        have f1 : w13.frozen? ⟨w.heap.size, 1, none⟩ = false := frozen_blk HZ.out
        have f2 : w13.frozen? ⟨w.heap.size, 2, none⟩ = false := frozen_blk HZ.out
        have f3 : w13.frozen? ⟨w.heap.size, 3, none⟩ = false := frozen_blk HZ.out
        have x0 : w13.cell? ⟨xb, 0, none⟩ = some (.int .i64 o) := cell_blk HX12.out
        have x1 : w13.cell? ⟨xb, 1, none⟩ = some (.int .i64 n) := cell_blk HX12.out
        have x2 : w13.cell? ⟨xb, 2, none⟩ = some (.int .i64 x) := cell_blk HX12.out
        have x3 : w13.cell? ⟨xb, 3, none⟩ = some (.slice A7 d.length c7) := cell_blk HX12.out
        go_wp2_with fail
        refine bodyPost_ret (results_ct rfl _ _ w.heap.size 24 #[.int .i64 o, .int .i64 n, .int .i64 x, .slice A7 d.length c7] (0, 0) _ rfl (four_set HZ.out _ _ _ _) Try.underlying24 rfl (by kernel_rfl)) rfl ?_
        have hr5 : r = (⟨o, n, x, d⟩, 0) := by
          rw [HQ.out, if_pos]
          · rw [HRAW.out, HD.out]
          · unfold okG
            rw [HRAW.out, HSZ.out, ← HD.out, HOK.out, Int.toNat_natCast, ← HM.out, decide_eq_true (by have := HK.out; omega)]
            rfl
        have hf : ∀ k, w6.heap.size ≤ k → k ≠ w.heap.size := fun k hk => by have := HG.out.far; have := HC6.out; omega
        exact ⟨_, by rw [hr5]; rfl, by rw [hr5]; exact Kd.R_mono (Kd.R_lower (Kd.R_far (p := ⟨w.heap.size, 3, none⟩) (Kd.R_far (p := ⟨w.heap.size, 2, none⟩) (Kd.R_far (p := ⟨w.heap.size, 1, none⟩) (Kd.R_far (p := ⟨w.heap.size, 0, none⟩) HR12.out hf _) hf _) hf _) hf _) HB1.out.size) (fun _ _ => trivial), four_below HBW.out (Nat.le_refl _) _ _ _ _⟩
      · have hgt : 0 < m := by omega
        have hgd : decide (0 < m) = true := decide_eq_true hgt
        go_wp2_with fail
        refine hmx.mono ?_
        clear hmx
        rintro e w13 ⟨rfl, hw13⟩
        obtain rfl : w13 = w12 := hw13
        have z0 : w13.cell? ⟨w.heap.size, 0, none⟩ = some (.int .i64 0) := cell_blk HZ.out
        have z1 : w13.cell? ⟨w.heap.size, 1, none⟩ = some (.int .i64 0) := cell_blk HZ.out
        have z2 : w13.cell? ⟨w.heap.size, 2, none⟩ = some (.int .i64 0) := cell_blk HZ.out
        have z3 : w13.cell? ⟨w.heap.size, 3, none⟩ = some (.slice none 0 0) := cell_blk HZ.out
        have f0 : w13.frozen? ⟨w.heap.size, 0, none⟩ = false := frozen_blk HZ.out
        have f1 : w13.frozen? ⟨w.heap.size, 1, none⟩ = false := frozen_blk HZ.out
        have f2 : w13.frozen? ⟨w.heap.size, 2, none⟩ = false := frozen_blk HZ.out
        have f3 : w13.frozen? ⟨w.heap.size, 3, none⟩ = false := frozen_blk HZ.out
        have HR5 := Aside0.mk (show r = (zeroC, 5) by rw [HQ.out, if_neg]; unfold okG; rw [HSZ.out, Int.toNat_natCast, ← HM.out, decide_eq_false h0, Bool.and_false, Bool.and_false]; decide)
        go_wp2_with fail
        refine bodyPost_ret (results_ct rfl _ _ w.heap.size 24 #[.int .i64 0, .int .i64 0, .int .i64 0, .slice none 0 0] (0, 0) _ rfl (four_set HZ.out _ _ _ _) Try.underlying24 rfl (by kernel_rfl)) rfl ?_
        exact ⟨_, by rw [HR5.out]; rfl, by rw [HR5.out]; exact Kd.R_nil _ _ _ _ _, four_below HBW.out (Nat.le_refl _) _ _ _ _⟩
    · have hok' : cellOk o n x d = false := by simpa using hok
      rw [hok'] at hm
      refine hm.mono ?_
      clear hm c0 c1 c2 c3
      rintro e w9 ⟨rfl, b9⟩
      have HR5 := Aside0.mk (show r = (zeroC, 5) by rw [HQ.out, if_neg]; unfold okG; rw [HRAW.out, HSZ.out, ← HD.out, hok', Bool.false_and, Bool.and_false]; decide)
      have hg := HG.out.step b9
      clear HG b9 hok hok' HXB HR8 HR7
      have HG := Aside0.mk hg
      clear hg
      have hz := HG.out.zero
      have z0 : w9.cell? ⟨w.heap.size, 0, none⟩ = some (.int .i64 0) := cell_blk hz
      have z1 : w9.cell? ⟨w.heap.size, 1, none⟩ = some (.int .i64 0) := cell_blk hz
      have z2 : w9.cell? ⟨w.heap.size, 2, none⟩ = some (.int .i64 0) := cell_blk hz
      have z3 : w9.cell? ⟨w.heap.size, 3, none⟩ = some (.slice none 0 0) := cell_blk hz
      have f0 : w9.frozen? ⟨w.heap.size, 0, none⟩ = false := frozen_blk hz
      have f1 : w9.frozen? ⟨w.heap.size, 1, none⟩ = false := frozen_blk hz
      have f2 : w9.frozen? ⟨w.heap.size, 2, none⟩ = false := frozen_blk hz
      have f3 : w9.frozen? ⟨w.heap.size, 3, none⟩ = false := frozen_blk hz
      clear hz
      go_wp2_with fail
      refine bodyPost_ret (results_ct rfl _ _ w.heap.size 24 #[.int .i64 0, .int .i64 0, .int .i64 0, .slice none 0 0] (0, 0) _ rfl (four_set HG.out.zero _ _ _ _) Try.underlying24 rfl (by kernel_rfl)) rfl ?_
      exact ⟨_, by rw [HR5.out]; rfl, by rw [HR5.out]; exact Kd.R_nil _ _ _ _ _, four_below HG.out.below (Nat.le_refl _) _ _ _ _⟩
  · have ht := take_no (show PC w6 w1.heap.size cb (own.drop 10) false from HG.out.pc) (sn : Int) (by
      unfold takeOk
      rw [decide_eq_false (p := (sn : Int) ≤ ((own.drop 10).length : Int)) (by rw [List.length_drop, HLO.out]; omega), Bool.and_false, Bool.and_false])
    refine ht.mono ?_
    clear ht
    rintro e w7 ⟨rfl, hp, ho⟩
    have hg := HG.out.only ho hp
    clear HG hp ho
    have HG := Aside0.mk hg
    clear hg
    go_wp2_with fail
    obtain ⟨w8, hw8⟩ : ∃ w8, w8 = w7.alloc (.cells #[.int .i64 o, .int .i64 n, .int .i64 x, .slice none 0 0] 24) := ⟨_, rfl⟩
    have hb8 : Below w7.heap.size w7 w8 := by rw [hw8]; exact (Below.refl _ _).alloc (Nat.le_refl _) _
    rw [← hw8]
    clear hw8
    have hg := HG.out.step hb8
    clear HG hb8
    have HG := Aside0.mk hg
    clear hg
    refine (bad_any HG.out.pc).mono ?_
    rintro e w8' ⟨rfl, hw8'⟩
    obtain rfl : w8' = w8 := hw8'
    have HR5 := Aside0.mk (show r = (zeroC, 5) by rw [HQ.out, if_neg]; unfold okG; rw [HSZ.out, decide_eq_false (by omega), Bool.false_and]; decide)
    have z0 : w8'.cell? ⟨w.heap.size, 0, none⟩ = some (.int .i64 0) := cell_blk HG.out.zero
    have z1 : w8'.cell? ⟨w.heap.size, 1, none⟩ = some (.int .i64 0) := cell_blk HG.out.zero
    have z2 : w8'.cell? ⟨w.heap.size, 2, none⟩ = some (.int .i64 0) := cell_blk HG.out.zero
    have z3 : w8'.cell? ⟨w.heap.size, 3, none⟩ = some (.slice none 0 0) := cell_blk HG.out.zero
    have f0 : w8'.frozen? ⟨w.heap.size, 0, none⟩ = false := frozen_blk HG.out.zero
    have f1 : w8'.frozen? ⟨w.heap.size, 1, none⟩ = false := frozen_blk HG.out.zero
    have f2 : w8'.frozen? ⟨w.heap.size, 2, none⟩ = false := frozen_blk HG.out.zero
    have f3 : w8'.frozen? ⟨w.heap.size, 3, none⟩ = false := frozen_blk HG.out.zero
    go_wp2_with fail
    refine bodyPost_ret (results_ct rfl _ _ w.heap.size 24 #[.int .i64 0, .int .i64 0, .int .i64 0, .slice none 0 0] (0, 0) _ rfl (four_set HG.out.zero _ _ _ _) Try.underlying24 rfl (by kernel_rfl)) rfl ?_
    exact ⟨_, by rw [HR5.out]; rfl, by rw [HR5.out]; exact Kd.R_nil _ _ _ _ _, four_below HG.out.below (Nat.le_refl _) _ _ _ _⟩
end Cell
end Go.Proofs.Ytkfbegmfepehiaa
namespace Go.Proofs.Ytkfbegmfepehiaa
set_option linter.unusedVariables false
set_option linter.unusedSimpArgs false
open Go.RowKit Go.Proofs.YtkfbegmfepehiaaW.PrintWords Go.Proofs.YtkfbegmfepehiaaW.PrintLast Go.Proofs.YtkfbegmfepehiaaW.PrintMore
namespace Cell
open Go.Num Go.Crc PCellGets

theorem append_same {a b c d : List Int} (h : a ++ b = c ++ d) (hl : a.length = c.length) : a = c ∧ b = d := List.append_inj h hl
theorem open_seal (l : List Int) : openP (sealB l) = (l, 0) := by
  unfold openP
  have e : (sealB l).length - 4 = l.length := by rw [seal_len]; omega
  rw [e, if_neg]
  · unfold sealB
    rw [List.take_left]
  · rintro (h | h)
    · rw [seal_len] at h; omega
    · apply h
      unfold sealB
      rw [List.drop_left, List.take_left]
theorem open_ok (l : List Int) (h : (openP l).2 = 0) : l = sealB (openP l).1 := by
  unfold openP at *
  split at h
  · cases h
  · rename_i hn
    rw [if_neg hn]
    have h2 : l.drop (l.length - 4) = leB (Crc.sum (l.take (l.length - 4))) 4 := Classical.not_not.1 (fun e => hn (.inr e))
    show l = sealB (l.take (l.length - 4))
    unfold sealB
    rw [← h2, List.take_append_drop]
theorem seal_inj {a b : List Int} (h : sealB a = sealB b) : a = b := by
  have hl : a.length = b.length := by
    have := congrArg List.length h
    rw [seal_len, seal_len] at this
    omega
  unfold sealB at h
  exact (append_same h hl).1
theorem unfix_le (n : Int) (h0 : 0 ≤ n) (h1 : n ≤ 2147483647) (k : Nat) (hk1 : 1 ≤ k) (hk : k ≤ 4) (hs : n < 256 ^ k) : unfixP (leB n k) = (n, 0) := by
  unfold unfixP
  rw [leB_len, if_neg (by omega), unB_leB_small n k h0 hs, if_neg (by omega)]
theorem unfix_leB (l : List Int) (hb : ∀ x ∈ l, 0 ≤ x ∧ x ≤ 255) (k : Nat) (hk : l.length = k) (h2 : (unfixP l).2 = 0) : leB (unfixP l).1 k = l := by
  unfold unfixP at *
  split at h2
  · cases h2
  · rename_i h
    rw [if_neg h]
    split at h2
    · cases h2
    · rename_i h'
      rw [if_neg h', ← hk]
      exact leB_unB l hb
theorem unfix_bad (l : List Int) (h2 : (unfixP l).2 ≠ 0) : (unfixP l).1 = 0 := by
  unfold unfixP at *
  split
  · rfl
  · split
    · rfl
    · rename_i h h'
      rw [if_neg h, if_neg h'] at h2
      exact absurd rfl h2
theorem maxL_rep (k : Nat) : maxL (List.replicate k 0) = 0 := by
  induction k with
  | zero => rfl
  | succ k ih => rw [List.replicate_succ]; simp [maxL, ih]
theorem body_eq (o n x : Int) (d : List Int) : bodyC o n x d = leB o 4 ++ (leB n 2 ++ (leB x 2 ++ (leB (d.length : Int) 2 ++ (d ++ List.replicate (242 - d.length) 0)))) := by
  unfold bodyC headC
  simp
theorem cut2 {a b l : List Int} (k : Nat) (h : l = a ++ b) (hk : a.length = k) : l.take k = a ∧ l.drop k = b := by
  subst h; subst hk
  exact ⟨List.take_left, List.drop_left⟩
theorem okD {o n x : Int} {d : List Int} (h : cellOk o n x d = true) : 1 ≤ o ∧ o ≤ 2147483647 ∧ 0 ≤ n ∧ n ≤ 65535 ∧ 0 ≤ x ∧ x ≤ 65535 ∧ 1 ≤ d.length ∧ d.length ≤ 242 := by
  unfold cellOk at h
  exact of_decide_eq_true h
theorem raw_body (o n x : Int) (d : List Int) (h : cellOk o n x d = true) : rawC (bodyC o n x d) = ⟨o, n, x, d⟩ ∧ okG (bodyC o n x d) = true := by
  obtain ⟨h1, h2, h3, h4, h5, h6, h7, h8⟩ := okD h
  obtain ⟨B, hB⟩ : ∃ B, B = bodyC o n x d := ⟨_, rfl⟩
  rw [← hB]
  rw [body_eq] at hB
  have p : (256 : Int) ^ 2 = 65536 := by decide
  have p4 : (256 : Int) ^ 4 = 4294967296 := by decide
  obtain ⟨a1, b1⟩ := cut2 4 hB (leB_len _ _)
  obtain ⟨a2, b2⟩ := cut2 2 b1 (leB_len _ _)
  obtain ⟨a3, b3⟩ := cut2 2 b2 (leB_len _ _)
  obtain ⟨a4, b4⟩ := cut2 2 b3 (leB_len _ _)
  obtain ⟨a5, b5⟩ := cut2 d.length b4 rfl
  rw [List.drop_drop] at b2 b3 b4 b5 a3 a4 a5
  rw [List.drop_drop] at b3 b4 b5 a4 a5
  rw [List.drop_drop] at b4 b5 a5
  rw [List.drop_drop] at b5
  have hs : sizeC B = (d.length : Int) := by
    unfold sizeC
    rw [show (B.drop 8).take 2 = leB (d.length : Int) 2 from a4, unfix_le _ (by omega) (by omega) 2 (by omega) (by omega) (by omega)]
  have hr : rawC B = ⟨o, n, x, d⟩ := by
    unfold rawC
    rw [hs, Int.toNat_natCast, show (B.drop 10).take d.length = d from a5, a1, a2, show (B.drop 6).take 2 = leB x 2 from a3, unfix_le o (by omega) (by omega) 4 (by omega) (by omega) (by omega), unfix_le n (by omega) (by omega) 2 (by omega) (by omega) (by omega), unfix_le x (by omega) (by omega) 2 (by omega) (by omega) (by omega)]
  refine ⟨hr, ?_⟩
  unfold okG
  rw [hr, hs, Int.toNat_natCast, h, decide_eq_true (by omega)]
  have e : B.drop (10 + d.length) = List.replicate (242 - d.length) 0 := by
    rw [← b5]
    congr 1
    omega
  rw [e, maxL_rep]
  rfl
theorem all_zero (l : List Int) (hb : ∀ x ∈ l, 0 ≤ x ∧ x ≤ 255) (h : maxL l = 0) : l = List.replicate l.length 0 := by
  rw [List.eq_replicate_iff]
  exact ⟨rfl, fun x hx => (maxL_zero l hb).1 h x hx⟩
theorem sizeC_range (own : List Int) (hl : own.length = 252) (hb : ∀ x ∈ own, 0 ≤ x ∧ x ≤ 255) : 0 ≤ sizeC own ∧ sizeC own ≤ 65535 := by
  have h := unfix2 ((own.drop 8).take 2) (by rw [List.length_take, List.length_drop, hl]; omega) (take_byte hb 8 2)
  unfold sizeC
  rw [h.1]
  exact h.2
theorem body_raw (own : List Int) (hl : own.length = 252) (hb : ∀ x ∈ own, 0 ≤ x ∧ x ≤ 255) (hs : sizeC own ≤ 242) (hc : cellOk (rawC own).o (rawC own).n (rawC own).x (rawC own).d = true) :
    bodyC (rawC own).o (rawC own).n (rawC own).x (rawC own).d = own ↔ maxL (own.drop (10 + (sizeC own).toNat)) = 0 := by
  obtain ⟨h1, h2, h3, h4, h5, h6, h7, h8⟩ := okD hc
  have hr := sizeC_range own hl hb
  have l8 : ((own.drop 8).take 2).length = 2 := by rw [List.length_take, List.length_drop, hl]; omega
  have l6 : ((own.drop 6).take 2).length = 2 := by rw [List.length_take, List.length_drop, hl]; omega
  have l4 : ((own.drop 4).take 2).length = 2 := by rw [List.length_take, List.length_drop, hl]; omega
  have l0 : (own.take 4).length = 4 := by rw [List.length_take, hl]; omega
  have e0 : (unfixP (own.take 4)).2 = 0 := Classical.byContradiction (fun e => by
    have := unfix_bad _ e
    have h1' : 1 ≤ (unfixP (own.take 4)).1 := h1
    omega)
  have g0 : leB (rawC own).o 4 = own.take 4 := unfix_leB _ (fun x hx => hb x (List.mem_of_mem_take hx)) 4 l0 e0
  have g4 : leB (rawC own).n 2 = (own.drop 4).take 2 := unfix_leB _ (take_byte hb 4 2) 2 l4 (by rw [(unfix2 _ l4 (take_byte hb 4 2)).1])
  have g6 : leB (rawC own).x 2 = (own.drop 6).take 2 := unfix_leB _ (take_byte hb 6 2) 2 l6 (by rw [(unfix2 _ l6 (take_byte hb 6 2)).1])
  have g8 : leB (sizeC own) 2 = (own.drop 8).take 2 := unfix_leB _ (take_byte hb 8 2) 2 l8 (by rw [(unfix2 _ l8 (take_byte hb 8 2)).1])
  have hdl : (rawC own).d.length = (sizeC own).toNat := by
    unfold rawC
    rw [List.length_take, List.length_drop, hl]
    omega
  have hds : ((rawC own).d.length : Int) = sizeC own := by rw [hdl]; omega
  have hsplit : own = own.take 4 ++ ((own.drop 4).take 2 ++ ((own.drop 6).take 2 ++ ((own.drop 8).take 2 ++ ((rawC own).d ++ own.drop (10 + (sizeC own).toNat))))) := by
    have s4 : own.drop 4 = (own.drop 4).take 2 ++ own.drop 6 := by rw [show own.drop 6 = (own.drop 4).drop 2 by rw [List.drop_drop], List.take_append_drop]
    have s6 : own.drop 6 = (own.drop 6).take 2 ++ own.drop 8 := by rw [show own.drop 8 = (own.drop 6).drop 2 by rw [List.drop_drop], List.take_append_drop]
    have s8 : own.drop 8 = (own.drop 8).take 2 ++ own.drop 10 := by rw [show own.drop 10 = (own.drop 8).drop 2 by rw [List.drop_drop], List.take_append_drop]
    have s10 : own.drop 10 = (rawC own).d ++ own.drop (10 + (sizeC own).toNat) := by
      unfold rawC
      rw [← List.drop_drop, List.take_append_drop]
    rw [← s10, ← s8, ← s6, ← s4, List.take_append_drop]
  rw [body_eq, g0, g4, g6, hds, g8]
  have hrl : (own.drop (10 + (sizeC own).toNat)).length = 242 - (rawC own).d.length := by
    rw [List.length_drop, hl, hdl]; omega
  constructor
  · intro h
    have h' := List.append_cancel_left (List.append_cancel_left (List.append_cancel_left (List.append_cancel_left (List.append_cancel_left (h.trans hsplit)))))
    rw [← h', maxL_rep]
  · intro h
    have hz := all_zero _ (fun x hx => hb x (List.mem_of_mem_drop hx)) h
    rw [hrl] at hz
    rw [← hz, ← hsplit]
theorem put_body {o n x : Int} {d : List Int} (h : cellOk o n x d = true) : putP o n x d = (sealB (bodyC o n x d), 0) := by unfold putP; rw [if_pos h]
/-- What was put is got. -/
theorem get_put (o n x : Int) (d : List Int) (h : cellOk o n x d = true) : getP (putP o n x d).1 = (⟨o, n, x, d⟩, 0) := by
  obtain ⟨h1, h2⟩ := raw_body o n x d h
  have h8 := (okD h).2.2.2.2.2.2.2
  rw [put_body h]
  unfold getP
  rw [if_neg (by rw [seal_len, bodyC_len _ _ _ _ h8]; decide), open_seal, if_neg (by simp), if_pos h2, h1]
theorem own_byte {l : List Int} (hb : ∀ x ∈ l, 0 ≤ x ∧ x ≤ 255) (h : (openP l).2 = 0) : ∀ x ∈ (openP l).1, 0 ≤ x ∧ x ≤ 255 := fun x hx => hb x (by rw [(open_len l h).1] at hx; exact List.mem_of_mem_take hx)
theorem own_len {l : List Int} (hl : l.length = 256) (h : (openP l).2 = 0) : (openP l).1.length = 252 := by rw [(open_len l h).1, List.length_take, hl]; omega
theorem okG_iff (own : List Int) (hl : own.length = 252) (hb : ∀ x ∈ own, 0 ≤ x ∧ x ≤ 255) :
    okG own = true ↔ (unfixP (own.take 4)).2 = 0 ∧ sizeC own ≤ 242 ∧ (putP (rawC own).o (rawC own).n (rawC own).x (rawC own).d).2 = 0 ∧ (putP (rawC own).o (rawC own).n (rawC own).x (rawC own).d).1 = sealB own := by
  constructor
  · intro h
    unfold okG at h
    simp only [Bool.and_eq_true, decide_eq_true_eq] at h
    obtain ⟨h1, h2, h3⟩ := h
    have e0 : (unfixP (own.take 4)).2 = 0 := Classical.byContradiction (fun e => by
      have := unfix_bad _ e
      have h1' : 1 ≤ (unfixP (own.take 4)).1 := (okD h2).1
      omega)
    refine ⟨e0, h1, ?_, ?_⟩
    · rw [put_body h2]
    · rw [put_body h2, (body_raw own hl hb h1 h2).2 h3]
  · rintro ⟨_, h1, h2, h3⟩
    have hc : cellOk (rawC own).o (rawC own).n (rawC own).x (rawC own).d = true := by
      by_cases h : cellOk (rawC own).o (rawC own).n (rawC own).x (rawC own).d = true
      · exact h
      · unfold putP at h2
        rw [if_neg h] at h2
        cases h2
    rw [put_body hc] at h3
    have := (body_raw own hl hb h1 hc).1 (seal_inj h3)
    unfold okG
    rw [decide_eq_true h1, hc, decide_eq_true this]
    rfl
/-- What was got is put as it was. -/
theorem put_get (l : List Int) (hb : ∀ x ∈ l, 0 ≤ x ∧ x ≤ 255) (h : (getP l).2 = 0) : putP (getP l).1.o (getP l).1.n (getP l).1.x (getP l).1.d = (l, 0) := by
  unfold getP at *
  split at h
  · cases h
  · rename_i hl
    rw [if_neg hl]
    split at h
    · rename_i h2; exact absurd h h2
    · rename_i h2
      rw [if_neg h2]
      have h2' : (openP l).2 = 0 := Classical.not_not.1 h2
      split at h
      · rename_i h3
        rw [if_pos h3]
        obtain ⟨_, _, h4, h5⟩ := (okG_iff _ (own_len (Classical.not_not.1 hl) h2') (own_byte hb h2')).1 h3
        rw [← open_ok l h2'] at h5
        exact Prod.ext h5 h4
      · cases h
/-- The document's Put. -/
theorem xput_l1 : ∀ (j : Nat) (b : List Int), b.length + j = 252 → (∀ x ∈ b, 0 ≤ x ∧ x ≤ 255) → chantryref09_Put.l1 (2773 + j + 1) b = some (sealB (b ++ List.replicate j 0), 0)
  | 0, b, h, hb => by
    rw [chantryref09_Put.l1_s, if_neg (by omega)]
    have := xseal_plain 0 b hb (by omega)
    rw [show 0 + 11 * b.length + 1 = 2773 by omega] at this
    rw [this]
    simp
  | j + 1, b, h, hb => by
    rw [chantryref09_Put.l1_s, if_pos (by omega), if_pos (by omega), show 2773 + (j + 1) = 2773 + j + 1 by omega, xput_l1 j (b ++ [0]) (by rw [List.length_append]; show b.length + 1 + j = 252; omega) (fun x hx => by
      rcases List.mem_append.1 hx with hx | hx
      · exact hb x hx
      · rw [List.mem_singleton.1 hx]; omega)]
    rw [List.append_assoc, List.replicate_succ]
    rfl
theorem wrap_id (z : Int) (h0 : -9223372036854775808 ≤ z) (h1 : z ≤ 9223372036854775807) : wrap64 z = z := by
  first | (unfold wrap64; omega) | (simp [wrap64]; omega)
theorem xfix_any (k : Nat) (hk : 7 ≤ k) (n w : Int) : chantryref01_Fix.f k n w = some (fixP n w) := by
  obtain ⟨j, rfl⟩ : ∃ j, k = j + 7 := ⟨k - 7, by omega⟩
  exact xfix_plain j n w
theorem xmay_plain (o n x : Int) (d : List Int) : chantryref09_may.f o n x d = some (cellOk o n x d) := by
  unfold chantryref09_may.f cellOk
  by_cases h1 : o ≥ 1
  · rw [if_pos h1]
    by_cases h2 : o ≤ 2147483647
    · rw [if_pos h2]
      by_cases h3 : n ≥ 0
      · rw [if_pos h3]
        by_cases h3' : n ≤ 65535
        · rw [if_pos h3']
          by_cases h4 : x ≥ 0
          · rw [if_pos h4]
            by_cases h4' : x ≤ 65535
            · rw [if_pos h4']
              by_cases h5 : (d.length : Int) ≥ 1
              · rw [if_pos h5]; congr 1; exact decide_eq_decide.2 (by omega)
              · rw [if_neg h5]; congr 1; exact (decide_eq_false (by omega)).symm
            · rw [if_neg h4']; congr 1; exact (decide_eq_false (by omega)).symm
          · rw [if_neg h4]; congr 1; exact (decide_eq_false (by omega)).symm
        · rw [if_neg h3']; congr 1; exact (decide_eq_false (by omega)).symm
      · rw [if_neg h3]; congr 1; exact (decide_eq_false (by omega)).symm
    · rw [if_neg h2]; congr 1; exact (decide_eq_false (by omega)).symm
  · rw [if_neg h1]; congr 1; exact (decide_eq_false (by omega)).symm
theorem xput_plain (o n x : Int) (d : List Int) (hb : ∀ y ∈ d, 0 ≤ y ∧ y ≤ 255) : ∃ k, chantryref09_Put.f k o n x d = some (putP o n x d) := by
  by_cases hc : cellOk o n x d = true
  · obtain ⟨h1, h2, h3, h4, h5, h6, h7, h8⟩ := okD hc
    refine ⟨2773 + (242 - d.length) + 1 + 4, ?_⟩
    unfold chantryref09_Put.f
    rw [xmay_plain, hc, put_body hc]
    simp only [Option.bind_some, if_true]
    rw [xfix_any _ (by omega), fix_ok4 o ⟨by omega, h2⟩]
    simp only [Option.bind_some]
    have f0 : rd [n, x, (d.length : Int)] 0 = n := rfl
    have f1 : rd [n, x, (d.length : Int)] 1 = x := rfl
    have f2 : rd [n, x, (d.length : Int)] 2 = (d.length : Int) := rfl
    have w1 : wrap64 (0 + 1) = 1 := wrap_id _ (by decide) (by decide)
    have w2 : wrap64 (1 + 1) = 2 := wrap_id _ (by decide) (by decide)
    have w3 : wrap64 (2 + 1) = 3 := wrap_id _ (by decide) (by decide)
    have e0 : leB o 4 = headC o n x d 0 := by simp [headC]
    have hh0 := headC_len o n x d 0 (by omega)
    have hh1 := headC_len o n x d 1 (by omega)
    have hh2 := headC_len o n x d 2 (by omega)
    have hh3 := headC_len o n x d 3 (by omega)
    rw [e0]
    generalize hK : 2773 + (242 - d.length) + 1 = K
    have hK7 : 7 ≤ K := by omega
    simp only [chantryref09_Put.l0]
    rw [if_pos (by decide), if_pos (by decide), if_pos (by simp), f0, xfix_any _ (by omega), fix_small2 n h3 (by omega)]
    simp only [Option.bind_some]
    rw [if_pos (by rw [hh0, leB_len]; decide), headC1, w1]
    rw [if_pos (by decide), if_pos (by decide), if_pos (by simp), f1, xfix_any _ (by omega), fix_small2 x h5 (by omega)]
    simp only [Option.bind_some]
    rw [if_pos (by rw [hh1, leB_len]; decide), headC2, w2]
    rw [if_pos (by decide), if_pos (by decide), if_pos (by simp), f2, xfix_any _ (by omega), fix_small2 _ (by omega) (by omega)]
    simp only [Option.bind_some]
    rw [if_pos (by rw [hh2, leB_len]; decide), headC3, w3]
    rw [if_neg (by decide), if_pos (by rw [hh3]; omega), ← hK, xput_l1 _ _ (by rw [List.length_append, hh3]; omega) (fun y hy => by
      rcases List.mem_append.1 hy with h | h
      · exact headC_byte _ _ _ _ _ y h
      · exact hb y h)]
    rfl
  · refine ⟨0, ?_⟩
    unfold chantryref09_Put.f putP
    rw [xmay_plain, Bool.eq_false_iff.2 hc]
    rfl
theorem xput_any {w : World} (o n x : Int) (A : Option Addr) (c : Nat) (d : List Int) (hC : Kd.C (Kd.int .u8) w A d.length d) (hc : d.length ≤ c) (hb : ∀ y ∈ d, 0 ≤ y ∧ y ≤ 255) :
    Calls Try.prog 12 #[.agg #[.int .i64 o, .int .i64 n, .int .i64 x, .slice A d.length c]] w fun e w' => ∃ v, e = .returned (.tuple #[v, .int .i64 (putP o n x d).2]) ∧ Kd.R (Kd.int .u8) 5 w' w.heap.size (fun _ => True) v (putP o n x d).1 ∧ Below w.heap.size w w' := by
  obtain ⟨k, hk⟩ := xput_plain o n x d hb
  exact chantryref09_Put.calls k o n x A c d _ _ w hC hc hk
theorem same_any {w : World} (o n x o' n' x' : Int) (A A' : Option Addr) (c c' : Nat) (d d' : List Int) (hC : Kd.C (Kd.int .u8) w A d.length d) (hc : d.length ≤ c) (hC' : Kd.C (Kd.int .u8) w A' d'.length d') (hc' : d'.length ≤ c') (he : o = o' ∧ n = n' ∧ x = x' ∧ d = d') :
    Calls Try.prog 14 #[.agg #[.int .i64 o, .int .i64 n, .int .i64 x, .slice A d.length c], .agg #[.int .i64 o', .int .i64 n', .int .i64 x', .slice A' d'.length c']] w fun e w' => e = .returned (.bool true) ∧ Below w.heap.size w w' := by
  obtain ⟨rfl, rfl, rfl, rfl⟩ := he
  refine chantryref09_Same.calls o n x A c d o n x A' c' d true w hC hc hC' hc' ?_
  unfold chantryref09_Same.f
  rw [if_pos rfl, if_pos rfl, if_pos rfl]
  simp
end Cell
end Go.Proofs.Ytkfbegmfepehiaa
namespace Go.Proofs.Ytkfbegmfepehiaa
set_option linter.unusedVariables false
set_option linter.unusedSimpArgs false
open Go.RowKit Go.Proofs.YtkfbegmfepehiaaW.PrintWords Go.Proofs.YtkfbegmfepehiaaW.PrintLast Go.Proofs.YtkfbegmfepehiaaW.PrintMore
namespace Cell
open Go.Num Go.Crc PCellGets

theorem nilC (x : World) : Kd.C (Kd.int .u8) x none 0 [] := ⟨rfl, by decide, fun h => absurd h (by decide)⟩
theorem C_but {w w2 : World} {b t n : Nat} {cs : Array Value} {A : Option Addr} {xs : List Int} (h : Kd.C (Kd.int .u8) w A n xs) (hb : w.heap[b]? = some (.cells cs t (0, 0))) (hne : ∀ (k : Nat) (v : Int), cs[k]? ≠ some (.int .u8 v)) (hf : ∀ k, k ≠ b → w2.heap[k]? = w.heap[k]?) : Kd.C (Kd.int .u8) w2 A n xs := by
  have hn : xs.length = n := h.1
  by_cases h0 : 0 < n
  · obtain ⟨a, rfl, _⟩ := h.2.2 h0
    refine Kd.C_of_reads (enc := fun x => Value.int .u8 x) (d := (0:Int)) (h1 := fun _ => rfl) ⟨hn, h.2.1, fun _ => ⟨_, rfl, fun j hj => ?_⟩⟩
    obtain ⟨a', e, hc⟩ := Kd.at_int h (j : Int) (by omega) (by omega)
    cases e
    rw [Int.toNat_natCast] at hc
    have hbk : (a.add j).block ≠ b := by
      intro e
      unfold World.cell? at hc
      rw [e, hb] at hc
      simp only at hc
      split at hc
      · cases hc
      · exact hne _ _ hc
    unfold World.cell? at hc ⊢
    rw [hf _ hbk]
    simpa [rd] using hc
  · obtain rfl : n = 0 := by omega
    exact ⟨hn, h.2.1, fun h => absurd h h0⟩
theorem four_but {w : World} {b : Nat} (v0 v1 v2 v3 : Value) : ∀ k, k ≠ b → ((((w.setCell ⟨b, 0, none⟩ v0).setCell ⟨b, 1, none⟩ v1).setCell ⟨b, 2, none⟩ v2).setCell ⟨b, 3, none⟩ v3).heap[k]? = w.heap[k]? := fun k hk => by
  rw [Below.heap_setCell _ _ _ _ hk, Below.heap_setCell _ _ _ _ hk, Below.heap_setCell _ _ _ _ hk, Below.heap_setCell _ _ _ _ hk]
theorem zero_not8 (k : Nat) (v : Int) : (#[Value.int .i64 0, .int .i64 0, .int .i64 0, .slice none 0 0] : Array Value)[k]? ≠ some (.int .u8 v) := by
  intro h
  have h' : ([Value.int .i64 0, .int .i64 0, .int .i64 0, .slice none 0 0] : List Value)[k]? = some (.int .u8 v) := by simpa using h
  have := List.mem_of_getElem? h'
  simp at this
theorem below_up {x y : World} {k : Nat} (h : Below k x y) (hk : k ≤ x.heap.size := by omega) : Below k x y := h
theorem put_byte {o n x : Int} {d : List Int} {P : List Int × Int} (hb : ∀ y ∈ d, 0 ≤ y ∧ y ≤ 255) (h : P = putP o n x d) : ∀ y ∈ P.1, 0 ≤ y ∧ y ≤ 255 := by
  subst h
  unfold putP
  split
  · exact seal_byte (bodyC_byte _ _ _ _ hb)
  · intro y hy; cases hy
theorem xunfix_any {w : World} (A : Option Addr) (c : Nat) (l : List Int) (n : Nat) (hn : l.length = n) (hC : Kd.C (Kd.int .u8) w A n l) (hc : n ≤ c) (hb : ∀ x ∈ l, 0 ≤ x ∧ x ≤ 255) :
    Calls Try.prog 48 #[.slice A n c] w fun e w' => e = .returned (.tuple #[.int .i64 (unfixP l).1, .int .i64 (unfixP l).2]) ∧ Below w.heap.size w w' := by
  subst hn
  exact (chantryref01_Unfix.calls 7 A c l _ _ w hC hc (xunfix_plain 0 l hb)).mono (fun _ _ h => ⟨h.1, h.2.below⟩)
/-- What the document's Get keeps. -/
structure GX (w0 w : World) (A : Option Addr) (c : Nat) (own : List Int) : Prop where
  below : Below w0.heap.size w0 w
  zero : w.heap[w0.heap.size]? = some (.cells #[.int .i64 0, .int .i64 0, .int .i64 0, .slice none 0 0] 24 (0, 0))
  row : ∀ x, Below w.heap.size w x → Kd.C (Kd.int .u8) x A own.length own
theorem GX.step {w0 w w' : World} {A : Option Addr} {c : Nat} {own : List Int} (h : GX w0 w A c own) (f : Below w.heap.size w w') : GX w0 w' A c own :=
  ⟨h.below.trans (f.mono h.below.size), (f.block _ (blk_lt h.zero)).trans h.zero, fun x hx => h.row x (f.trans (hx.mono f.size))⟩

set_option maxHeartbeats 16000000 in
set_option maxRecDepth 100000 in
theorem xget_no {w : World} (A : Option Addr) (c : Nat) (l : List Int) (hC : Kd.C (Kd.int .u8) w A l.length l) (hb : ∀ y ∈ l, 0 ≤ y ∧ y ≤ 255) (hc : l.length ≤ c) (hl : l.length ≤ 200000) (hno : l.length ≠ 256 ∨ (openP l).2 ≠ 0) :
    Calls Try.prog 15 #[.slice A l.length c] w fun e w' => ∃ A' c', e = .returned (.tuple #[.agg #[.int .i64 (getP l).1.o, .int .i64 (getP l).1.n, .int .i64 (getP l).1.x, .slice A' (getP l).1.d.length c'], .int .i64 (getP l).2]) ∧ (getP l).1.d.length ≤ c' ∧ (∀ x, Below w'.heap.size w' x → Kd.C (Kd.int .u8) x A' (getP l).1.d.length (getP l).1.d) ∧ Below w.heap.size w w' := by
  have HC := Aside0.mk hC
  have HBY := Aside0.mk hb
  clear hC hb
  obtain ⟨r, hr⟩ : ∃ r, r = getP l := ⟨_, rfl⟩
  rw [← hr]
  by_cases h256 : l.length ≠ 256
  · have HR5 := Aside0.mk (show r = (zeroC, 11) by rw [hr]; unfold getP; rw [if_pos h256])
    have hne : ((l.length : Int) != 256) = true := by simp; omega
    clear hr hno
    go_enter Try.func15, Try.ntmps15
    go_wp2_with fail
    refine bodyPost_ret (results_ct rfl _ _ w.heap.size 24 #[.int .i64 0, .int .i64 0, .int .i64 0, .slice none 0 0] (0, 0) _ rfl (heap_alloc_new w _) Try.underlying24 rfl (by kernel_rfl)) rfl ?_
    exact ⟨none, 0, by rw [HR5.out]; rfl, by rw [HR5.out]; exact Nat.le_refl _, fun x hx => by rw [HR5.out]; exact nilC x, (Below.refl _ _).alloc (Nat.le_refl _) _⟩
  · have h2 : l.length = 256 := by omega
    have h12 : (openP l).2 = 12 := by
      rcases open_err l with h | h
      · rcases hno with hn | hn
        · exact absurd h2 hn
        · exact absurd h hn
      · exact h
    have HR5 := Aside0.mk (show r = (zeroC, 12) by rw [hr]; unfold getP; rw [if_neg h256, if_pos (by rw [h12]; decide), h12])
    have HL := Aside0.mk h2
    have H12 := Aside0.mk h12
    rw [h2] at hc hl ⊢
    clear hr hno h256 h2 h12
    go_enter Try.func15, Try.ntmps15
    go_wp2_with fail
    obtain ⟨W, hW⟩ : ∃ W, W = w.alloc (.cells #[.int .i64 0, .int .i64 0, .int .i64 0, .slice none 0 0] 24) := ⟨_, rfl⟩
    have HB0 := Aside0.mk (show Below w.heap.size w W by rw [hW]; exact (Below.refl _ _).alloc (Nat.le_refl _) _)
    have HBX := Aside0.mk (show W.heap[w.heap.size]? = some (.cells #[.int .i64 0, .int .i64 0, .int .i64 0, .slice none 0 0] 24 (0, 0)) by rw [hW]; exact heap_alloc_new w _)
    rw [← hW]
    clear hW
    have hop := xopen_any A c l W (Kd.C_below HC.out HB0.out) HBY.out (by rw [HL.out]; omega) (by rw [HL.out]; omega)
    rw [HL.out, H12.out] at hop
    refine hop.mono ?_
    clear hop
    rintro e w1 ⟨A1, c1, rfl, _, _, b1⟩
    have HB1 := Aside0.mk (HB0.out.trans (b1.mono HB0.out.size))
    have HX1 := Aside0.mk ((b1.block _ (blk_lt HBX.out)).trans HBX.out)
    clear b1
    have z0 : w1.cell? ⟨w.heap.size, 0, none⟩ = some (.int .i64 0) := cell_blk HX1.out
    have z1 : w1.cell? ⟨w.heap.size, 1, none⟩ = some (.int .i64 0) := cell_blk HX1.out
    have z2 : w1.cell? ⟨w.heap.size, 2, none⟩ = some (.int .i64 0) := cell_blk HX1.out
    have z3 : w1.cell? ⟨w.heap.size, 3, none⟩ = some (.slice none 0 0) := cell_blk HX1.out
    have f0 : w1.frozen? ⟨w.heap.size, 0, none⟩ = false := frozen_blk HX1.out
    have f1 : w1.frozen? ⟨w.heap.size, 1, none⟩ = false := frozen_blk HX1.out
    have f2 : w1.frozen? ⟨w.heap.size, 2, none⟩ = false := frozen_blk HX1.out
    have f3 : w1.frozen? ⟨w.heap.size, 3, none⟩ = false := frozen_blk HX1.out
    go_wp2_with fail
    refine bodyPost_ret (results_ct rfl _ _ w.heap.size 24 #[.int .i64 0, .int .i64 0, .int .i64 0, .slice none 0 0] (0, 0) _ rfl (four_set HX1.out _ _ _ _) Try.underlying24 rfl (by kernel_rfl)) rfl ?_
    exact ⟨none, 0, by rw [HR5.out]; rfl, by rw [HR5.out]; exact Nat.le_refl _, fun x hx => by rw [HR5.out]; exact nilC x, four_below HB1.out (Nat.le_refl _) _ _ _ _⟩

set_option maxHeartbeats 16000000 in
set_option maxRecDepth 100000 in
theorem xget_yes {w : World} (A : Option Addr) (c : Nat) (l : List Int) (hC : Kd.C (Kd.int .u8) w A l.length l) (hb : ∀ y ∈ l, 0 ≤ y ∧ y ≤ 255) (hc : l.length ≤ c) (h256 : l.length = 256) (h0 : (openP l).2 = 0) :
    Calls Try.prog 15 #[.slice A l.length c] w fun e w' => ∃ A' c', e = .returned (.tuple #[.agg #[.int .i64 (getP l).1.o, .int .i64 (getP l).1.n, .int .i64 (getP l).1.x, .slice A' (getP l).1.d.length c'], .int .i64 (getP l).2]) ∧ (getP l).1.d.length ≤ c' ∧ (∀ x, Below w'.heap.size w' x → Kd.C (Kd.int .u8) x A' (getP l).1.d.length (getP l).1.d) ∧ Below w.heap.size w w' := by
  have HC := Aside0.mk hC
  have HBY := Aside0.mk hb
  have HL := Aside0.mk h256
  have H0 := Aside0.mk h0
  have HSE := Aside0.mk (open_ok l h0)
  obtain ⟨own, hown⟩ : ∃ own, own = (openP l).1 := ⟨_, rfl⟩
  have hlo : own.length = 252 := by rw [hown]; exact own_len h256 h0
  have hob : ∀ y ∈ own, 0 ≤ y ∧ y ≤ 255 := by rw [hown]; exact own_byte hb h0
  have HLO := Aside0.mk hlo
  have HOB := Aside0.mk hob
  obtain ⟨r, hr⟩ : ∃ r, r = getP l := ⟨_, rfl⟩
  rw [← hr]
  have HQ := Aside0.mk (show r = if okG own = true then (rawC own, 0) else (zeroC, 5) by rw [hr, hown]; unfold getP; rw [if_neg (by omega), if_neg (by omega)])
  have HOWN := Aside0.mk hown
  have HIFF := Aside0.mk (okG_iff own hlo hob)
  obtain ⟨o, ho⟩ : ∃ o, o = (unfixP (own.take 4)).1 := ⟨_, rfl⟩
  obtain ⟨n, hn⟩ : ∃ o, o = (unfixP ((own.drop 4).take 2)).1 := ⟨_, rfl⟩
  obtain ⟨x, hx⟩ : ∃ o, o = (unfixP ((own.drop 6).take 2)).1 := ⟨_, rfl⟩
  have hsz := unfix2 ((own.drop 8).take 2) (by rw [List.length_take, List.length_drop, hlo]; omega) (take_byte hob 8 2)
  obtain ⟨sn, hs⟩ : ∃ sn : Nat, (sn : Int) = (unfixP ((own.drop 8).take 2)).1 := ⟨(unB ((own.drop 8).take 2)).toNat, by rw [hsz.1]; omega⟩
  have hs6 : sn ≤ 65535 := by rw [hsz.1] at hs; omega
  have Ho := Aside0.mk ho
  have Hn := Aside0.mk hn
  have Hx := Aside0.mk hx
  have Hs := Aside0.mk hs
  have HSZ := Aside0.mk (show sizeC own = (sn : Int) from hs.symm)
  have HRAW := Aside0.mk (show rawC own = ⟨o, n, x, (own.drop 10).take sn⟩ by unfold rawC; rw [← ho, ← hn, ← hx, show sizeC own = (sn : Int) from hs.symm, Int.toNat_natCast])
  clear hC hb h0 hown hlo hob hr ho hn hx hsz hs
  rw [h256] at hc ⊢
  clear h256
  go_enter Try.func15, Try.ntmps15
  go_wp2_with fail
  obtain ⟨W, hW⟩ : ∃ W, W = w.alloc (.cells #[.int .i64 0, .int .i64 0, .int .i64 0, .slice none 0 0] 24) := ⟨_, rfl⟩
  have HB0 := Aside0.mk (show Below w.heap.size w W by rw [hW]; exact (Below.refl _ _).alloc (Nat.le_refl _) _)
  have HBX := Aside0.mk (show W.heap[w.heap.size]? = some (.cells #[.int .i64 0, .int .i64 0, .int .i64 0, .slice none 0 0] 24 (0, 0)) by rw [hW]; exact heap_alloc_new w _)
  rw [← hW]
  clear hW
  have hop := xopen_any A c l W (Kd.C_below HC.out HB0.out) HBY.out (by rw [HL.out]; omega) (by rw [HL.out]; omega)
  rw [HL.out, H0.out, ← HOWN.out, HLO.out] at hop
  refine hop.mono ?_
  clear hop
  rintro e w1 ⟨A1, c1, rfl, hc1, hrow, b1⟩
  obtain ⟨a, rfl⟩ : ∃ a, A1 = some a := by obtain ⟨a, ha, _⟩ := (hrow _ (Below.refl _ _)).2.2 (by omega); exact ⟨a, ha⟩
  have HG := Aside0.mk (show GX w w1 (some a) c1 own from ⟨HB0.out.trans (b1.mono HB0.out.size), (b1.block _ (blk_lt HBX.out)).trans HBX.out, fun x hx => by rw [HLO.out]; exact hrow x (below_steps b1 hx)⟩)
  clear hrow b1
  go_wp2_with fail
  have hu := xunfix_any (some a) (c1 - 0) (own.take 4) 4 (by rw [List.length_take, HLO.out]; omega) (take_C (HG.out.row _ (Below.refl _ _)) 4 (by rw [HLO.out]; omega)) (by omega) (fun x hx => HOB.out x (List.mem_of_mem_take hx))
  rw [← Ho.out, Nat.sub_zero] at hu
  obtain ⟨q3, hq⟩ : ∃ q, q = (unfixP (own.take 4)).2 := ⟨_, rfl⟩
  rw [← hq] at hu
  have HQ3 := Aside0.mk hq
  refine hu.mono ?_
  clear hu hq
  rintro e w3 ⟨rfl, b⟩
  have hg := HG.out.step b
  clear HG b
  have HG := Aside0.mk hg
  clear hg
  go_wp2_with fail
  have hu := xunfix_any (some (a.add 4)) (c1 - 4) ((own.drop 4).take 2) 2 (by rw [List.length_take, List.length_drop, HLO.out]; omega) (mid_C (HG.out.row _ (Below.refl _ _)) 4 2 (by rw [HLO.out]; omega)) (by omega) (take_byte HOB.out 4 2)
  rw [← Hn.out] at hu
  obtain ⟨q4, hq⟩ : ∃ q, q = (unfixP ((own.drop 4).take 2)).2 := ⟨_, rfl⟩
  rw [← hq] at hu
  
  refine hu.mono ?_
  clear hu hq
  rintro e w4 ⟨rfl, b⟩
  have hg := HG.out.step b
  clear HG b
  have HG := Aside0.mk hg
  clear hg
  go_wp2_with fail
  have hu := xunfix_any (some (a.add 6)) (c1 - 6) ((own.drop 6).take 2) 2 (by rw [List.length_take, List.length_drop, HLO.out]; omega) (mid_C (HG.out.row _ (Below.refl _ _)) 6 2 (by rw [HLO.out]; omega)) (by omega) (take_byte HOB.out 6 2)
  rw [← Hx.out] at hu
  obtain ⟨q5, hq⟩ : ∃ q, q = (unfixP ((own.drop 6).take 2)).2 := ⟨_, rfl⟩
  rw [← hq] at hu
  
  refine hu.mono ?_
  clear hu hq
  rintro e w5 ⟨rfl, b⟩
  have hg := HG.out.step b
  clear HG b
  have HG := Aside0.mk hg
  clear hg
  go_wp2_with fail
  have hu := xunfix_any (some (a.add 8)) (c1 - 8) ((own.drop 8).take 2) 2 (by rw [List.length_take, List.length_drop, HLO.out]; omega) (mid_C (HG.out.row _ (Below.refl _ _)) 8 2 (by rw [HLO.out]; omega)) (by omega) (take_byte HOB.out 8 2)
  rw [← Hs.out] at hu
  obtain ⟨q6, hq⟩ : ∃ q, q = (unfixP ((own.drop 8).take 2)).2 := ⟨_, rfl⟩
  rw [← hq] at hu
  
  refine hu.mono ?_
  clear hu hq
  rintro e w6 ⟨rfl, b⟩
  have hg := HG.out.step b
  clear HG b
  have HG := Aside0.mk hg
  clear hg
  have ERR : ¬ okG own = true → r = (zeroC, 5) := fun h => by rw [HQ.out, if_neg h]
  by_cases h3 : q3 = 0
  · subst h3
    by_cases hk : sn ≤ 242
    · have hk1 : ¬ (242 : Int) < sn := by omega
      have hd1 : decide ((242 : Int) < sn) = false := decide_eq_false hk1
      obtain ⟨d, hd⟩ : ∃ d, d = (own.drop 10).take sn := ⟨_, rfl⟩
      have hdl : d.length = sn := by rw [hd, List.length_take, List.length_drop, HLO.out]; omega
      have HD := Aside0.mk hd
      have HDL := Aside0.mk hdl
      have HK := Aside0.mk hk
      have HE := Aside0.mk ERR
      clear hd hdl ERR
      go_wp2_with fail
      obtain ⟨a2, ha2⟩ : ∃ a2, a2 = (⟨a.block, a.off + 10, none⟩ : Addr) := ⟨_, rfl⟩
      have hmc : ∀ x, Below w6.heap.size w6 x → Kd.C (Kd.int .u8) x (some a2) d.length d := fun x hx => by
        have := mid_C (HG.out.row x hx) 10 sn (by rw [HLO.out]; omega)
        rw [← HD.out] at this
        rw [HDL.out, ha2]
        exact this
      rw [← ha2]
      clear ha2
      have HMC := Aside0.mk hmc
      clear hmc
      obtain ⟨w7, hw7⟩ : ∃ w7, w7 = w6.alloc (.cells #[.int .i64 o, .int .i64 n, .int .i64 x, .slice (some a2) sn (c1 - 10)] 24) := ⟨_, rfl⟩
      have hb7 : Below w6.heap.size w6 w7 := by rw [hw7]; exact (Below.refl _ _).alloc (Nat.le_refl _) _
      have hx7 : w7.heap[w6.heap.size]? = some (.cells #[.int .i64 o, .int .i64 n, .int .i64 x, .slice (some a2) sn (c1 - 10)] 24 (0, 0)) := by rw [hw7]; exact heap_alloc_new w6 _
      have hlt := blk_lt HG.out.zero
      rw [← hw7]
      obtain ⟨xb, hxb⟩ : ∃ xb, xb = w6.heap.size := ⟨_, rfl⟩
      rw [← hxb] at hx7 hlt ⊢
      have hg := HG.out.step hb7
      have HMC7 := Aside0.mk (show ∀ x, Below w7.heap.size w7 x → Kd.C (Kd.int .u8) x (some a2) d.length d from fun x hx => HMC.out x (below_steps hb7 hx))
      have HDB := Aside0.mk (show ∀ y ∈ d, 0 ≤ y ∧ y ≤ 255 by rw [HD.out]; exact take_byte HOB.out 10 sn)
      clear HG hb7 hw7 hxb HMC
      have HG := Aside0.mk hg
      clear hg
      have hp := xput_any o n x (some a2) (c1 - 10) d (HMC7.out _ (Below.refl _ _)) (by rw [HDL.out]; omega) HDB.out
      rw [HDL.out] at hp
      obtain ⟨P, hP⟩ : ∃ P, P = putP o n x d := ⟨_, rfl⟩
      rw [← hP] at hp
      have HPP := Aside0.mk hP
      have hiff := HIFF.out
      rw [HRAW.out, ← HD.out, ← HQ3.out, HSZ.out] at hiff
      have hiff2 : okG own = true ↔ P.2 = 0 ∧ P.1 = l := by
        rw [hiff, HSE.out, ← HOWN.out, hP]
        constructor
        · rintro ⟨_, _, h1, h2⟩; exact ⟨h1, h2⟩
        · rintro ⟨h1, h2⟩; exact ⟨rfl, by have := HK.out; omega, h1, h2⟩
      clear hiff hP
      have HI2 := Aside0.mk hiff2
      clear hiff2
      refine hp.mono ?_
      clear hp
      rintro e w8 ⟨v8, rfl, hr8, b8⟩
      obtain ⟨A8, c8, rfl⟩ := Kd.R_slice hr8
      have hg := HG.out.step b8
      have HX8 := Aside0.mk ((b8.block _ (blk_lt hx7)).trans hx7)
      have HMC8 := Aside0.mk (show ∀ x, Below w8.heap.size w8 x → Kd.C (Kd.int .u8) x (some a2) d.length d from fun x hx => HMC7.out x (below_steps b8 hx))
      have HB8 := Aside0.mk b8
      clear HG b8 hx7 HMC7
      have HG := Aside0.mk hg
      clear hg
      obtain ⟨T, hT⟩ : ∃ T, T = strOfNums P.1 := ⟨_, rfl⟩
      obtain ⟨U, hU⟩ : ∃ U, U = strOfNums l := ⟨_, rfl⟩
      have hcv1 : (convert 22 9 (.slice A8 P.1.length c8)).run Try.prog w8 = .ok (.string T) w8 := by rw [hT]; exact strC (row_at hr8)
      have hcv2 : (convert 22 9 (.slice A 256 c)).run Try.prog w8 = .ok (.string U) w8 := by
        rw [hU]
        have := Kd.C_below HC.out (below_up HG.out.below)
        rw [HL.out] at this
        exact strC this
      obtain ⟨e2, he2⟩ : ∃ e2, e2 = P.2 := ⟨_, rfl⟩
      obtain ⟨pl, hpl⟩ : ∃ pl, pl = P.1.length := ⟨_, rfl⟩
      have HTU := Aside0.mk (show T.toList = U.toList → P.1 = l from fun h => str_inj (put_byte HDB.out HPP.out) HBY.out (by rw [← hT, ← hU]; exact h))
      have HTU2 := Aside0.mk (show P.1 = l → T = U from fun h => by rw [hT, hU, h])
      have HI3 := Aside0.mk (show okG own = true ↔ e2 = 0 ∧ P.1 = l by rw [he2]; exact HI2.out)
      rw [← he2, ← hpl]
      rw [← hpl] at hcv1
      clear hT hU he2 hpl hr8
      by_cases he : e2 = 0
      · subst he
        by_cases hpq : P.1 = l
        · have hr5 := Aside0.mk (show r = (⟨o, n, x, d⟩, 0) by rw [HQ.out, if_pos (HI3.out.2 ⟨rfl, hpq⟩), HRAW.out, HD.out])
          obtain rfl := HTU2.out hpq
          clear hpq
          have z0 : w8.cell? ⟨w.heap.size, 0, none⟩ = some (.int .i64 0) := cell_blk HG.out.zero
          have z1 : w8.cell? ⟨w.heap.size, 1, none⟩ = some (.int .i64 0) := cell_blk HG.out.zero
          have z2 : w8.cell? ⟨w.heap.size, 2, none⟩ = some (.int .i64 0) := cell_blk HG.out.zero
          have z3 : w8.cell? ⟨w.heap.size, 3, none⟩ = some (.slice none 0 0) := cell_blk HG.out.zero
          have f0 : w8.frozen? ⟨w.heap.size, 0, none⟩ = false := frozen_blk HG.out.zero
          have f1 : w8.frozen? ⟨w.heap.size, 1, none⟩ = false := frozen_blk HG.out.zero
          have f2 : w8.frozen? ⟨w.heap.size, 2, none⟩ = false := frozen_blk HG.out.zero
          have f3 : w8.frozen? ⟨w.heap.size, 3, none⟩ = false := frozen_blk HG.out.zero
          have x0 : w8.cell? ⟨xb, 0, none⟩ = some (.int .i64 o) := cell_blk HX8.out
          have x1 : w8.cell? ⟨xb, 1, none⟩ = some (.int .i64 n) := cell_blk HX8.out
          have x2 : w8.cell? ⟨xb, 2, none⟩ = some (.int .i64 x) := cell_blk HX8.out
          have x3 : w8.cell? ⟨xb, 3, none⟩ = some (.slice (some a2) sn (c1 - 10)) := cell_blk HX8.out
          go_wp2_with fail
          refine bodyPost_ret (results_ct rfl _ _ w.heap.size 24 #[.int .i64 o, .int .i64 n, .int .i64 x, .slice (some a2) sn (c1 - 10)] (0, 0) _ rfl (four_set HG.out.zero _ _ _ _) Try.underlying24 rfl (by kernel_rfl)) rfl ?_
          refine ⟨some a2, c1 - 10, by rw [hr5.out, ← HDL.out]; rfl, by rw [hr5.out]; show d.length ≤ c1 - 10; rw [HDL.out]; omega, fun y hy => ?_, four_below HG.out.below (Nat.le_refl _) _ _ _ _⟩
          rw [hr5.out]
          exact Kd.C_below (C_but (HMC8.out _ (Below.refl _ _)) HG.out.zero zero_not8 (four_but _ _ _ _)) hy
        · have hne : (!T.toList == U.toList) = true := by simpa using (fun h => hpq (HTU.out h))
          have HR5 := Aside0.mk (HE.out (fun h => hpq (HI3.out.1 h).2))
          clear hpq
          have z0 : w8.cell? ⟨w.heap.size, 0, none⟩ = some (.int .i64 0) := cell_blk HG.out.zero
          have z1 : w8.cell? ⟨w.heap.size, 1, none⟩ = some (.int .i64 0) := cell_blk HG.out.zero
          have z2 : w8.cell? ⟨w.heap.size, 2, none⟩ = some (.int .i64 0) := cell_blk HG.out.zero
          have z3 : w8.cell? ⟨w.heap.size, 3, none⟩ = some (.slice none 0 0) := cell_blk HG.out.zero
          have f0 : w8.frozen? ⟨w.heap.size, 0, none⟩ = false := frozen_blk HG.out.zero
          have f1 : w8.frozen? ⟨w.heap.size, 1, none⟩ = false := frozen_blk HG.out.zero
          have f2 : w8.frozen? ⟨w.heap.size, 2, none⟩ = false := frozen_blk HG.out.zero
          have f3 : w8.frozen? ⟨w.heap.size, 3, none⟩ = false := frozen_blk HG.out.zero
          go_wp2_with fail
          refine bodyPost_ret (results_ct rfl _ _ w.heap.size 24 #[.int .i64 0, .int .i64 0, .int .i64 0, .slice none 0 0] (0, 0) _ rfl (four_set HG.out.zero _ _ _ _) Try.underlying24 rfl (by kernel_rfl)) rfl ?_
          exact ⟨none, 0, by rw [HR5.out]; rfl, by rw [HR5.out]; exact Nat.le_refl _, fun x hx => by rw [HR5.out]; exact nilC x, four_below HG.out.below (Nat.le_refl _) _ _ _ _⟩
      · have he' : (e2 != 0) = true := by simpa using he
        have HR5 := Aside0.mk (HE.out (fun h => he (HI3.out.1 h).1))
        have z0 : w8.cell? ⟨w.heap.size, 0, none⟩ = some (.int .i64 0) := cell_blk HG.out.zero
        have z1 : w8.cell? ⟨w.heap.size, 1, none⟩ = some (.int .i64 0) := cell_blk HG.out.zero
        have z2 : w8.cell? ⟨w.heap.size, 2, none⟩ = some (.int .i64 0) := cell_blk HG.out.zero
        have z3 : w8.cell? ⟨w.heap.size, 3, none⟩ = some (.slice none 0 0) := cell_blk HG.out.zero
        have f0 : w8.frozen? ⟨w.heap.size, 0, none⟩ = false := frozen_blk HG.out.zero
        have f1 : w8.frozen? ⟨w.heap.size, 1, none⟩ = false := frozen_blk HG.out.zero
        have f2 : w8.frozen? ⟨w.heap.size, 2, none⟩ = false := frozen_blk HG.out.zero
        have f3 : w8.frozen? ⟨w.heap.size, 3, none⟩ = false := frozen_blk HG.out.zero
        go_wp2_with fail
        refine bodyPost_ret (results_ct rfl _ _ w.heap.size 24 #[.int .i64 0, .int .i64 0, .int .i64 0, .slice none 0 0] (0, 0) _ rfl (four_set HG.out.zero _ _ _ _) Try.underlying24 rfl (by kernel_rfl)) rfl ?_
        exact ⟨none, 0, by rw [HR5.out]; rfl, by rw [HR5.out]; exact Nat.le_refl _, fun x hx => by rw [HR5.out]; exact nilC x, four_below HG.out.below (Nat.le_refl _) _ _ _ _⟩
    · have hd1 : decide ((242 : Int) < sn) = true := decide_eq_true (by omega)
      have HR5 := Aside0.mk (ERR (fun h => hk (by have := (HIFF.out.1 h).2.1; rw [HSZ.out] at this; omega)))
      clear ERR
      have z0 : w6.cell? ⟨w.heap.size, 0, none⟩ = some (.int .i64 0) := cell_blk HG.out.zero
      have z1 : w6.cell? ⟨w.heap.size, 1, none⟩ = some (.int .i64 0) := cell_blk HG.out.zero
      have z2 : w6.cell? ⟨w.heap.size, 2, none⟩ = some (.int .i64 0) := cell_blk HG.out.zero
      have z3 : w6.cell? ⟨w.heap.size, 3, none⟩ = some (.slice none 0 0) := cell_blk HG.out.zero
      have f0 : w6.frozen? ⟨w.heap.size, 0, none⟩ = false := frozen_blk HG.out.zero
      have f1 : w6.frozen? ⟨w.heap.size, 1, none⟩ = false := frozen_blk HG.out.zero
      have f2 : w6.frozen? ⟨w.heap.size, 2, none⟩ = false := frozen_blk HG.out.zero
      have f3 : w6.frozen? ⟨w.heap.size, 3, none⟩ = false := frozen_blk HG.out.zero
      go_wp2_with fail
      refine bodyPost_ret (results_ct rfl _ _ w.heap.size 24 #[.int .i64 0, .int .i64 0, .int .i64 0, .slice none 0 0] (0, 0) _ rfl (four_set HG.out.zero _ _ _ _) Try.underlying24 rfl (by kernel_rfl)) rfl ?_
      exact ⟨none, 0, by rw [HR5.out]; rfl, by rw [HR5.out]; exact Nat.le_refl _, fun x hx => by rw [HR5.out]; exact nilC x, four_below HG.out.below (Nat.le_refl _) _ _ _ _⟩
  · have h3' : (q3 != 0) = true := by simpa using h3
    have HR5 := Aside0.mk (ERR (fun h => h3 (by rw [HQ3.out]; exact (HIFF.out.1 h).1)))
    clear ERR
    have z0 : w6.cell? ⟨w.heap.size, 0, none⟩ = some (.int .i64 0) := cell_blk HG.out.zero
    have z1 : w6.cell? ⟨w.heap.size, 1, none⟩ = some (.int .i64 0) := cell_blk HG.out.zero
    have z2 : w6.cell? ⟨w.heap.size, 2, none⟩ = some (.int .i64 0) := cell_blk HG.out.zero
    have z3 : w6.cell? ⟨w.heap.size, 3, none⟩ = some (.slice none 0 0) := cell_blk HG.out.zero
    have f0 : w6.frozen? ⟨w.heap.size, 0, none⟩ = false := frozen_blk HG.out.zero
    have f1 : w6.frozen? ⟨w.heap.size, 1, none⟩ = false := frozen_blk HG.out.zero
    have f2 : w6.frozen? ⟨w.heap.size, 2, none⟩ = false := frozen_blk HG.out.zero
    have f3 : w6.frozen? ⟨w.heap.size, 3, none⟩ = false := frozen_blk HG.out.zero
    go_wp2_with fail
    refine bodyPost_ret (results_ct rfl _ _ w.heap.size 24 #[.int .i64 0, .int .i64 0, .int .i64 0, .slice none 0 0] (0, 0) _ rfl (four_set HG.out.zero _ _ _ _) Try.underlying24 rfl (by kernel_rfl)) rfl ?_
    exact ⟨none, 0, by rw [HR5.out]; rfl, by rw [HR5.out]; exact Nat.le_refl _, fun x hx => by rw [HR5.out]; exact nilC x, four_below HG.out.below (Nat.le_refl _) _ _ _ _⟩
end Cell
end Go.Proofs.Ytkfbegmfepehiaa
