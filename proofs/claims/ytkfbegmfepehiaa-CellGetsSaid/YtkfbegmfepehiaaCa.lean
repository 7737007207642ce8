/- Walks: cell.Put -/
import Derived.Test.YtkfbegmfepehiaaKx
import Derived.Below
import Derived.Lib.Hide
import Derived.OwnWalk
import Derived.WalkKit
import Derived.KernelRfl
import Derived.RowKit3
import Derived.Deep.LoopGhost
import Derived.Deep.QuietTactic
import Derived.BigQuiet
import Derived.WideLaws
import Derived.Great.BuildSlice
import Derived.Outline
import Derived.Deep.DeepCutAuto
import Derived.WalkSpells
import Derived.RegionTactic
import Derived.BigRegion
import Derived.WalkLawsBesides
import Derived.IntWalk
import Derived.Deep.Slices
import Derived.Lib.AppendZerosOnto
namespace Go.Proofs.Ytkfbegmfepehiaa
set_option linter.unusedVariables false
set_option linter.unusedSimpArgs false
open Go.RowKit Go.Proofs.YtkfbegmfepehiaaW.PrintWords Go.Proofs.YtkfbegmfepehiaaW.PrintLast Go.Proofs.YtkfbegmfepehiaaW.PrintMore
namespace Cell
open Go.Num Go.Crc PCellGets

def cellOk (o n x : Int) (d : List Int) : Bool := decide (1 ≤ o ∧ o ≤ 2147483647 ∧ 0 ≤ n ∧ n ≤ 65535 ∧ 0 ≤ x ∧ x ≤ 65535 ∧ 1 ≤ d.length ∧ d.length ≤ 242)
theorem short_plain (n : Int) : cell_short.f n = some (decide (0 ≤ n ∧ n ≤ 65535)) := by
  unfold cell_short.f
  by_cases h : n ≥ 0
  · rw [if_pos h]; congr 1; exact decide_eq_decide.2 (by omega)
  · rw [if_neg h]; congr 1; exact (decide_eq_false (by omega)).symm
theorem may_plain (o n x : Int) (d : List Int) : cell_may.f o n x d = some (cellOk o n x d) := by
  unfold cell_may.f cellOk
  rw [short_plain, short_plain]
  simp only [Option.bind_some]
  by_cases h1 : o ≥ 1
  · rw [if_pos h1]
    by_cases h2 : o ≤ 2147483647
    · rw [if_pos h2]
      by_cases h3 : 0 ≤ n ∧ n ≤ 65535
      · rw [if_pos (by simpa using h3)]
        by_cases h4 : 0 ≤ x ∧ x ≤ 65535
        · rw [if_pos (by simpa using h4)]
          by_cases h5 : (d.length : Int) ≥ 1
          · rw [if_pos h5]; congr 1; exact decide_eq_decide.2 (by omega)
          · rw [if_neg h5]; congr 1; exact (decide_eq_false (by omega)).symm
        · rw [if_neg (by simpa using h4)]; congr 1; exact (decide_eq_false (by omega)).symm
      · rw [if_neg (by simpa using h3)]; congr 1; exact (decide_eq_false (by omega)).symm
    · rw [if_neg h2]; congr 1; exact (decide_eq_false (by omega)).symm
  · rw [if_neg h1]; congr 1; exact (decide_eq_false (by omega)).symm
def headC (o n x : Int) (d : List Int) (i : Nat) : List Int := leB o 4 ++ ((if 1 ≤ i then leB n 2 else []) ++ ((if 2 ≤ i then leB x 2 else []) ++ (if 3 ≤ i then leB (d.length : Int) 2 else [])))
theorem headC_len (o n x : Int) (d : List Int) (i : Nat) (hi : i ≤ 3) : (headC o n x d i).length = 4 + 2 * i := by
  unfold headC
  rcases (show i = 0 ∨ i = 1 ∨ i = 2 ∨ i = 3 by omega) with rfl | rfl | rfl | rfl <;> simp [leB_len]
theorem headC1 (o n x : Int) (d : List Int) : headC o n x d 0 ++ leB n 2 = headC o n x d 1 := by simp [headC]
theorem headC2 (o n x : Int) (d : List Int) : headC o n x d 1 ++ leB x 2 = headC o n x d 2 := by simp [headC]
theorem headC3 (o n x : Int) (d : List Int) : headC o n x d 2 ++ leB (d.length : Int) 2 = headC o n x d 3 := by simp [headC]
/-- A cell's bytes ahead of the sum. -/
def bodyC (o n x : Int) (d : List Int) : List Int := (headC o n x d 3 ++ d) ++ List.replicate (242 - d.length) 0
theorem bodyC_len (o n x : Int) (d : List Int) (hd : d.length ≤ 242) : (bodyC o n x d).length = 252 := by
  unfold bodyC
  rw [List.length_append, List.length_append, headC_len _ _ _ _ 3 (by omega), List.length_replicate]
  omega
theorem headC_byte (o n x : Int) (d : List Int) (i : Nat) : ∀ y ∈ headC o n x d i, 0 ≤ y ∧ y ≤ 255 := by
  intro y hy
  unfold headC at hy
  have key : ∀ (p : Prop) [Decidable p] (m : Int) (k : Nat), y ∈ (if p then leB m k else []) → 0 ≤ y ∧ y ≤ 255 := fun p _ m k h => by
    split at h
    · exact leB_byte _ _ y h
    · cases h
  rcases List.mem_append.1 hy with h | h
  · exact leB_byte _ _ y h
  rcases List.mem_append.1 h with h | h
  · exact key _ _ _ h
  rcases List.mem_append.1 h with h | h
  · exact key _ _ _ h
  · exact key _ _ _ h
theorem bodyC_byte (o n x : Int) (d : List Int) (hb : ∀ y ∈ d, 0 ≤ y ∧ y ≤ 255) : ∀ y ∈ bodyC o n x d, 0 ≤ y ∧ y ≤ 255 := by
  intro y hy
  unfold bodyC at hy
  rcases List.mem_append.1 hy with h | h
  · rcases List.mem_append.1 h with h | h
    · exact headC_byte _ _ _ _ _ y h
    · exact hb y h
  · rw [(List.mem_replicate.1 h).2]; omega
def putP (o n x : Int) (d : List Int) : List Int × Int := if cellOk o n x d = true then (sealB (bodyC o n x d), 0) else ([], 1)
theorem fix_ok4 (n : Int) (h : 0 ≤ n ∧ n ≤ 2147483647) : fixP n 4 = (leB n 4, 0) := by
  unfold fixP
  rw [if_neg (by rw [show (256 : Int) ^ ((4 : Int)).toNat = 4294967296 from by decide]; omega)]
  rfl

set_option maxHeartbeats 8000000 in
set_option maxRecDepth 100000 in
theorem put_any {w : World} (o n x : Int) (A : Option Addr) (c : Nat) (d : List Int) (hC : Kd.C (Kd.int .u8) w A d.length d) (hc : d.length ≤ c) (hb : ∀ y ∈ d, 0 ≤ y ∧ y ≤ 255) :
    Calls Try.prog 11 #[.agg #[.int .i64 o, .int .i64 n, .int .i64 x, .slice A d.length c]] w fun e w' => ∃ v, e = .returned (.tuple #[v, .int .i64 (putP o n x d).2]) ∧ Kd.R (Kd.int .u8) 5 w' w.heap.size (fun _ => True) v (putP o n x d).1 ∧ Below w.heap.size w w' := by
  have HC := Aside0.mk hC
  have HBY := Aside0.mk hb
  clear hC hb
  obtain ⟨R, hR⟩ : ∃ R, R = putP o n x d := ⟨_, rfl⟩
  rw [← hR]
  obtain ⟨W, hW⟩ : ∃ W, W = w.alloc (.cells #[.int .i64 o, .int .i64 n, .int .i64 x, .slice A d.length c] 24) := ⟨_, rfl⟩
  have HB0 := Aside0.mk (show Below w.heap.size w W by rw [hW]; exact (Below.refl _ _).alloc (Nat.le_refl _) _)
  have hbx : W.heap[w.heap.size]? = some (.cells #[.int .i64 o, .int .i64 n, .int .i64 x, .slice A d.length c] 24 (0, 0)) := by rw [hW]; exact heap_alloc_new w _
  have HBX := Aside0.mk hbx
  have HWE := Aside0.mk hW
  clear hW hbx
  obtain ⟨b, hbo⟩ : ∃ b, b = cellOk o n x d := ⟨_, rfl⟩
  have hmay := cell_may.calls o n x A c d b W (Kd.C_below HC.out HB0.out) hc (by rw [may_plain, hbo])
  have HM := Aside0.mk hmay
  clear hmay
  cases b with
  | false =>
    have HQ := Aside0.mk (show R = ([], 1) by rw [hR]; unfold putP; rw [← hbo]; rfl)
    clear hR hbo
    go_enter Try.func11, Try.ntmps11
    go_wp2_with fail
    rw [← HWE.out]
    refine HM.out.mono ?_
    rintro e w1 ⟨rfl, b1⟩
    have HB1 := Aside0.mk (HB0.out.trans (b1.mono HB0.out.size))
    clear b1
    go_wp2_with fail
    go_ret2
    exact ⟨_, by rw [HQ.out]; rfl, by rw [HQ.out]; exact Kd.R_nil _ _ _ _ _, HB1.out⟩
  | true =>
    have hok := hbo.symm
    unfold cellOk at hok
    obtain ⟨o1, o2, n1, n2, x1, x2, d1, d2⟩ := of_decide_eq_true hok
    have HQ := Aside0.mk (show R = (sealB (bodyC o n x d), 0) by rw [hR]; unfold putP; rw [← hbo]; rfl)
    clear hR hbo hok
    go_enter Try.func11, Try.ntmps11
    go_wp2_with fail
    rw [← HWE.out]
    refine HM.out.mono ?_
    rintro e w1 ⟨rfl, b1⟩
    have k1 := (b1.block _ (blk_lt HBX.out)).trans HBX.out
    have HB1 := Aside0.mk (HB0.out.trans (b1.mono HB0.out.size))
    have HK1 := Aside0.mk k1
    have c0 : w1.cell? ⟨w.heap.size, 0, none⟩ = some (.int .i64 o) := cell_blk k1
    clear b1 k1
    go_wp2_with fail
    have hf4 := fix4_any o w1 (by omega)
    rw [fix_ok4 o (by omega)] at hf4
    refine hf4.mono ?_
    clear hf4
    rintro e w2 ⟨v2, rfl, hr2, b2⟩
    obtain ⟨A2, c2, rfl⟩ := Kd.R_slice hr2
    have k2 := (b2.block _ (blk_lt HK1.out)).trans HK1.out
    have HK2 := Aside0.mk k2
    have HB2 := Aside0.mk (HB1.out.trans (b2.mono HB1.out.size))
    have HR2 := Aside0.mk (Kd.R_lower hr2 HB1.out.size)
    have c1 : w2.cell? ⟨w.heap.size, 1, none⟩ = some (.int .i64 n) := cell_blk k2
    have c2' : w2.cell? ⟨w.heap.size, 2, none⟩ = some (.int .i64 x) := cell_blk k2
    have c3 : w2.cell? ⟨w.heap.size, 3, none⟩ = some (.slice A d.length c) := cell_blk k2
    clear hr2 b2 k2 c0
    go_wp2_with fail
    obtain ⟨w3, hw3⟩ : ∃ w3, w3 = w2.alloc (.cells #[.int .i64 n, .int .i64 x, .int .i64 d.length] 3) := ⟨_, rfl⟩
    have hb3 : Below w2.heap.size w2 w3 := by rw [hw3]; exact (Below.refl _ _).alloc (Nat.le_refl _) _
    have hc3 : w3.heap[w2.heap.size]? = some (.cells #[.int .i64 n, .int .i64 x, .int .i64 d.length] 3 (0, 0)) := by rw [hw3]; exact heap_alloc_new w2 _
    rw [← hw3]
    obtain ⟨g, hg⟩ : ∃ g, g = w2.heap.size := ⟨_, rfl⟩
    rw [← hg] at hc3 ⊢
    have HG := Aside0.mk hc3
    have HB3 := Aside0.mk (HB2.out.trans (hb3.mono HB2.out.size))
    have HR3 := Aside0.mk (show Kd.R (Kd.int .u8) 5 w3 w.heap.size (fun _ => True) (.slice A2 (headC o n x d 0).length c2) (headC o n x d 0) by
      have := Kd.R_below HR2.out hb3
      rw [show headC o n x d 0 = leB o 4 by simp [headC]]
      exact this)
    have HK3 := Aside0.mk ((hb3.block _ (blk_lt HK2.out)).trans HK2.out)
    have HWG := Aside0.mk (show w.heap.size < g by rw [hg]; exact blk_lt HK2.out)
    have e0 : (leB o 4).length = (headC o n x d 0).length := by rw [show headC o n x d 0 = leB o 4 by simp [headC]]
    rw [e0]
    clear hw3 hb3 hc3 hg c1 c2' c3 e0
    go_loopg [28, 7, 8, 9, 4] 3 (fun gk v28 v7 v8 v9 v4 wr => ∃ (i : Nat) (A' : Option Addr) (c' : Nat), Aside0 (i + gk = 3) ∧ v28 = .int .i64 i ∧ v4 = .slice A' (headC o n x d i).length c' ∧ Aside0 (Kd.R (Kd.int .u8) 5 wr w.heap.size (fun _ => True) (.slice A' (headC o n x d i).length c') (headC o n x d i)) ∧ Aside0 (Below w.heap.size w wr) ∧ Aside0 (wr.heap[g]? = some (.cells #[.int .i64 n, .int .i64 x, .int .i64 d.length] 3 (0, 0)) ∧ wr.heap[w.heap.size]? = some (.cells #[.int .i64 o, .int .i64 n, .int .i64 x, .slice A d.length c] 24 (0, 0))))
    case atStart => exact ⟨0, A2, c2, ⟨by omega⟩, rfl, rfl, HR3, HB3, ⟨HG.out, HK3.out⟩⟩
    case round =>
      clear HR3 HB3 HG HK3 HR2 HB2 HK2
      obtain ⟨i, A', c', HI, rfl, rfl, HR, HB, HGK⟩ := hrel
      rcases (show i = 0 ∨ i = 1 ∨ i = 2 ∨ i = 3 by have := HI.out; omega) with rfl | rfl | rfl | rfl
      · have q0 : wr.cell? ⟨g, 0, none⟩ = some (.int .i64 n) := cell_blk HGK.out.1
        go_wp2_with fail
        have hf := fix2_any n wr (by omega)
        rw [fix_small2 n (by omega) (by omega)] at hf
        refine hf.mono ?_
        clear hf
        rintro e w5 ⟨v5, rfl, hr5, b5⟩
        obtain ⟨A5, c5, rfl⟩ := Kd.R_slice hr5
        have HC5 := Aside0.mk (row_at hr5)
        have HB5 := Aside0.mk (HB.out.trans (b5.mono HB.out.size))
        have HR5 := Aside0.mk (Kd.R_below HR.out b5)
        have HGK5 := Aside0.mk (And.intro ((b5.block _ (blk_lt HGK.out.1)).trans HGK.out.1) ((b5.block _ (blk_lt HGK.out.2)).trans HGK.out.2))
        clear hr5 b5
        go_wp2_with ((with_reducible refine gate_builtin (b := .append) (xs := #[.tmp 37, .tmp 38]) rfl ?_); at_builtin; refine Hid.out ?_)
        refine Lib.hid ?_
        refine Kd.R_append_rows (Kd.int .u8) (Rr := (Kd.int .u8).K w5) (w0 := w) w.heap.size rfl (.tmp 37) (.tmp 38) 22 5 (.int .u8 0) 1 rfl Try.underlying22 infoU8 rfl (by decide) (by omega) (.slice A' (headC o n x d 0).length c') (headC o n x d 0) (leB n 2) A5 (leB n 2).length c5 (fun _ => True) (fun _ => False) rfl rfl HR5.out HC5.out (fun x cs h => h) (fun _ hk => hk.elim) (fun _ _ => trivial) HB5.out HB5.out.size (by rw [headC_len _ _ _ _ 0 (by omega), leB_len]; omega) ?_
        intro v6 w6 ho hb hg _
        rw [headC1] at ho
        have HGK6 := Aside0.mk (And.intro ((hg.block g (blk_lt HGK5.out.1) (Kd.R_ne HR5.out HGK5.out.1 (by decide))).trans HGK5.out.1) ((hg.block w.heap.size (blk_lt HGK5.out.2) (Kd.R_ne HR5.out HGK5.out.2 (by decide))).trans HGK5.out.2))
        clear hg
        obtain ⟨A6, c6, rfl⟩ := Kd.R_slice ho
        have HO6 := Aside0.mk ho
        have HB6 := Aside0.mk hb
        clear ho hb
        go_wp2_with fail
        go_roundg (2)
        case measure => have := HI.out; omega
        case rel => exact ⟨1, A6, c6, ⟨by omega⟩, by go_num, rfl, HO6, HB6, HGK6⟩
      · have q0 : wr.cell? ⟨g, 1, none⟩ = some (.int .i64 x) := cell_blk HGK.out.1
        go_wp2_with fail
        have hf := fix2_any x wr (by omega)
        rw [fix_small2 x (by omega) (by omega)] at hf
        refine hf.mono ?_
        clear hf
        rintro e w5 ⟨v5, rfl, hr5, b5⟩
        obtain ⟨A5, c5, rfl⟩ := Kd.R_slice hr5
        have HC5 := Aside0.mk (row_at hr5)
        have HB5 := Aside0.mk (HB.out.trans (b5.mono HB.out.size))
        have HR5 := Aside0.mk (Kd.R_below HR.out b5)
        have HGK5 := Aside0.mk (And.intro ((b5.block _ (blk_lt HGK.out.1)).trans HGK.out.1) ((b5.block _ (blk_lt HGK.out.2)).trans HGK.out.2))
        clear hr5 b5
        go_wp2_with ((with_reducible refine gate_builtin (b := .append) (xs := #[.tmp 37, .tmp 38]) rfl ?_); at_builtin; refine Hid.out ?_)
        refine Lib.hid ?_
        refine Kd.R_append_rows (Kd.int .u8) (Rr := (Kd.int .u8).K w5) (w0 := w) w.heap.size rfl (.tmp 37) (.tmp 38) 22 5 (.int .u8 0) 1 rfl Try.underlying22 infoU8 rfl (by decide) (by omega) (.slice A' (headC o n x d 1).length c') (headC o n x d 1) (leB x 2) A5 (leB x 2).length c5 (fun _ => True) (fun _ => False) rfl rfl HR5.out HC5.out (fun x cs h => h) (fun _ hk => hk.elim) (fun _ _ => trivial) HB5.out HB5.out.size (by rw [headC_len _ _ _ _ 1 (by omega), leB_len]; omega) ?_
        intro v6 w6 ho hb hg _
        rw [headC2] at ho
        have HGK6 := Aside0.mk (And.intro ((hg.block g (blk_lt HGK5.out.1) (Kd.R_ne HR5.out HGK5.out.1 (by decide))).trans HGK5.out.1) ((hg.block w.heap.size (blk_lt HGK5.out.2) (Kd.R_ne HR5.out HGK5.out.2 (by decide))).trans HGK5.out.2))
        clear hg
        obtain ⟨A6, c6, rfl⟩ := Kd.R_slice ho
        have HO6 := Aside0.mk ho
        have HB6 := Aside0.mk hb
        clear ho hb
        go_wp2_with fail
        go_roundg (1)
        case measure => have := HI.out; omega
        case rel => exact ⟨2, A6, c6, ⟨by omega⟩, by go_num, rfl, HO6, HB6, HGK6⟩
      · have q0 : wr.cell? ⟨g, 2, none⟩ = some (.int .i64 d.length) := cell_blk HGK.out.1
        go_wp2_with fail
        have hf := fix2_any (d.length : Int) wr (by omega)
        rw [fix_small2 (d.length : Int) (by omega) (by omega)] at hf
        refine hf.mono ?_
        clear hf
        rintro e w5 ⟨v5, rfl, hr5, b5⟩
        obtain ⟨A5, c5, rfl⟩ := Kd.R_slice hr5
        have HC5 := Aside0.mk (row_at hr5)
        have HB5 := Aside0.mk (HB.out.trans (b5.mono HB.out.size))
        have HR5 := Aside0.mk (Kd.R_below HR.out b5)
        have HGK5 := Aside0.mk (And.intro ((b5.block _ (blk_lt HGK.out.1)).trans HGK.out.1) ((b5.block _ (blk_lt HGK.out.2)).trans HGK.out.2))
        clear hr5 b5
        go_wp2_with ((with_reducible refine gate_builtin (b := .append) (xs := #[.tmp 37, .tmp 38]) rfl ?_); at_builtin; refine Hid.out ?_)
        refine Lib.hid ?_
        refine Kd.R_append_rows (Kd.int .u8) (Rr := (Kd.int .u8).K w5) (w0 := w) w.heap.size rfl (.tmp 37) (.tmp 38) 22 5 (.int .u8 0) 1 rfl Try.underlying22 infoU8 rfl (by decide) (by omega) (.slice A' (headC o n x d 2).length c') (headC o n x d 2) (leB (d.length : Int) 2) A5 (leB (d.length : Int) 2).length c5 (fun _ => True) (fun _ => False) rfl rfl HR5.out HC5.out (fun x cs h => h) (fun _ hk => hk.elim) (fun _ _ => trivial) HB5.out HB5.out.size (by rw [headC_len _ _ _ _ 2 (by omega), leB_len]; omega) ?_
        intro v6 w6 ho hb hg _
        rw [headC3] at ho
        have HGK6 := Aside0.mk (And.intro ((hg.block g (blk_lt HGK5.out.1) (Kd.R_ne HR5.out HGK5.out.1 (by decide))).trans HGK5.out.1) ((hg.block w.heap.size (blk_lt HGK5.out.2) (Kd.R_ne HR5.out HGK5.out.2 (by decide))).trans HGK5.out.2))
        clear hg
        obtain ⟨A6, c6, rfl⟩ := Kd.R_slice ho
        have HO6 := Aside0.mk ho
        have HB6 := Aside0.mk hb
        clear ho hb
        go_wp2_with fail
        go_roundg (0)
        case measure => have := HI.out; omega
        case rel => exact ⟨3, A6, c6, ⟨by omega⟩, by go_num, rfl, HO6, HB6, HGK6⟩
      · have q3 : wr.cell? ⟨w.heap.size, 3, none⟩ = some (.slice A d.length c) := cell_blk HGK.out.2
        have hl3 := headC_len o n x d 3 (by omega)
        go_wp2_with ((with_reducible refine gate_builtin (b := .append) (xs := #[.tmp 41, .tmp 43]) rfl ?_); at_builtin; refine Hid.out ?_)
        refine Lib.hid ?_
        refine Kd.R_append_rows (Kd.int .u8) (Rr := (Kd.int .u8).K wr) (w0 := w) w.heap.size rfl (.tmp 41) (.tmp 43) 22 5 (.int .u8 0) 1 rfl Try.underlying22 infoU8 rfl (by decide) (by omega) (.slice A' (headC o n x d 3).length c') (headC o n x d 3) d A d.length c (fun _ => True) (fun _ => False) rfl rfl HR.out (Kd.C_below HC.out HB.out) (fun x cs h => h) (fun _ hk => hk.elim) (fun _ _ => trivial) HB.out HB.out.size (by omega) ?_
        intro v6 w6 ho hb _ _
        obtain ⟨A6, c6, rfl⟩ := Kd.R_slice ho
        have HO6 := Aside0.mk ho
        have HB6 := Aside0.mk hb
        have hlen : (headC o n x d 3 ++ d).length = 10 + d.length := by rw [List.length_append, hl3]
        have HLEN := Aside0.mk hlen
        have ho7 := ho
        rw [hlen] at ho7 ⊢
        clear ho hb hl3 q3 hlen
        go_wp2_with ((with_reducible refine gate_builtin (b := .append) (xs := #[.tmp 45, .tmp 48]) rfl ?_); at_builtin; refine Hid.out ?_)
        refine Lib.hid ?_
        have HO7 := Aside0.mk ho7
        clear ho7
        refine Kd.R_append_zeros (Kd.int .u8) (w0 := w) w.heap.size rfl (.tmp 45) (.tmp 48) 22 3 5 (.int .u8 0) 1 rfl Try.underlying22 Try.underlying3 infoU8 rfl (by decide) (by omega) (.slice A6 (10 + d.length) c6) (headC o n x d 3 ++ d) 0 (kx := .i64) (252 - (10 + (d.length : Int))) (fun _ => True) rfl rfl rfl (fun _ _ => trivial) HO7.out (by omega) HB6.out HB6.out.size (by rw [HLEN.out]; omega) ?_
        intro v7 w7 ho hb _ _
        rw [show (252 - (10 + (d.length : Int))).toNat = 242 - d.length by omega] at ho
        have HO8 := Aside0.mk (show Kd.R (Kd.int .u8) 5 w7 w.heap.size (fun _ => True) v7 (bodyC o n x d) from ho)
        have HB7 := Aside0.mk hb
        clear ho hb
        obtain ⟨A7, c7, rfl⟩ := Kd.R_slice HO8.out
        have hbl := bodyC_len o n x d d2
        have HBL := Aside0.mk hbl
        have hcap := (Kd.R_reads' HO8.out).2.1
        go_wp2_with fail
        have hsl := seal_any A7 c7 (bodyC o n x d) w7 (row_at HO8.out) (bodyC_byte o n x d HBY.out) (by omega)
        rw [HBL.out] at hsl
        refine hsl.mono ?_
        clear hsl
        rintro e w8 ⟨v8, rfl, hr8, b8⟩
        have HR8 := Aside0.mk (Kd.R_lower hr8 HB7.out.size)
        have HB8 := Aside0.mk (HB7.out.trans (b8.mono HB7.out.size))
        clear hr8 b8 hbl hcap
        go_wp2_with fail
        go_ret2
        exact ⟨_, by rw [HQ.out]; rfl, by rw [HQ.out]; exact HR8.out, HB8.out⟩
end Cell
end Go.Proofs.Ytkfbegmfepehiaa
