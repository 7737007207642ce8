import Derived.Test.YtkfbegmfepehiaaZKt
import Derived.Below
import Derived.Lib.Hide
import Derived.OwnWalk
import Derived.WalkKit
import Derived.KernelRfl
import Derived.RowKit3
import Derived.Deep.LoopGhost
import Derived.Deep.QuietTactic
import Derived.BigQuiet
import Derived.WideLaws
import Derived.Great.BuildSlice
import Derived.Outline
import Derived.Deep.DeepCutAuto
import Derived.WalkSpells
import Derived.RegionTactic
import Derived.BigRegion
import Derived.WalkLawsBesides
import Derived.IntWalk
namespace Go.Proofs.Ytkfbegmfepehiaa
set_option linter.unusedVariables false
set_option linter.unusedSimpArgs false
open Go.RowKit Go.Proofs.YtkfbegmfepehiaaW.PrintWords Go.Proofs.YtkfbegmfepehiaaW.PrintLast Go.Proofs.YtkfbegmfepehiaaW.PrintMore
namespace Cell
open Go.Num Go.Crc PCellGets
def bytesN (n : Int) : List Int := [n % 256, n / 256 % 256, n / 65536 % 256, n / 16777216 % 256]
theorem leB1_eq (n : Int) : leB n 1 = [n % 256] := rfl
theorem leB2_eq (n : Int) : leB n 2 = [n % 256, n / 256 % 256] := rfl
theorem leB4_eq (n : Int) : leB n 4 = [n % 256, n / 256 % 256, n / 65536 % 256, n / 16777216 % 256] := by
  simp only [leB, List.cons.injEq, and_true, true_and]
  exact ⟨by omega, by omega⟩
theorem infoU8 : (Try.prog.info? 5).map (fun i => (i.zero, i.size, i.bytes)) = some (some (.int .u8 0), 1, 1) := by kernel_rfl
theorem cell_blk {w : World} {b k t : Nat} {cs : Array Value} (h : w.heap[b]? = some (.cells cs t (0, 0))) : w.cell? ⟨b, k, none⟩ = cs[k]? := blk_cell h k
theorem frozen_blk {w : World} {b k t : Nat} {cs : Array Value} (h : w.heap[b]? = some (.cells cs t (0, 0))) : w.frozen? ⟨b, k, none⟩ = false := blk_frozen h k
theorem row_at {w : World} {base : Nat} {ok : Nat → Prop} {A : Option Addr} {l c : Nat} {xs : List Int} (h : Kd.R (Kd.int .u8) 5 w base ok (.slice A l c) xs) : Kd.C (Kd.int .u8) w A xs.length xs := (Kd.R_reads' h).2.2
theorem row_of {w : World} {base g cap : Nat} {ok : Nat → Prop} {xs : List Int} {sp : List Value} (hb : w.heap[g]? = some (.cells (xs.map (Value.int .u8) ++ sp).toArray 5 (0, 0))) (hbase : base ≤ g) (hok : ok g) (hc : xs.length + sp.length = cap) (hm : cap ≤ 9223372036854775807) : Kd.R (Kd.int .u8) 5 w base ok (.slice (some ⟨g, 0, none⟩) xs.length cap) xs := by
  refine Kd.R_of_own (enc := Value.int .u8) ?_ (fun k hk => ?_)
  · refine ⟨by simp [encs], .inr ⟨g, cap, _, rfl, hbase, hb, by omega, hm, by simp; omega, ?_⟩⟩
    simp [encs]
  · obtain rfl : g = k := by simpa [Value.ownBlock] using hk
    exact hok
theorem make8 (m : Nat) (hm : m ≤ 1000000) (W : World) : (Instr.makeSlice 22 (.int .i64 (m : Int)) (.int .i64 (m : Int))).run Try.prog W = .ok (.slice (some ⟨W.heap.size, 0, none⟩) m m) (W.alloc (.cells (madeCells #[.int .u8 0] m) 5)) :=
  print_make 22 5 .u8 1 Try.underlying22 infoU8 (by decide) m (by omega) W
theorem made8 (m : Nat) : madeCells #[.int .u8 0] m = ((List.replicate m (0 : Int)).map (Value.int .u8)).toArray := by
  apply Array.ext
  · rw [size_madeCells]; simp
  · intro i h1 h2
    rw [size_madeCells] at h1
    simp [madeCells, Nat.mod_one]
set_option maxHeartbeats 8000000 in
set_option maxRecDepth 100000 in
theorem fix1_any (n : Int) (w : World) (hn : -9223372036854775808 ≤ n ∧ n ≤ 9223372036854775807) :
    Calls Try.prog 35 #[.int .i64 n, .int .i64 1] w fun e w' => ∃ v, e = .returned (.tuple #[v, .int .i64 (fixP n 1).2]) ∧ Kd.R (Kd.int .u8) 5 w' w.heap.size (fun _ => True) v (fixP n 1).1 ∧ Below w.heap.size w w' := by
  by_cases h0 : 0 ≤ n ∧ n ≤ 2147483647
  · by_cases hL : n < 256
    · have hf : fixP n 1 = (leB n 1, 0) := by unfold fixP; rw [if_neg (by rw [show (256 : Int) ^ ((1 : Int)).toNat = 256 from by decide]; omega)]; rfl
      rw [hf]
      have hmk : ∀ W : World, (Instr.makeSlice 22 (.int .i64 1) (.int .i64 1)).run Try.prog W = .ok (.slice (some ⟨W.heap.size, 0, none⟩) 1 1) (W.alloc (.cells #[.int .u8 0] 5)) := fun W => by
        have := make8 1 (by omega) W
        rw [made8] at this
        exact this
      have hq : n / 256 = 0 := Int.ediv_eq_zero_of_lt h0.1 hL
      have HN := Aside0.mk h0
      have EL := Aside0.mk (show n % 256 = n by omega)
      obtain ⟨hn0, hn1⟩ := h0
      clear hf hn
      go_enter Try.func35, Try.ntmps35
      go_wp2_with fail
      refine (num_is.calls n true w (by rw [is_plain, decide_eq_true HN.out])).mono ?_
      rintro e w1 ⟨rfl, hd⟩
      have HB1 := Aside0.mk hd.below
      clear hd
      go_wp2_with fail
      obtain ⟨w2, hw2⟩ : ∃ w2, w2 = w1.alloc (.cells #[.int .u8 0] 5) := ⟨_, rfl⟩
      have hb2 : Below w.heap.size w w2 := by rw [hw2]; exact HB1.out.alloc HB1.out.size _
      have hc2 : w2.heap[w1.heap.size]? = some (.cells #[.int .u8 0] 5 (0, 0)) := by rw [hw2]; exact heap_alloc_new w1 _
      rw [← hw2]
      obtain ⟨g, hg⟩ : ∃ g, g = w1.heap.size := ⟨_, rfl⟩
      rw [← hg] at hc2 ⊢
      have HG := Aside0.mk (show w.heap.size ≤ g by rw [hg]; exact HB1.out.size)
      have HB2 := Aside0.mk hb2
      have HC2 := Aside0.mk hc2
      clear hw2 hb2 hc2 hg
      go_loopg [30, 7] 1 (fun gk v30 v7 wr => ∃ (i : Nat), Aside0 (i + gk = 1) ∧ v30 = .int .i64 i ∧ Aside0 (wr.heap[g]? = some (.cells (((bytesN n).take i ++ List.replicate (1 - i) 0).map (Value.int .u8)).toArray 5 (0, 0))) ∧ Aside0 (Below w.heap.size w wr))
      case atStart => exact ⟨0, ⟨by omega⟩, rfl, HC2, HB2⟩
      case round =>
        clear HC2 HB2
        obtain ⟨i, HI, rfl, HX, HB⟩ := hrel
        rcases (show i = 0 ∨ i = 1 by have := HI.out; omega) with rfl | rfl
        · have c0 : wr.cell? ⟨g, 0, none⟩ = some (.int .u8 0) := by rw [cell_blk HX.out]; rfl
          have f0 : wr.frozen? ⟨g, 0, none⟩ = false := frozen_blk HX.out
          go_wp2_with fail
          go_roundg (1 - 1)
          case measure => have := HI.out; omega
          case rel => exact ⟨1, ⟨by have := HI.out; omega⟩, by go_num, ⟨by rw [blk_set HX.out]; first | rfl | simp [bytesN, EL.out]⟩, ⟨HB.out.setCell (p := ⟨g, 0, none⟩) HG.out _⟩⟩
        · go_wp2_with fail
          go_ret2
          refine ⟨_, rfl, ?_, HB.out⟩
          rw [leB1_eq]
          exact row_of (xs := [n % 256]) (sp := []) (by rw [HX.out]; rfl) HG.out trivial rfl (by omega)
    · have hf : fixP n 1 = ([], 1) := by unfold fixP; rw [if_pos (by rw [show (256 : Int) ^ ((1 : Int)).toNat = 256 from by decide]; omega)]
      rw [hf]
      have hq : 0 < n / 256 := by omega
      have HN := Aside0.mk h0
      obtain ⟨hn0, hn1⟩ := h0
      clear hf hn
      go_enter Try.func35, Try.ntmps35
      go_wp2_with fail
      refine (num_is.calls n true w (by rw [is_plain, decide_eq_true HN.out])).mono ?_
      rintro e w1 ⟨rfl, hd⟩
      have HB1 := Aside0.mk hd.below
      clear hd
      go_wp2_with fail
      go_ret2
      exact ⟨_, rfl, Kd.R_nil _ _ _ _ _, HB1.out⟩
  · have hf : fixP n 1 = ([], 1) := by unfold fixP; rw [if_pos (by omega)]
    rw [hf]
    have HN := Aside0.mk h0
    clear hf h0
    go_enter Try.func35, Try.ntmps35
    go_wp2_with fail
    refine (num_is.calls n false w (by rw [is_plain, decide_eq_false HN.out])).mono ?_
    rintro e w1 ⟨rfl, hd⟩
    have HB1 := Aside0.mk hd.below
    clear hd
    go_wp2_with fail
    go_ret2
    exact ⟨_, rfl, Kd.R_nil _ _ _ _ _, HB1.out⟩
set_option maxHeartbeats 8000000 in
set_option maxRecDepth 100000 in
theorem fix2_any (n : Int) (w : World) (hn : -9223372036854775808 ≤ n ∧ n ≤ 9223372036854775807) :
    Calls Try.prog 35 #[.int .i64 n, .int .i64 2] w fun e w' => ∃ v, e = .returned (.tuple #[v, .int .i64 (fixP n 2).2]) ∧ Kd.R (Kd.int .u8) 5 w' w.heap.size (fun _ => True) v (fixP n 2).1 ∧ Below w.heap.size w w' := by
  by_cases h0 : 0 ≤ n ∧ n ≤ 2147483647
  · by_cases hL : n < 65536
    · have hf : fixP n 2 = (leB n 2, 0) := by unfold fixP; rw [if_neg (by rw [show (256 : Int) ^ ((2 : Int)).toNat = 65536 from by decide]; omega)]; rfl
      rw [hf]
      have hmk : ∀ W : World, (Instr.makeSlice 22 (.int .i64 2) (.int .i64 2)).run Try.prog W = .ok (.slice (some ⟨W.heap.size, 0, none⟩) 2 2) (W.alloc (.cells #[.int .u8 0, .int .u8 0] 5)) := fun W => by
        have := make8 2 (by omega) W
        rw [made8] at this
        exact this
      have hq : n / 65536 = 0 := Int.ediv_eq_zero_of_lt h0.1 hL
      have HN := Aside0.mk h0
      have EL := Aside0.mk (show n / 256 % 256 = n / 256 by omega)
      obtain ⟨hn0, hn1⟩ := h0
      clear hf hn
      go_enter Try.func35, Try.ntmps35
      go_wp2_with fail
      refine (num_is.calls n true w (by rw [is_plain, decide_eq_true HN.out])).mono ?_
      rintro e w1 ⟨rfl, hd⟩
      have HB1 := Aside0.mk hd.below
      clear hd
      go_wp2_with fail
      obtain ⟨w2, hw2⟩ : ∃ w2, w2 = w1.alloc (.cells #[.int .u8 0, .int .u8 0] 5) := ⟨_, rfl⟩
      have hb2 : Below w.heap.size w w2 := by rw [hw2]; exact HB1.out.alloc HB1.out.size _
      have hc2 : w2.heap[w1.heap.size]? = some (.cells #[.int .u8 0, .int .u8 0] 5 (0, 0)) := by rw [hw2]; exact heap_alloc_new w1 _
      rw [← hw2]
      obtain ⟨g, hg⟩ : ∃ g, g = w1.heap.size := ⟨_, rfl⟩
      rw [← hg] at hc2 ⊢
      have HG := Aside0.mk (show w.heap.size ≤ g by rw [hg]; exact HB1.out.size)
      have HB2 := Aside0.mk hb2
      have HC2 := Aside0.mk hc2
      clear hw2 hb2 hc2 hg
      go_loopg [30, 7] 2 (fun gk v30 v7 wr => ∃ (i : Nat), Aside0 (i + gk = 2) ∧ v30 = .int .i64 i ∧ Aside0 (wr.heap[g]? = some (.cells (((bytesN n).take i ++ List.replicate (2 - i) 0).map (Value.int .u8)).toArray 5 (0, 0))) ∧ Aside0 (Below w.heap.size w wr))
      case atStart => exact ⟨0, ⟨by omega⟩, rfl, HC2, HB2⟩
      case round =>
        clear HC2 HB2
        obtain ⟨i, HI, rfl, HX, HB⟩ := hrel
        rcases (show i = 0 ∨ i = 1 ∨ i = 2 by have := HI.out; omega) with rfl | rfl | rfl
        · have c0 : wr.cell? ⟨g, 0, none⟩ = some (.int .u8 0) := by rw [cell_blk HX.out]; rfl
          have f0 : wr.frozen? ⟨g, 0, none⟩ = false := frozen_blk HX.out
          go_wp2_with fail
          go_roundg (2 - 1)
          case measure => have := HI.out; omega
          case rel => exact ⟨1, ⟨by have := HI.out; omega⟩, by go_num, ⟨by rw [blk_set HX.out]; first | rfl | simp [bytesN, EL.out]⟩, ⟨HB.out.setCell (p := ⟨g, 0, none⟩) HG.out _⟩⟩
        · have c0 : wr.cell? ⟨g, 1, none⟩ = some (.int .u8 0) := by rw [cell_blk HX.out]; rfl
          have f0 : wr.frozen? ⟨g, 1, none⟩ = false := frozen_blk HX.out
          go_wp2_with fail
          go_roundg (2 - 2)
          case measure => have := HI.out; omega
          case rel => exact ⟨2, ⟨by have := HI.out; omega⟩, by go_num, ⟨by rw [blk_set HX.out]; first | rfl | simp [bytesN, EL.out]⟩, ⟨HB.out.setCell (p := ⟨g, 1, none⟩) HG.out _⟩⟩
        · go_wp2_with fail
          go_ret2
          refine ⟨_, rfl, ?_, HB.out⟩
          rw [leB2_eq]
          exact row_of (xs := [n % 256, n / 256 % 256]) (sp := []) (by rw [HX.out]; rfl) HG.out trivial rfl (by omega)
    · have hf : fixP n 2 = ([], 1) := by unfold fixP; rw [if_pos (by rw [show (256 : Int) ^ ((2 : Int)).toNat = 65536 from by decide]; omega)]
      rw [hf]
      have hq : 0 < n / 65536 := by omega
      have HN := Aside0.mk h0
      obtain ⟨hn0, hn1⟩ := h0
      clear hf hn
      go_enter Try.func35, Try.ntmps35
      go_wp2_with fail
      refine (num_is.calls n true w (by rw [is_plain, decide_eq_true HN.out])).mono ?_
      rintro e w1 ⟨rfl, hd⟩
      have HB1 := Aside0.mk hd.below
      clear hd
      go_wp2_with fail
      go_ret2
      exact ⟨_, rfl, Kd.R_nil _ _ _ _ _, HB1.out⟩
  · have hf : fixP n 2 = ([], 1) := by unfold fixP; rw [if_pos (by omega)]
    rw [hf]
    have HN := Aside0.mk h0
    clear hf h0
    go_enter Try.func35, Try.ntmps35
    go_wp2_with fail
    refine (num_is.calls n false w (by rw [is_plain, decide_eq_false HN.out])).mono ?_
    rintro e w1 ⟨rfl, hd⟩
    have HB1 := Aside0.mk hd.below
    clear hd
    go_wp2_with fail
    go_ret2
    exact ⟨_, rfl, Kd.R_nil _ _ _ _ _, HB1.out⟩
set_option maxHeartbeats 8000000 in
set_option maxRecDepth 100000 in
theorem fix4_any (n : Int) (w : World) (hn : -9223372036854775808 ≤ n ∧ n ≤ 9223372036854775807) :
    Calls Try.prog 35 #[.int .i64 n, .int .i64 4] w fun e w' => ∃ v, e = .returned (.tuple #[v, .int .i64 (fixP n 4).2]) ∧ Kd.R (Kd.int .u8) 5 w' w.heap.size (fun _ => True) v (fixP n 4).1 ∧ Below w.heap.size w w' := by
  by_cases h0 : 0 ≤ n ∧ n ≤ 2147483647
  · by_cases hL : n < 4294967296
    · have hf : fixP n 4 = (leB n 4, 0) := by unfold fixP; rw [if_neg (by rw [show (256 : Int) ^ ((4 : Int)).toNat = 4294967296 from by decide]; omega)]; rfl
      rw [hf]
      have hmk : ∀ W : World, (Instr.makeSlice 22 (.int .i64 4) (.int .i64 4)).run Try.prog W = .ok (.slice (some ⟨W.heap.size, 0, none⟩) 4 4) (W.alloc (.cells #[.int .u8 0, .int .u8 0, .int .u8 0, .int .u8 0] 5)) := fun W => by
        have := make8 4 (by omega) W
        rw [made8] at this
        exact this
      have hq : n / 4294967296 = 0 := Int.ediv_eq_zero_of_lt h0.1 hL
      have HN := Aside0.mk h0
      have EL := Aside0.mk (show n / 16777216 % 256 = n / 16777216 by omega)
      obtain ⟨hn0, hn1⟩ := h0
      clear hf hn
      go_enter Try.func35, Try.ntmps35
      go_wp2_with fail
      refine (num_is.calls n true w (by rw [is_plain, decide_eq_true HN.out])).mono ?_
      rintro e w1 ⟨rfl, hd⟩
      have HB1 := Aside0.mk hd.below
      clear hd
      go_wp2_with fail
      obtain ⟨w2, hw2⟩ : ∃ w2, w2 = w1.alloc (.cells #[.int .u8 0, .int .u8 0, .int .u8 0, .int .u8 0] 5) := ⟨_, rfl⟩
      have hb2 : Below w.heap.size w w2 := by rw [hw2]; exact HB1.out.alloc HB1.out.size _
      have hc2 : w2.heap[w1.heap.size]? = some (.cells #[.int .u8 0, .int .u8 0, .int .u8 0, .int .u8 0] 5 (0, 0)) := by rw [hw2]; exact heap_alloc_new w1 _
      rw [← hw2]
      obtain ⟨g, hg⟩ : ∃ g, g = w1.heap.size := ⟨_, rfl⟩
      rw [← hg] at hc2 ⊢
      have HG := Aside0.mk (show w.heap.size ≤ g by rw [hg]; exact HB1.out.size)
      have HB2 := Aside0.mk hb2
      have HC2 := Aside0.mk hc2
      clear hw2 hb2 hc2 hg
      go_loopg [30, 7] 4 (fun gk v30 v7 wr => ∃ (i : Nat), Aside0 (i + gk = 4) ∧ v30 = .int .i64 i ∧ Aside0 (wr.heap[g]? = some (.cells (((bytesN n).take i ++ List.replicate (4 - i) 0).map (Value.int .u8)).toArray 5 (0, 0))) ∧ Aside0 (Below w.heap.size w wr))
      case atStart => exact ⟨0, ⟨by omega⟩, rfl, HC2, HB2⟩
      case round =>
        clear HC2 HB2
        obtain ⟨i, HI, rfl, HX, HB⟩ := hrel
        rcases (show i = 0 ∨ i = 1 ∨ i = 2 ∨ i = 3 ∨ i = 4 by have := HI.out; omega) with rfl | rfl | rfl | rfl | rfl
        · have c0 : wr.cell? ⟨g, 0, none⟩ = some (.int .u8 0) := by rw [cell_blk HX.out]; rfl
          have f0 : wr.frozen? ⟨g, 0, none⟩ = false := frozen_blk HX.out
          go_wp2_with fail
          go_roundg (4 - 1)
          case measure => have := HI.out; omega
          case rel => exact ⟨1, ⟨by have := HI.out; omega⟩, by go_num, ⟨by rw [blk_set HX.out]; first | rfl | simp [bytesN, EL.out]⟩, ⟨HB.out.setCell (p := ⟨g, 0, none⟩) HG.out _⟩⟩
        · have c0 : wr.cell? ⟨g, 1, none⟩ = some (.int .u8 0) := by rw [cell_blk HX.out]; rfl
          have f0 : wr.frozen? ⟨g, 1, none⟩ = false := frozen_blk HX.out
          go_wp2_with fail
          go_roundg (4 - 2)
          case measure => have := HI.out; omega
          case rel => exact ⟨2, ⟨by have := HI.out; omega⟩, by go_num, ⟨by rw [blk_set HX.out]; first | rfl | simp [bytesN, EL.out]⟩, ⟨HB.out.setCell (p := ⟨g, 1, none⟩) HG.out _⟩⟩
        · have c0 : wr.cell? ⟨g, 2, none⟩ = some (.int .u8 0) := by rw [cell_blk HX.out]; rfl
          have f0 : wr.frozen? ⟨g, 2, none⟩ = false := frozen_blk HX.out
          go_wp2_with fail
          go_roundg (4 - 3)
          case measure => have := HI.out; omega
          case rel => exact ⟨3, ⟨by have := HI.out; omega⟩, by go_num, ⟨by rw [blk_set HX.out]; first | rfl | simp [bytesN, EL.out]⟩, ⟨HB.out.setCell (p := ⟨g, 2, none⟩) HG.out _⟩⟩
        · have c0 : wr.cell? ⟨g, 3, none⟩ = some (.int .u8 0) := by rw [cell_blk HX.out]; rfl
          have f0 : wr.frozen? ⟨g, 3, none⟩ = false := frozen_blk HX.out
          go_wp2_with fail
          go_roundg (4 - 4)
          case measure => have := HI.out; omega
          case rel => exact ⟨4, ⟨by have := HI.out; omega⟩, by go_num, ⟨by rw [blk_set HX.out]; first | rfl | simp [bytesN, EL.out]⟩, ⟨HB.out.setCell (p := ⟨g, 3, none⟩) HG.out _⟩⟩
        · go_wp2_with fail
          go_ret2
          refine ⟨_, rfl, ?_, HB.out⟩
          rw [leB4_eq]
          exact row_of (xs := [n % 256, n / 256 % 256, n / 65536 % 256, n / 16777216 % 256]) (sp := []) (by rw [HX.out]; rfl) HG.out trivial rfl (by omega)
    · have hf : fixP n 4 = ([], 1) := by unfold fixP; rw [if_pos (by rw [show (256 : Int) ^ ((4 : Int)).toNat = 4294967296 from by decide]; omega)]
      rw [hf]
      have hq : 0 < n / 4294967296 := by omega
      have HN := Aside0.mk h0
      obtain ⟨hn0, hn1⟩ := h0
      clear hf hn
      go_enter Try.func35, Try.ntmps35
      go_wp2_with fail
      refine (num_is.calls n true w (by rw [is_plain, decide_eq_true HN.out])).mono ?_
      rintro e w1 ⟨rfl, hd⟩
      have HB1 := Aside0.mk hd.below
      clear hd
      go_wp2_with fail
      go_ret2
      exact ⟨_, rfl, Kd.R_nil _ _ _ _ _, HB1.out⟩
  · have hf : fixP n 4 = ([], 1) := by unfold fixP; rw [if_pos (by omega)]
    rw [hf]
    have HN := Aside0.mk h0
    clear hf h0
    go_enter Try.func35, Try.ntmps35
    go_wp2_with fail
    refine (num_is.calls n false w (by rw [is_plain, decide_eq_false HN.out])).mono ?_
    rintro e w1 ⟨rfl, hd⟩
    have HB1 := Aside0.mk hd.below
    clear hd
    go_wp2_with fail
    go_ret2
    exact ⟨_, rfl, Kd.R_nil _ _ _ _ _, HB1.out⟩
end Cell
end Go.Proofs.Ytkfbegmfepehiaa
