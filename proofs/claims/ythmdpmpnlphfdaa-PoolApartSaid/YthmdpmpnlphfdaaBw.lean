/- Scratch. -/
import Derived.Test.YthmdpmpnlphfdaaProg
import Derived.Test.YthmdpmpnlphfdaaBp
import Derived.Test.YthmdpmpnlphfdaaReg
import Derived.Below
import Derived.Lib.Hide
import Derived.OwnWalk
import Derived.WalkKit
import Derived.KernelRfl
import Derived.RowKit3
import Derived.Deep.LoopGhost
import Derived.Deep.QuietTactic
import Derived.BigQuiet
import Derived.WideLaws
import Derived.Outline
import Derived.Deep.DeepCutAuto
import Derived.Deep.CutBlock
import Derived.WalkSpells
import Derived.RegionTactic
import Derived.BigRegion
import Derived.WalkLawsBesides
namespace Go.Proofs.Ythmdpmpnlphfdaa
open Go.RowKit
namespace Bits
open Go.Bits
def cells (ws : List Nat) (n : Nat) : Array Value := (ws.map (fun x : Nat => Value.int .u64 (x : Int)) ++ [Value.int .i64 (n : Int)]).toArray
def zeros : Array Value := cells (List.replicate 64 0) 0
theorem zeros_run (w : World) : (zeroValue 71).run Try.prog w = .ok (.agg zeros) w := by kernel_rfl
theorem zeros_size : zeros.size = 65 := by rfl
theorem zeros_set (n : Nat) : zeros.setIfInBounds 64 (.int .i64 n) = cells (List.replicate 64 0) n := by
  unfold zeros cells
  simp
set_option maxHeartbeats 1000000 in
theorem of_yes (n : Nat) (w : World) (h1 : n ≤ 4096) :
    Calls Try.prog 19 #[.int .i64 n] w fun e w' => e = .returned (.tuple #[.pointer (some ⟨w.heap.size, 0, none⟩), .int .i64 0]) ∧ w' = w.alloc (.cells (cells (List.replicate 64 0) n) 71) := by
  have hz := zeros_run
  have hzs := zeros_size
  have hzt := zeros_set n
  go_enter Try.func19, Try.ntmps19
  go_wp2
  go_ret2
  exact ⟨rfl, rfl⟩
theorem of_no (n : Int) (w : World) (h1 : n < 0 ∨ 4096 < n) :
    Calls Try.prog 19 #[.int .i64 n] w fun e w' => e = .returned (.tuple #[.pointer none, .int .i64 1]) ∧ w' = w := by
  by_cases h : n < 0
  · go_enter Try.func19, Try.ntmps19
    go_wp2
    go_ret2
    exact ⟨rfl, rfl⟩
  · have h2 : 4096 < n := by omega
    go_enter Try.func19, Try.ntmps19
    go_wp2
    go_ret2
    exact ⟨rfl, rfl⟩

/-- A set in memory. -/
def At (w : World) (b : Nat) (l : List Bool) : Prop := ∃ ws, w.heap[b]? = some (.cells (cells ws l.length) 71 (0, 0)) ∧ Says ws l

theorem cells_word {ws : List Nat} {n : Nat} (h : ws.length = 64) {k : Nat} (hk : k < 64) : (cells ws n)[k]? = some (.int .u64 ((ws.getD k 0 : Nat) : Int)) := by
  unfold cells
  simp [List.getElem?_append, h, hk]
theorem cells_n {ws : List Nat} {n : Nat} (h : ws.length = 64) : (cells ws n)[64]? = some (.int .i64 n) := by
  unfold cells
  simp [h]
theorem cells_set {ws : List Nat} {n : Nat} {k : Nat} (hk : k < ws.length) (x : Nat) : (cells ws n).setIfInBounds k (.int .u64 (x : Int)) = cells (ws.set k x) n := by
  unfold cells
  simp [hk, List.map_set]

theorem At.lt {w : World} {b : Nat} {l : List Bool} (h : At w b l) : b < w.heap.size := by
  obtain ⟨ws, h, _⟩ := h
  exact (Array.getElem?_eq_some_iff.1 h).1
theorem At.keep {w w' : World} {b : Nat} {l : List Bool} (h : At w b l) (hk : w'.heap[b]? = w.heap[b]?) : At w' b l := by
  obtain ⟨ws, h, hs⟩ := h
  exact ⟨ws, hk.trans h, hs⟩
theorem At.below {w w' : World} {b : Nat} {l : List Bool} (h : At w b l) (hk : Below w.heap.size w w') : At w' b l := h.keep (hk.block b h.lt)

theorem cell_blk {w : World} {b k t : Nat} {cs : Array Value} {fr : Nat × Nat} (h : w.heap[b]? = some (.cells cs t fr)) : w.cell? ⟨b, k, none⟩ = cs[k]? := by
  unfold World.cell?
  rw [h]
  rfl
theorem frozen_blk {w : World} {b k t : Nat} {cs : Array Value} (h : w.heap[b]? = some (.cells cs t (0, 0))) : w.frozen? ⟨b, k, none⟩ = false := by
  unfold World.frozen?
  rw [h]
  simp

theorem within_any (b : Nat) (l : List Bool) (i : Int) (w : World) (h : At w b l) :
    Calls Try.prog 42 #[.pointer (some ⟨b, 0, none⟩), .int .i64 i] w fun e w' => e = .returned (.bool (decide (0 ≤ i) && decide (i < l.length))) ∧ w = w' := by
  obtain ⟨ws, hw, hs⟩ := h
  have hn : w.cell? ⟨b, 64, none⟩ = some (.int .i64 l.length) := (cell_blk hw).trans (cells_n hs.1)
  clear hw hs
  by_cases h : 0 ≤ i
  · go_enter Try.func42, Try.ntmps42
    go_wp2
    go_ret
    exact ⟨by simp [h], rfl⟩
  · go_enter Try.func42, Try.ntmps42
    go_wp2
    go_ret
    exact ⟨by simp; omega, rfl⟩

theorem hasL_out {l : List Bool} {i : Int} (h : ¬ (0 ≤ i ∧ i < l.length)) : hasL l i = false := by
  unfold hasL
  by_cases h0 : 0 ≤ i
  · rw [List.getD_eq_getElem?_getD, List.getElem?_eq_none (by omega)]; simp
  · simp [h0]
theorem hasL_in {l : List Bool} {i : Int} (h : 0 ≤ i) : hasL l i = l.getD i.toNat false := by
  unfold hasL
  simp [h]

theorem has_any (b : Nat) (l : List Bool) (i : Int) (w : World) (h : At w b l) :
    Calls Try.prog 34 #[.pointer (some ⟨b, 0, none⟩), .int .i64 i] w fun e w' => e = .returned (.bool (hasL l i)) ∧ w = w' := by
  by_cases hi : 0 ≤ i ∧ i < l.length
  · obtain ⟨h0, h1⟩ := hi
    have HAt := Lib.hid h
    have hb : (decide (0 ≤ i) && decide (i < (l.length : Int))) = true := by simp [h0, h1]
    obtain ⟨ws, hw, hs⟩ := h
    have hl := hs.2.2.1
    have hx : w.cell? ⟨b, (i / 64).toNat, none⟩ = some (.int .u64 ((ws.getD (i / 64).toNat 0 : Nat) : Int)) := (cell_blk hw).trans (cells_word hs.1 (by omega))
    have hxlt : ws.getD (i / 64).toNat 0 < 18446744073709551616 := by
      rw [List.getD_eq_getElem?_getD, List.getElem?_eq_getElem (by have := hs.1; omega)]
      exact hs.2.1 _ (List.getElem_mem _)
    have hm := hs.2.2.2 i.toNat (by omega)
    obtain ⟨x, hxe⟩ : ∃ x, x = ws.getD (i / 64).toNat 0 := ⟨_, rfl⟩
    rw [← hxe] at hx hxlt
    have HM : Hid (x.testBit (i % 64).toNat = hasL l i) := by
      refine Lib.hid ?_
      rw [hasL_in h0, ← hm, hxe]
      unfold mem
      congr 2 <;> omega
    have HB : Hid (∀ j, (bits .and .u64 ((x : Int) / 2 ^ j) 1 == 1) = x.testBit j) := Lib.hid (and_one x hxlt)
    clear hw hs hm hxe
    go_enter Try.func34, Try.ntmps34
    go_wp2_with (go_at_call 42; refine (within_any b l i _ HAt.out).mono ?_; rintro e w' ⟨rfl, rfl⟩)
    go_ret
    exact ⟨by rw [← HM.out, ← HB.out]; rfl, rfl⟩
  · have HAt := Lib.hid h
    have hb : (decide (0 ≤ i) && decide (i < (l.length : Int))) = false := by
      rw [Bool.eq_false_iff]; simpa using hi
    rw [hasL_out hi]
    clear h
    go_enter Try.func34, Try.ntmps34
    go_wp2_with fail
    refine (within_any b l i _ HAt.out).mono ?_
    rintro e w' ⟨rfl, rfl⟩
    rw [hb]
    go_wp2_with fail
    go_ret
    exact ⟨rfl, rfl⟩
theorem has_nil (i : Int) (w : World) : Calls Try.prog 34 #[.pointer none, .int .i64 i] w fun e w' => e = .returned (.bool false) ∧ w = w' := by
  go_enter Try.func34, Try.ntmps34
  go_wp2
  go_ret
  exact ⟨rfl, rfl⟩

theorem heap_set_same {w : World} {b k t : Nat} {cs : Array Value} {fr : Nat × Nat} {v : Value} (h : w.heap[b]? = some (.cells cs t fr)) : (w.setCell ⟨b, k, none⟩ v).heap[b]? = some (.cells (cs.setIfInBounds k v) t fr) := by
  unfold World.setCell
  simp [Array.getElem?_modify, h]
theorem grown_set (b k : Nat) (v : Value) (w : World) : w.grownBy (w.setCell ⟨b, k, none⟩ v).drew (some b) :=
  ⟨rfl, rfl, rfl, by simp, fun i _ hne => Below.heap_setCell w ⟨b, k, none⟩ v i (fun e => hne (by rw [e]))⟩
theorem xor_pow (x : Nat) (hx : x < 18446744073709551616) (j : Nat) (hj : j < 64) : bits .xor .u64 (x : Int) (IntKind.u64.wrap (2 ^ j)) = ((x ^^^ 2 ^ j : Nat) : Int) := by
  have h1 : (2 : Nat) ^ j < 18446744073709551616 := by
    have : (2 : Nat) ^ j < 2 ^ 64 := Nat.pow_lt_pow_right (by omega) hj
    simpa using this
  have h2 : IntKind.u64.wrap ((2 : Int) ^ j) = ((2 ^ j : Nat) : Int) := by
    rw [IntKind.wrap_u64]
    have : ((2 : Int) ^ j) = ((2 ^ j : Nat) : Int) := by simp
    rw [this]
    generalize 2 ^ j = y at *
    omega
  rw [h2]
  exact bits_xor_u64_nat x (2 ^ j) hx h1
set_option maxHeartbeats 1000000 in
theorem turn_yes (b : Nat) (l : List Bool) (i : Nat) (was : Bool) (er : Int) (w : World) (h : At w b l) (hi : i < l.length) (hw : l.getD i false = was) :
    Calls Try.prog 40 #[.pointer (some ⟨b, 0, none⟩), .int .i64 i, .bool was, .int .i64 er] w fun e w' => e = .returned (.int .i64 0) ∧ At w' b (l.set i (!was)) ∧ w.grownBy w' (some b) := by
  have HAt := Lib.hid h
  have hb : (decide ((0 : Int) ≤ (i : Int)) && decide ((i : Int) < (l.length : Int))) = true := by simp [hi]
  have hh : hasL l (i : Int) = was := by rw [hasL_in (by omega)]; simpa using hw
  have HH := Lib.hid hh
  have hbw : (was != was) = false := by simp
  obtain ⟨ws, hwb, hs⟩ := h
  have hl := hs.2.2.1
  have hx : w.cell? ⟨b, i / 64, none⟩ = some (.int .u64 ((ws.getD (i / 64) 0 : Nat) : Int)) := (cell_blk hwb).trans (cells_word hs.1 (by omega))
  have hf : w.frozen? ⟨b, i / 64, none⟩ = false := frozen_blk hwb
  have HWB := Lib.hid hwb
  have HS := Lib.hid hs
  clear hh hs hwb hw
  go_enter Try.func40, Try.ntmps40
  go_wp2_with fail
  refine (within_any b l i _ HAt.out).mono ?_
  rintro e w' ⟨rfl, rfl⟩
  rw [hb]
  go_wp2_with fail
  refine (has_any b l i _ HAt.out).mono ?_
  rintro e w' ⟨rfl, rfl⟩
  rw [HH.out]
  go_wp2_with fail
  go_region
  go_wp2
  go_ret
  refine ⟨rfl, ?_, ?_⟩
  · have hs := HS.out
    have hwb := HWB.out
    refine ⟨ws.set (i / 64) (ws.getD (i / 64) 0 ^^^ 2 ^ (i % 64)), ?_, says_turn hs hi was (by rw [← HH.out, hasL_in (by omega)]; rfl)⟩
    have hlt : ws.getD (i / 64) 0 < 18446744073709551616 := by
      rw [List.getD_eq_getElem?_getD, List.getElem?_eq_getElem (by have := hs.1; omega)]
      exact hs.2.1 _ (List.getElem_mem _)
    show (World.setCell w _ _).heap[b]? = _
    rw [heap_set_same hwb, List.length_set, ← cells_set (by have := hs.1; omega), ← xor_pow _ hlt _ (Nat.mod_lt _ (by omega))]
    simp
  · exact grown_set b _ _ w
end Bits
end Go.Proofs.Ythmdpmpnlphfdaa
