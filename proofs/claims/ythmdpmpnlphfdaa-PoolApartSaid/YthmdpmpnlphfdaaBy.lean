/- Sets of bits: contracts, third part. -/
import Derived.Test.YthmdpmpnlphfdaaBx
import Derived.Test.YthmdpmpnlphfdaaWWords
import Derived.Test.YthmdpmpnlphfdaaWLast
import Derived.Test.YthmdpmpnlphfdaaWMore
import Derived.Below
import Derived.Deep.MidRow
import Derived.Deep.WholeRow
import Derived.Great.BuildSlice
import Derived.Lib.Hide
import Derived.OwnWalk
import Derived.WalkKit
import Derived.KernelRfl
import Derived.RowKit3
import Derived.Deep.LoopGhost
import Derived.Deep.QuietTactic
import Derived.BigQuiet
import Derived.WideLaws
import Derived.Outline
import Derived.Deep.DeepCutAuto
import Derived.Deep.CutBlock
import Derived.WalkSpells
import Derived.RegionTactic
import Derived.BigRegion
import Derived.WalkLawsBesides
namespace Go.Proofs.Ythmdpmpnlphfdaa
open Go.RowKit Go.Proofs.YthmdpmpnlphfdaaW.PrintWords Go.Proofs.YthmdpmpnlphfdaaW.PrintLast Go.Proofs.YthmdpmpnlphfdaaW.PrintMore
namespace Bits
open Go.Bits
def wordsV (ws : List Nat) : List Value := ws.map (fun x : Nat => Value.int .u64 (x : Int))
theorem cells_zero {ws : List Nat} {n : Nat} (h : ws.length = 64) : (cells ws n).size = 65 := by unfold cells; simp [h]
theorem clone_nil (w : World) : Calls Try.prog 33 #[.pointer none] w fun e w' => e = .returned (.pointer none) ∧ w = w' := by
  go_enter Try.func33, Try.ntmps33
  go_wp2
  go_ret
  exact ⟨rfl, rfl⟩
theorem count_nil (w : World) : Calls Try.prog 31 #[.pointer none] w fun e w' => e = .returned (.int .i64 0) ∧ w = w' := by
  go_enter Try.func31, Try.ntmps31
  go_wp2
  go_ret
  exact ⟨rfl, rfl⟩
theorem load_row_from {w : World} {b t : Nat} {cs : Array Value} {fr : Nat × Nat} (h : w.heap[b]? = some (.cells cs t fr)) (n : Nat) (hn : cs.size = n) : (loadCellsFrom ⟨b, 0, none⟩ 0 n #[]).run Try.prog w = .ok cs w := by
  subst hn
  have := run_loadCells_list (P := Try.prog) w ⟨b, 0, none⟩ cs.toList (fun j v hv => by
    have hadd : (⟨b, 0, none⟩ : Addr).add j = ⟨b, j, none⟩ := by unfold Addr.add; split <;> simp_all
    rw [hadd, cell_of_row _ _ j cs t fr h]
    simpa using hv)
  simpa [loadCells] using this
theorem load_pre_from {w : World} {b t : Nat} {cs cs' : List Value} {fr : Nat × Nat} (h : w.heap[b]? = some (.cells (cs ++ cs').toArray t fr)) (n : Nat) (hn : cs.length = n) : (loadCellsFrom ⟨b, 0, none⟩ 0 n #[]).run Try.prog w = .ok cs.toArray w := by
  subst hn
  have := run_loadCells_list (P := Try.prog) w ⟨b, 0, none⟩ cs (fun j v hv => by
    have hadd : (⟨b, 0, none⟩ : Addr).add j = ⟨b, j, none⟩ := by unfold Addr.add; split <;> simp_all
    rw [hadd, cell_of_row _ _ j _ t fr h]
    have hj : j < cs.length := (List.getElem?_eq_some_iff.1 hv).1
    simp only [List.getElem?_toArray]
    rw [List.getElem?_append_left hj, hv])
  simpa [loadCells] using this
theorem under60 : ∃ d, Try.prog.underlying 71 = some d ∧ d.isRow = true := by
  have h : (Try.prog.underlying 71).map TypeDesc.isRow = some true := by kernel_rfl
  cases hq : Try.prog.underlying 71 with
  | none => rw [hq] at h; simp at h
  | some d => rw [hq] at h; exact ⟨d, rfl, by simpa using h⟩
theorem under58 : ∃ d, Try.prog.underlying 69 = some d ∧ d.isRow = true := by
  have h : (Try.prog.underlying 69).map TypeDesc.isRow = some true := by kernel_rfl
  cases hq : Try.prog.underlying 69 with
  | none => rw [hq] at h; simp at h
  | some d => rw [hq] at h; exact ⟨d, rfl, by simpa using h⟩
theorem range_cells {w : World} {b : Nat} {ws : List Nat} {n : Nat} (h : w.heap[b]? = some (.cells (cells ws n) 71 (0, 0))) : w.rangeAt b 0 (cells ws n).toList := fun j v hv => by
  rw [Nat.zero_add, cell_blk h]
  simpa using hv
theorem range_words {w : World} {b : Nat} {ws : List Nat} {n : Nat} (h : w.heap[b]? = some (.cells (cells ws n) 71 (0, 0))) : w.rangeAt b 0 (wordsV ws) := fun j v hv => by
  rw [Nat.zero_add, cell_blk h]
  have hj : j < (wordsV ws).length := (List.getElem?_eq_some_iff.1 hv).1
  unfold cells
  rw [List.getElem?_toArray, List.getElem?_append_left (by simpa [wordsV] using hj)]
  exact hv
theorem clone_any (b : Nat) (l : List Bool) (w : World) (h : At w b l) :
    Calls Try.prog 33 #[.pointer (some ⟨b, 0, none⟩)] w fun e w' => e = .returned (.pointer (some ⟨w.heap.size, 0, none⟩)) ∧ At w' w.heap.size l ∧ Below w.heap.size w w' := by
  obtain ⟨ws, hw, hs⟩ := h
  have HS := Lib.hid hs
  have HW := Lib.hid hw
  have hz := zeros_run
  have hzs := zeros_size
  have hcs : Hid ((Try.prog.info? 71).map (·.size) = some (cells ws l.length).size) := Lib.hid (by rw [cells_zero hs.1]; kernel_rfl)
  have hcl : Hid ((Try.prog.info? 71).map (·.size) = some (cells ws l.length).toList.length) := Lib.hid (by rw [Array.length_toList]; exact hcs.out)
  obtain ⟨d, hu, hd⟩ := under60
  have HU := Lib.hid hu
  have HD := Lib.hid hd
  have hst : (storeCells ⟨w.heap.size, 0, none⟩ (cells ws l.length).toList 0).run Try.prog (w.alloc (.cells zeros 71)) = .ok () (w.alloc (.cells (cells ws l.length) 71)) :=
    run_storeCells_new w 71 zeros (cells ws l.length) hcs.out (by rw [cells_zero HS.out.1]; rfl) (by unfold cells; simp [Value.oneCell'])
  have hcz := cells_zero (n := l.length) hs.1
  clear hw hs hu hd
  go_enter Try.func33, Try.ntmps33
  go_wp2_with (refine wpList_load_mid (by rfl) 71 (.tmp 7) (by rfl) b 0 (by rfl) (cells ws l.length).toList d (range_cells HW.out) HU.out HD.out hcl.out ?_; rw [Array.toArray_toList])
  go_ret
  exact ⟨rfl, ⟨ws, heap_alloc_new w _, HS.out⟩, (Below.refl _ _).alloc (Nat.le_refl _) _⟩
theorem pop_and (x : Nat) (h0 : 0 < x) (hx : x < 18446744073709551616) : bits .and .u64 (x : Int) ((x : Int) - 1) = ((x &&& (x - 1) : Nat) : Int) := by
  have := u64_and_nat x (x - 1) hx (by omega)
  rw [show ((x - 1 : Nat) : Int) = (x : Int) - 1 by omega] at this
  exact this
theorem count_any (b : Nat) (l : List Bool) (w : World) (h : At w b l) :
    Calls Try.prog 31 #[.pointer (some ⟨b, 0, none⟩)] w fun e w' => e = .returned (.int .i64 ((listL l).length : Int)) ∧ w = w' := by
  obtain ⟨ws, hw, hs⟩ := h
  have HS := Lib.hid hs
  have HW := Lib.hid hw
  have HC := Lib.hid (says_count hs)
  have hcl : Hid ((Try.prog.info? 69).map (·.size) = some (wordsV ws).length) := Lib.hid (by rw [wordsV, List.length_map, hs.1]; kernel_rfl)
  obtain ⟨d, hu, hd⟩ := under58
  have HU := Lib.hid hu
  have HD := Lib.hid hd
  clear hw hs hu hd
  go_enter Try.func31, Try.ntmps31
  go_wp2_with (refine wpList_load_mid (by rfl) 69 (.tmp 11) (by rfl) b 0 (by rfl) (wordsV ws) d (range_words HW.out) HU.out HD.out hcl.out ?_)
  have hix : Hid (∀ (j : Nat) (w : World), j < 64 → (Instr.index 69 (.agg (wordsV ws).toArray) (.int .i64 j)).run Try.prog w = .ok (.int .u64 ((ws.getD j 0 : Nat) : Int)) w) := by
    refine Lib.hid ?_
    intro j w hj
    have hl : j < ws.length := by have := HS.out.1; omega
    have hv : (wordsV ws).toArray[j]? = some (.int .u64 ((ws.getD j 0 : Nat) : Int)) := by
      simp [wordsV, hl, List.getD]
    have hag : (isAgg 68).run Try.prog w = .ok false w := by kernel_rfl
    have hpt : (part 68 (wordsV ws).toArray j).run Try.prog w = .ok (.int .u64 ((ws.getD j 0 : Nat) : Int)) w := by
      unfold part
      simp only [Sem.run_bind, hag, Result.andThen_ok, hv]
      simp
    have hi : (Instr.index 69 (.agg (wordsV ws).toArray) (.int .i64 j)).run Try.prog w = (part 68 (wordsV ws).toArray j).run Try.prog w := by
      have ha : Sem.run Try.prog (asIntOf (.int .i64 (j : Int))) w = .ok (.i64, (j : Int)) w := rfl
      have hu : (underlying 69).run Try.prog w = .ok (.array 64 68) w := by kernel_rfl
      have hz : (sizeOf 68).run Try.prog w = .ok 1 w := by kernel_rfl
      simp only [Instr.index, Sem.run_bind, ha, Result.andThen_ok, hu]
      rw [if_pos ⟨by omega, by omega⟩]
      simp only [Sem.run_bind, hz, Result.andThen_ok, Int.toNat_natCast, Nat.mul_one]
    exact hi.trans hpt
  go_loopg [13, 5, 3] 64 (fun g v13 v5 v3 wr => ∃ (j n : Nat), Aside0 (j + g = 64) ∧ v13 = .int .i64 j ∧ v3 = .int .i64 n ∧ n ≤ 64 * j ∧ Aside0 (n + popAll (ws.drop j) = popAll ws) ∧ wr = w)
  case atStart => exact ⟨0, 0, ⟨rfl⟩, rfl, rfl, by omega, ⟨by simp⟩, rfl⟩
  case round =>
    obtain ⟨gk0, rfl⟩ : ∃ g, g = gk := ⟨_, rfl⟩
    obtain ⟨j, n, HJ, rfl, rfl, hn, HT, rfl⟩ := hrel
    by_cases hj : j < 64
    · have hix1 := fun w => hix.out j w hj
      obtain ⟨x, hx⟩ : ∃ x, x = ws.getD j 0 := ⟨_, rfl⟩
      rw [← hx] at hix1
      have hx1 : x < 18446744073709551616 := by
        have hs := HS.out
        rw [hx, List.getD_eq_getElem?_getD, List.getElem?_eq_getElem (by have := hs.1; omega)]
        exact hs.2.1 _ (List.getElem_mem _)
      have HT2 : Aside0 (n + pop x + popAll (ws.drop (j + 1)) = popAll ws) := by
        refine ⟨?_⟩
        have hws : j < ws.length := by rw [HS.out.1]; exact hj
        rw [← HT.out, List.drop_eq_getElem_cons hws]
        have : ws[j]'hws = x := by rw [hx, List.getD_eq_getElem?_getD, List.getElem?_eq_getElem (by have := HS.out.1; omega)]; rfl
        unfold popAll
        rw [List.map_cons, List.sum_cons, this]
        omega
      have hp : pop x ≤ 64 := pop_le 64 x (by simpa using hx1)
      have HX := Aside0.mk hx
      clear hx
      go_wp2
      go_loopg [5, 3] 64 (fun g v5 v3 wr' => ∃ (y m : Nat), Aside0 (pop y ≤ g) ∧ v5 = .int .u64 y ∧ v3 = .int .i64 m ∧ y < 18446744073709551616 ∧ m ≤ 64 * 64 + 64 ∧ Aside0 (m + pop y = n + pop x) ∧ wr' = wr)
      case atStart => exact ⟨x, n, ⟨hp⟩, rfl, rfl, hx1, by omega, ⟨rfl⟩, rfl⟩
      case round =>
        obtain ⟨y, m, HG, rfl, rfl, hy, hm, HM, rfl⟩ := hrel
        by_cases hy0 : y = 0
        · go_wp2
          go_roundg (gk0 - 1)
          case measure => have := HJ.out; omega
          case rel => exact ⟨j + 1, m, ⟨by have := HJ.out; omega⟩, by go_num, rfl, by have := HM.out; rw [hy0, pop_zero] at this; omega, ⟨by have := HM.out; rw [hy0, pop_zero] at this; have := HT2.out; omega⟩, rfl⟩
        · have hand := pop_and y (by omega) hy
          have hdrop := pop_drop y y (Nat.le_refl _) (by omega)
          have HDR := Aside0.mk hdrop
          have hand1 : (y &&& (y - 1)) ≤ y := Nat.and_le_left
          obtain ⟨z, hz⟩ : ∃ z, z = y &&& (y - 1) := ⟨_, rfl⟩
          rw [← hz] at hand hand1
          have HZ := Aside0.mk hz
          clear hz hdrop
          go_wp2
          go_roundg (gk - 1)
          case measure => have := HDR.out; have := HG.out; omega
          case rel => exact ⟨z, m + 1, ⟨by have := HDR.out; have := HG.out; rw [HZ.out]; omega⟩, by go_num, by go_num, by omega, by have := HM.out; have := HDR.out; omega, ⟨by have := HM.out; have := HDR.out; rw [HZ.out]; omega⟩, rfl⟩
    · go_wp2
      go_ret
      refine ⟨?_, rfl⟩
      have h1 := HT.out
      rw [List.drop_eq_nil_of_le (by have := HS.out.1; omega)] at h1
      have h2 := HC.out
      have h3 : (listL l).length = n := by rw [← h2, ← h1]; rfl
      rw [h3]
      rfl
end Bits
end Go.Proofs.Ythmdpmpnlphfdaa
