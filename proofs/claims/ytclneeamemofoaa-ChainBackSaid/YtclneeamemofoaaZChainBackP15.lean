/- Part 16 of the proof of ChainBack: lemmas alone. -/
import Derived.Test.YtclneeamemofoaaZChainBackP13
import Derived.Test.YtclneeamemofoaaZChainBackP2
import Derived.Test.YtclneeamemofoaaZChainBackP7
import Derived.Below
import Derived.Lib.Hide
import Derived.OwnWalk
import Derived.WalkKit
import Derived.KernelRfl
import Derived.RowKit3
import Derived.Deep.LoopGhost
import Derived.Deep.QuietTactic
import Derived.BigQuiet
import Derived.WideLaws
import Derived.Great.BuildSlice
import Derived.Outline
import Derived.Deep.DeepCutAuto
import Derived.WalkSpells
import Derived.RegionTactic
import Derived.BigRegion
import Derived.WalkLawsBesides
section
namespace Go.Proofs.Ytclneeamemofoaa
set_option linter.unusedVariables false
set_option linter.unusedSimpArgs false
open Go.RowKit Go.Proofs.YtclneeamemofoaaW.PrintWords Go.Proofs.YtclneeamemofoaaW.PrintLast Go.Proofs.YtclneeamemofoaaW.PrintMore
namespace Disk
open Go.Disk PDiskDoes PChain
theorem below_steps {x y z : World} (h : Below x.heap.size x y) (k : Below y.heap.size y z) : Below x.heap.size x z := h.trans (k.mono h.size)
theorem str8 {w : World} {base : Nat} {ok : Nat → Prop} {A : Option Addr} {l c : Nat} {xs : List Int} (h : Kd.R (Kd.int .u8) 5 w base ok (.slice A l c) xs) (x : World) (b : Below w.heap.size w x) : (convert 23 9 (.slice A l c)).run Try.prog x = .ok (.string (strOfNums xs)) x := by
  have h2 := Kd.R_below h b
  obtain ⟨A2, c2, e⟩ := Kd.R_slice h2
  cases e
  exact Kd.C_string Try.underlying23 Try.underlying5 Try.underlying9 (row_at h2)
end Disk
end Go.Proofs.Ytclneeamemofoaa
namespace Go.Proofs.Ytclneeamemofoaa
set_option linter.unusedVariables false
set_option linter.unusedSimpArgs false
open Go.RowKit Go.Proofs.YtclneeamemofoaaW.PrintWords Go.Proofs.YtclneeamemofoaaW.PrintLast Go.Proofs.YtclneeamemofoaaW.PrintMore
namespace Disk
open Go.Disk PDiskDoes PChain
theorem waits_deed (D : Dk) : (deedD D).waits = D.waits := by
  unfold deedD
  split <;> rfl
end Disk
end Go.Proofs.Ytclneeamemofoaa
end
section
namespace Go.Proofs.Ytclneeamemofoaa
set_option linter.unusedVariables false
set_option linter.unusedSimpArgs false
open Go.RowKit Go.Proofs.YtclneeamemofoaaW.PrintWords Go.Proofs.YtclneeamemofoaaW.PrintLast Go.Proofs.YtclneeamemofoaaW.PrintMore
namespace Disk
open Go.Disk PDiskDoes PChain
theorem getD_set_ne' {l : List (List Int)} {i n : Nat} (h : i ≠ n) (c : List Int) : (l.set i c).getD n [] = l.getD n [] := by
  rw [List.getD_eq_getElem?_getD, List.getD_eq_getElem?_getD, List.getElem?_set_ne h]
theorem crashTo_keep (n : Nat) : ∀ (ws : List (Int × List Int)) (ms : List Int) (D : Dk), (∀ p ∈ ws, p.1.toNat ≠ n) → (crashTo D ws ms).safe.getD n [] = D.safe.getD n []
  | [], ms, D, _ => by cases ms <;> rfl
  | p :: ws, [], D, _ => rfl
  | p :: ws, m :: ms, D, h => by
    show (crashTo (tearD D p.1.toNat p.2 m) ws ms).safe.getD n [] = _
    rw [crashTo_keep n ws ms _ (fun q hq => h q (List.mem_cons_of_mem _ hq))]
    show (D.safe.set p.1.toNat _).getD n [] = _
    rw [getD_set_ne' (h p List.mem_cons_self)]
theorem deed_safe (D : Dk) : (deedD D).safe = D.safe := by unfold deedD; split <;> rfl
theorem do_len (D : Dk) (K N : Int) (bs : List Int) (odd : Bool) (ms : List Int) : (doD D K N bs odd ms).safe.length = D.safe.length := by
  unfold doD
  split
  · split <;> rfl
  split
  · unfold writeD
    split
    · rfl
    split
    · rfl
    split
    · show (deedD _).safe.length = _
      rw [deed_safe]
      rfl
    · show (deedD _).safe.length = _
      rw [deed_safe]
      rfl
  split
  · unfold flushF
    split
    · rfl
    split
    · rw [deed_safe]
    · show (flushTo _ _).length = _
      rw [flushTo_len, deed_safe]
  split
  · split <;> rfl
  split
  · exact (crashTo_safe _ _ _).1
  · rfl
theorem flush_ok {D : Dk} (hr : flushR D = 0) : (flushF D).waits = [] ∧ (flushF D).off = false := by
  unfold flushR at hr
  unfold flushF
  by_cases h0 : ready D 0 ≠ 0
  · rw [if_pos h0] at hr
    exact absurd hr h0
  · rw [if_neg h0] at hr ⊢
    by_cases hl : D.left = 0
    · rw [if_pos hl] at hr
      cases hr
    · rw [if_neg hl]
      refine ⟨rfl, ?_⟩
      show (deedD D).off = false
      unfold deedD
      rw [if_neg hl]
      exact (ready_in (D := D) (N := 0) (by omega)).1
theorem flushF_len (D : Dk) : (flushF D).safe.length = D.safe.length := by
  have := do_len D 3 0 [] false []
  unfold doD at this
  simpa using this
theorem now_none {D : Dk} (h : D.waits = []) (n : Int) : nowD D n = D.safe.getD n.toNat [] := by
  unfold nowD
  rw [h]
  rfl
theorem ready_ok {D : Dk} (ho : D.off = false) (n : Int) (h0 : 0 ≤ n) (h1 : n < D.safe.length) : ready D n = 0 := by
  unfold ready
  rw [ho]
  simp
  omega
theorem crash_len (D : Dk) (ms : List Int) : (crashD D ms).safe.length = D.safe.length := (crashTo_safe _ _ _).1
end Disk
end Go.Proofs.Ytclneeamemofoaa
end
