/- Part 9 of the proof of ChainBack: lemmas alone. -/
import Derived.Test.YtclneeamemofoaaZChainBackP7
import Derived.WalkKit
import Derived.LaidEql
import Derived.Stop.Asserts
import Derived.RowKitTokens
section
namespace Go.Proofs.Ytclneeamemofoaa
set_option linter.unusedVariables false
set_option linter.unusedSimpArgs false
open Go.RowKit Go.Extern.Stop Go.Stop Go.Extern
namespace Ch
theorem is_nil (w : World) :
    Calls Try.prog 26 #[.nilIface, .iface 77 (.agg #[])] w fun e w' => e = .returned (.bool false) ∧ w' = w := by
  have hn := run_eql_iface_nil_left (P := Try.prog) w 77 (.agg #[]) Try.underlying73
  go_enter Try.func26, Try.ntmps26
  go_wp2
  go_ret
  exact ⟨rfl, rfl⟩
theorem isTypeOf (w : World) : (Extern.ReflectliteType.typeOf #[.iface 77 (.agg #[])]).run Try.prog w = .ok (.iface 114 (.agg #[typeHandle Try.prog 77])) w := by kernel_rfl
def cmp : TypeId → Sem Value := fun t => do Go.Extern.Rtype.noPackHeld "Comparable" t; pure (.bool (← typeInfo t).comparable)
theorem isComparable (w : World) : (Extern.ReflectliteType.method cmp #[.agg #[typeHandle Try.prog 77]]).run Try.prog w = .ok (.bool true) w := by kernel_rfl
theorem isMethodComparable (v : Value) (w : World) : (Go.method 267 114 v "Comparable").run Try.prog w = .ok (80, v) w := by kernel_rfl
theorem heqB (w : World) : (binOp .eql 73 (.iface 77 (.agg #[])) (.iface 77 (.agg #[]))).run Try.prog w = .ok (.bool true) w := by kernel_rfl
set_option maxRecDepth 100000 in
theorem is_broken (w : World) :
    Calls Try.prog 26 #[.iface 77 (.agg #[]), .iface 77 (.agg #[])] w fun e w' => e = .returned (.bool true) ∧ w' = w := by
  have hT := @run_callFunc_extern Try.prog 38 _ Extern.ReflectliteType.typeOf Try.func38 (by kernel_rfl) (by kernel_rfl) (by kernel_rfl) (by kernel_rfl)
  have hC := @run_callFunc_extern Try.prog 80 _ (Extern.ReflectliteType.method cmp) Try.func80 (by kernel_rfl) (by kernel_rfl) (by kernel_rfl) (by kernel_rfl)
  have tT := isTypeOf
  have cT := isComparable
  have mR := isMethodComparable
  have heq := heqB w
  go_enter Try.func26, Try.ntmps26
  go_wp2
  refine wp_loop_rounds 1 ?_
  rw [rounds_succ]
  go_wp2
  go_ret
  exact ⟨rfl, rfl⟩
end Ch
end Go.Proofs.Ytclneeamemofoaa
end
