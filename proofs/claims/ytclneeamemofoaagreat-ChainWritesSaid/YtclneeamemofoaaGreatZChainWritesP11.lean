/- Part 12 of the proof of ChainWrites: lemmas alone. -/
import Derived.Test.YtclneeamemofoaaGreatZChainWritesP10
import Derived.WalkKit
import Derived.LaidEql
import Derived.Stop.Asserts
import Derived.RowKitTokens
section
namespace Go.Proofs.YtclneeamemofoaaGreat
set_option linter.unusedVariables false
set_option linter.unusedSimpArgs false
open Go.RowKit Go.Extern.Stop Go.Stop Go.Extern
namespace Ch
theorem is_nil (w : World) :
    Calls Tryz.prog 45 #[.nilIface, .iface 92 (.agg #[])] w fun e w' => e = .returned (.bool false) ∧ w' = w := by
  have hn := run_eql_iface_nil_left (P := Tryz.prog) w 92 (.agg #[]) Tryz.underlying88
  go_enter Tryz.func45, Tryz.ntmps45
  go_wp2
  go_ret
  exact ⟨rfl, rfl⟩
theorem isTypeOf (w : World) : (Extern.ReflectliteType.typeOf #[.iface 92 (.agg #[])]).run Tryz.prog w = .ok (.iface 139 (.agg #[typeHandle Tryz.prog 92])) w := by kernel_rfl
def cmp : TypeId → Sem Value := fun t => do Go.Extern.Rtype.noPackHeld "Comparable" t; pure (.bool (← typeInfo t).comparable)
theorem isComparable (w : World) : (Extern.ReflectliteType.method cmp #[.agg #[typeHandle Tryz.prog 92]]).run Tryz.prog w = .ok (.bool true) w := by kernel_rfl
theorem isMethodComparable (v : Value) (w : World) : (Go.method 288 139 v "Comparable").run Tryz.prog w = .ok (114, v) w := by kernel_rfl
theorem heqB (w : World) : (binOp .eql 88 (.iface 92 (.agg #[])) (.iface 92 (.agg #[]))).run Tryz.prog w = .ok (.bool true) w := by kernel_rfl
set_option maxRecDepth 100000 in
theorem is_broken (w : World) :
    Calls Tryz.prog 45 #[.iface 92 (.agg #[]), .iface 92 (.agg #[])] w fun e w' => e = .returned (.bool true) ∧ w' = w := by
  have hT := @run_callFunc_extern Tryz.prog 70 _ Extern.ReflectliteType.typeOf Tryz.func70 (by kernel_rfl) (by kernel_rfl) (by kernel_rfl) (by kernel_rfl)
  have hC := @run_callFunc_extern Tryz.prog 114 _ (Extern.ReflectliteType.method cmp) Tryz.func114 (by kernel_rfl) (by kernel_rfl) (by kernel_rfl) (by kernel_rfl)
  have tT := isTypeOf
  have cT := isComparable
  have mR := isMethodComparable
  have heq := heqB w
  go_enter Tryz.func45, Tryz.ntmps45
  go_wp2
  refine wp_loop_rounds 1 ?_
  rw [rounds_succ]
  go_wp2
  go_ret
  exact ⟨rfl, rfl⟩
end Ch
end Go.Proofs.YtclneeamemofoaaGreat
end
