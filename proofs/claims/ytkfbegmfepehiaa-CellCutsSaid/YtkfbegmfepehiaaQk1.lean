/- cell.may, for lists of cells: begun as a printed text, mended. -/
import Derived.Test.YtkfbegmfepehiaaQc1
import Derived.Test.YtkfbegmfepehiaaPCellCutsx0
namespace Go.Proofs.Ytkfbegmfepehiaa.PCellCuts
open Go.RowKit Go.Proofs.YtkfbegmfepehiaaW.PrintWords Go.Proofs.YtkfbegmfepehiaaW.PrintLast Go.Proofs.YtkfbegmfepehiaaW.PrintMore
attribute [local go_sem] max2_int min2_int max_two min_two max_three min_three max_four min_four   -- for this text's walks alone
set_option linter.unusedVariables false
set_option linter.unusedSimpArgs false

/-! ### cell_short: once, as PCellGets.cell_short -/
def cell_short.f (a0 : Int) : Option (Bool) := PCellGets.cell_short.f a0
theorem cell_short.calls (a0 : Int) (r : Bool) (w : World) (h : cell_short.f a0 = some r) :
    Calls Try.prog 50 #[.int .i64 a0] w fun e w' => e = .returned (.bool r) ∧ Drawn0 w w' := PCellGets.cell_short.calls a0 r w h

/-! ### cell_may: once, as PCellGets.cell_may -/
def cell_may.f (a0_0 : Int) (a0_1 : Int) (a0_2 : Int) (l0_3 : List Int) : Option (Bool) := PCellGets.cell_may.f a0_0 a0_1 a0_2 l0_3
theorem cell_may.calls (a0_0 : Int) (a0_1 : Int) (a0_2 : Int) (A0_3 : Option Addr) (c0_3 : Nat) (l0_3 : List Int) (r : Bool) (w : World) (hr0_3 : Kd.C (Kd.int .u8) w A0_3 l0_3.length l0_3) (hc0_3 : l0_3.length ≤ c0_3) (h : cell_may.f a0_0 a0_1 a0_2 l0_3 = some r) :
    Calls Try.prog 34 #[.agg #[.int .i64 a0_0, .int .i64 a0_1, .int .i64 a0_2, .slice A0_3 l0_3.length c0_3]] w fun e w' => e = .returned (.bool r) ∧ Below w.heap.size w w' := PCellGets.cell_may.calls a0_0 a0_1 a0_2 A0_3 c0_3 l0_3 r w hr0_3 hc0_3 h

end Go.Proofs.Ytkfbegmfepehiaa.PCellCuts
