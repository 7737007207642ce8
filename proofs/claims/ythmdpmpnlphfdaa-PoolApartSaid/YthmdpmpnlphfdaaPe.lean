/- Lists of whole numbers and of truth values, opened as arguments. -/
import Derived.Test.YthmdpmpnlphfdaaOp
import Derived.KernelRfl
namespace Go.Proofs.Ythmdpmpnlphfdaa
set_option linter.unusedVariables false
set_option linter.unusedSimpArgs false
open Go.RowKit Go.Proofs.YthmdpmpnlphfdaaW.PrintWords
namespace Op
open Go.ChangeShapes Go.WideShapes
theorem cells_int1 : Try.prog.cellsOf 3 = 1 := by kernel_rfl
theorem cells_bool1 : Try.prog.cellsOf 4 = 1 := by kernel_rfl
section
variable {H : Type} {enc : TypeId × Value → H} {w : World} {base : Nat} {spare : Nat → Bool} {held : Bool}
theorem open_bool {t : TypeId} (ht : Try.prog.underlying t = some .bool) {fuel : Nat} {cs : List Value} {y : DataW H × List MemPlace} (h : DataW.trod enc Try.prog w base spare held fuel t cs = some y) :
    ∃ x, Kd.bool.K w x cs ∧ True := by
  obtain ⟨x, e, _⟩ := DataW.trod_bool ht h
  exact ⟨x, e, trivial⟩
theorem open_ints {A : Option Addr} {n c : Nat} {d : DataW H} {p : List MemPlace} (h : DataW.Trod enc Try.prog w base spare held 36 (.slice A n c) d p) :
    ∃ ys : List Int, n = ys.length ∧ ys.length ≤ c ∧ Kd.C (Kd.int .i64) w A ys.length ys ∧ ∀ y ∈ ys, inI64 y := by
  obtain ⟨fuel, hf⟩ := h
  obtain ⟨A', c', ys, e, h1, h2, h3, _⟩ := open_rows (Kd.int .i64) inI64 Try.underlying36 cells_int1 (fun fuel cs y h => open_i64 Try.underlying3 h) hf
  simp [Value.cells] at e
  obtain ⟨rfl, rfl, rfl⟩ := e
  exact ⟨ys, rfl, h1, h2, h3⟩
theorem open_bools {A : Option Addr} {n c : Nat} {d : DataW H} {p : List MemPlace} (h : DataW.Trod enc Try.prog w base spare held 27 (.slice A n c) d p) :
    ∃ ys : List Bool, n = ys.length ∧ ys.length ≤ c ∧ Kd.C Kd.bool w A ys.length ys := by
  obtain ⟨fuel, hf⟩ := h
  obtain ⟨A', c', ys, e, h1, h2, _, _⟩ := open_rows Kd.bool (fun _ => True) Try.underlying27 cells_bool1 (fun fuel cs y h => open_bool Try.underlying4 h) hf
  simp [Value.cells] at e
  obtain ⟨rfl, rfl, rfl⟩ := e
  exact ⟨ys, rfl, h1, h2⟩
end
end Op
end Go.Proofs.Ythmdpmpnlphfdaa
