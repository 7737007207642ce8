/- Bytes and rows of bytes, opened as arguments. -/
import Derived.Test.YtooemgcijbdilaaOp
import Derived.KernelRfl
namespace Go.Proofs.Ytooemgcijbdilaa
set_option linter.unusedVariables false
set_option linter.unusedSimpArgs false
open Go.RowKit Go.Proofs.YtooemgcijbdilaaW.PrintWords
namespace Op
open Go.ChangeShapes Go.WideShapes
def in8 (x : Int) : Prop := 0 ≤ x ∧ x ≤ 255
theorem wf_u8 {x : Int} (h : (Lit.int .u8 x).wf = true) : in8 x := by
  simp only [Lit.wf, Bool.and_eq_true, decide_eq_true_eq] at h
  have h1 : IntKind.min .u8 = 0 := by decide
  have h2 : IntKind.max .u8 = 255 := by decide
  rw [h1, h2] at h
  exact h
theorem cells_u8 : Try.prog.cellsOf 5 = 1 := by kernel_rfl
theorem cells_int1 : Try.prog.cellsOf 3 = 1 := by kernel_rfl
theorem cells_u8s : Try.prog.cellsOf 30 = 1 := by kernel_rfl
section
variable {H : Type} {enc : TypeId × Value → H} {P : Program} {w : World} {base : Nat} {spare : Nat → Bool} {held : Bool}
theorem open_u8 {t : TypeId} (ht : P.underlying t = some (.int .u8)) {fuel : Nat} {cs : List Value} {y : DataW H × List MemPlace} (h : DataW.trod enc P w base spare held fuel t cs = some y) :
    ∃ x, (Kd.int .u8).K w x cs ∧ in8 x := by
  obtain ⟨x, e, _, hw⟩ := DataW.trod_int ht h
  exact ⟨x, e, wf_u8 hw⟩
theorem open_u8s {fuel : Nat} {cs : List Value} {y : DataW H × List MemPlace} (h : DataW.trod enc Try.prog w base spare held fuel 30 cs = some y) :
    ∃ x : List Int, (Kd.slice 5 (Kd.int .u8)).K w x cs ∧ ∀ z ∈ x, in8 z := by
  obtain ⟨A, c, ys, e1, h1, h2, h3, _⟩ := open_rows (Kd.int .u8) in8 Try.underlying30 (by rw [cells_u8]; rfl) (fun fuel cs y h => open_u8 Try.underlying5 h) h
  exact ⟨ys, ⟨A, c, e1, h1, h2⟩, h3⟩
theorem open_bytes {A : Option Addr} {n c : Nat} {d : DataW H} {p : List MemPlace} (h : DataW.Trod enc Try.prog w base spare held 30 (.slice A n c) d p) :
    ∃ ys : List Int, n = ys.length ∧ ys.length ≤ c ∧ Kd.C (Kd.int .u8) w A ys.length ys ∧ ∀ y ∈ ys, in8 y := by
  obtain ⟨fuel, hf⟩ := h
  obtain ⟨A', c', ys, e, h1, h2, h3, _⟩ := open_rows (Kd.int .u8) in8 Try.underlying30 (by rw [cells_u8]; rfl) (fun fuel cs y h => open_u8 Try.underlying5 h) hf
  simp [Value.cells] at e
  obtain ⟨rfl, rfl, rfl⟩ := e
  exact ⟨ys, rfl, h1, h2, h3⟩
theorem open_ints {A : Option Addr} {n c : Nat} {d : DataW H} {p : List MemPlace} (h : DataW.Trod enc Try.prog w base spare held 23 (.slice A n c) d p) :
    ∃ ys : List Int, n = ys.length ∧ ys.length ≤ c ∧ Kd.C (Kd.int .i64) w A ys.length ys ∧ ∀ y ∈ ys, inI64 y := by
  obtain ⟨fuel, hf⟩ := h
  obtain ⟨A', c', ys, e, h1, h2, h3, _⟩ := open_rows (Kd.int .i64) inI64 Try.underlying23 cells_int1 (fun fuel cs y h => open_i64 Try.underlying3 h) hf
  simp [Value.cells] at e
  obtain ⟨rfl, rfl, rfl⟩ := e
  exact ⟨ys, rfl, h1, h2, h3⟩
theorem open_byterows {A : Option Addr} {n c : Nat} {d : DataW H} {p : List MemPlace} (h : DataW.Trod enc Try.prog w base spare held 22 (.slice A n c) d p) :
    ∃ ys : List (List Int), n = ys.length ∧ ys.length ≤ c ∧ Kd.C (Kd.slice 5 (Kd.int .u8)) w A ys.length ys ∧ ∀ y ∈ ys, ∀ z ∈ y, in8 z := by
  obtain ⟨fuel, hf⟩ := h
  obtain ⟨A', c', ys, e, h1, h2, h3, _⟩ := open_rows (Kd.slice 5 (Kd.int .u8)) (fun y => ∀ z ∈ y, in8 z) Try.underlying22 (by rw [cells_u8s]; rfl) (fun fuel cs y h => open_u8s h) hf
  simp [Value.cells] at e
  obtain ⟨rfl, rfl, rfl⟩ := e
  exact ⟨ys, rfl, h1, h2, h3⟩
end
end Op
end Go.Proofs.Ytooemgcijbdilaa
