/- An array of four bytes, opened as an argument. -/
import Derived.Test.YtkfbegmfepehiaaCo
import Derived.Laws.IdiomArrays
import Derived.KernelRfl
namespace Go.Proofs.Ytkfbegmfepehiaa
set_option linter.unusedVariables false
set_option linter.unusedSimpArgs false
open Go.RowKit Go.Proofs.YtkfbegmfepehiaaW.PrintWords
namespace Op
open Go.ChangeShapes Go.WideShapes
theorem cells_four : Try.prog.cellsOf 56 = 4 := by kernel_rfl
theorem open_four {H : Type} {enc : TypeId × Value → H} {w : World} {base : Nat} {spare : Nat → Bool} {held : Bool} {r : Reach} {b0 : Nat} {v : Value} {d : DataW H} {p : List MemPlace} (hv : Value.okWide Try.prog w r b0 56 v) (h : DataW.Trod enc Try.prog w base spare held 56 v d p) :
    ∃ (x0 x1 x2 x3 : Int), v = .agg #[.int .u8 x0, .int .u8 x1, .int .u8 x2, .int .u8 x3] ∧ in8 x0 ∧ in8 x1 ∧ in8 x2 ∧ in8 x3 := by
  unfold Value.okWide at hv
  rw [Try.underlying56] at hv
  obtain ⟨cs, rfl, hsz, _⟩ := hv
  rw [cells_four] at hsz
  obtain ⟨u0, u1, u2, u3, rfl⟩ : ∃ c0 c1 c2 c3, cs = #[c0, c1, c2, c3] := by
    obtain ⟨l⟩ := cs
    match l, hsz with
    | [c0, c1, c2, c3], _ => exact ⟨c0, c1, c2, c3, rfl⟩
  obtain ⟨fuel, hf⟩ := h
  obtain ⟨y0, y1, y2, y3, n, _, g0, g1, g2, g3⟩ := trod_array4 Try.underlying56 cells_u8 hf
  obtain ⟨x0, k0, i0⟩ := open_u8 (w := w) Try.underlying5 g0
  obtain ⟨x1, k1, i1⟩ := open_u8 (w := w) Try.underlying5 g1
  obtain ⟨x2, k2, i2⟩ := open_u8 (w := w) Try.underlying5 g2
  obtain ⟨x3, k3, i3⟩ := open_u8 (w := w) Try.underlying5 g3
  have e0 : u0 = .int .u8 x0 := by have := k0; simpa [Kd.int, Kd.scalar] using this
  have e1 : u1 = .int .u8 x1 := by have := k1; simpa [Kd.int, Kd.scalar] using this
  have e2 : u2 = .int .u8 x2 := by have := k2; simpa [Kd.int, Kd.scalar] using this
  have e3 : u3 = .int .u8 x3 := by have := k3; simpa [Kd.int, Kd.scalar] using this
  subst e0 e1 e2 e3
  exact ⟨x0, x1, x2, x3, rfl, i0, i1, i2, i3⟩
end Op
end Go.Proofs.Ytkfbegmfepehiaa
