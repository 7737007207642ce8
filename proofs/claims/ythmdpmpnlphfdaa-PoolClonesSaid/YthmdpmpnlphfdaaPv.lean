/- Deeds of the pool, opened as arguments. -/
import Derived.Test.YthmdpmpnlphfdaaOp
import Derived.Test.YthmdpmpnlphfdaaQp4
import Derived.KernelRfl
namespace Go.Proofs.Ythmdpmpnlphfdaa
set_option linter.unusedVariables false
set_option linter.unusedSimpArgs false
set_option linter.ambiguousOpen false
open Go.RowKit Go.Proofs.YthmdpmpnlphfdaaW.PrintWords Go.Proofs.YthmdpmpnlphfdaaW.PrintLast Go.Proofs.YthmdpmpnlphfdaaW.PrintMore
namespace Op
open PPoolDoes Go.ChangeShapes Go.WideShapes
theorem struct_deed : ∃ f0 f1 f2 : Field, Try.prog.underlying 38 = some (.struct #[f0, f1, f2]) ∧ (f0.offset = 0 ∧ f1.offset = 1 ∧ f2.offset = 2) ∧ (f0.type = 3 ∧ f1.type = 3 ∧ f2.type = 36) := by
  have h : (Try.prog.underlying 38).map (fun d => match d with | .struct fs => (fs.toList.map fun f => (f.offset, f.type)) | _ => []) = some [(0, 3), (1, 3), (2, 36)] := by kernel_rfl
  cases hq : Try.prog.underlying 38 with
  | none => rw [hq] at h; simp at h
  | some d =>
    rw [hq] at h
    cases d with
    | struct fs =>
      obtain ⟨l⟩ := fs
      match l, h with
      | [f0, f1, f2], h =>
        simp at h
        exact ⟨f0, f1, f2, rfl, ⟨h.1.1, h.2.1.1, h.2.2.1⟩, ⟨h.1.2, h.2.1.2, h.2.2.2⟩⟩
      | [], h => simp at h
      | [_], h => simp at h
      | [_, _], h => simp at h
      | _ :: _ :: _ :: _ :: _, h => simp at h
    | _ => simp at h
theorem cells_deed : Try.prog.cellsOf 38 = 3 := by kernel_rfl
theorem cells_int : Try.prog.cellsOf 3 = 1 := by kernel_rfl
theorem cells_ints : Try.prog.cellsOf 36 = 1 := by kernel_rfl
section
variable {H : Type} {enc : TypeId × Value → H} {w : World} {base : Nat} {spare : Nat → Bool} {held : Bool}
theorem open_deed {fuel : Nat} {cs : List Value} {y : DataW H × List MemPlace} (h : DataW.trod enc Try.prog w base spare held fuel 38 cs = some y) :
    ∃ x : S38, k38.K w x cs ∧ (inI64 x.f1 ∧ ∀ z ∈ x.f2, inI64 z) := by
  obtain ⟨f0, f1, f2, hs, ⟨o0, o1, o2⟩, t0, t1, t2⟩ := struct_deed
  obtain ⟨y0, y1, y2, n, _, hl, g0, g1, g2⟩ := Go.Deep.trod_struct3 hs h
  rw [cells_deed] at hl
  match cs, hl with
  | [u0, u1, u2], _ =>
    rw [o0, t0, cells_int] at g0
    rw [o1, t1, cells_int] at g1
    rw [o2, t2, cells_ints] at g2
    simp at g0 g1 g2
    obtain ⟨x0, k0, _⟩ := open_i64 (w := w) Try.underlying3 g0
    obtain ⟨x1, k1, i1⟩ := open_i64 (w := w) Try.underlying3 g1
    obtain ⟨x2, ⟨A, c, k2, hc, hC⟩, i2⟩ := open_i64s Try.underlying36 Try.underlying3 cells_int g2
    have e0 : u0 = .int .i64 x0 := by have := k0; simpa [Kd.int, Kd.scalar] using this
    have e1 : u1 = .int .i64 x1 := by have := k1; simpa [Kd.int, Kd.scalar] using this
    have e2 : u2 = .slice A x2.length c := by simpa using k2
    subst e0 e1 e2
    exact ⟨⟨x0, x1, x2⟩, k38_mk w ⟨x0, x1, x2⟩ hc hC, i1, i2⟩
theorem open_deeds {A : Option Addr} {n c : Nat} {d : DataW H} {p : List MemPlace} (h : DataW.Trod enc Try.prog w base spare held 22 (.slice A n c) d p) :
    ∃ ys : List S38, n = ys.length ∧ ys.length ≤ c ∧ Kd.C k38 w A ys.length ys ∧ ∀ y ∈ ys, inI64 y.f1 ∧ ∀ z ∈ y.f2, inI64 z := by
  obtain ⟨fuel, hf⟩ := h
  obtain ⟨A', c', ys, e, h1, h2, h3, _⟩ := open_rows k38 (fun y => inI64 y.f1 ∧ ∀ z ∈ y.f2, inI64 z) Try.underlying22 cells_deed (fun fuel cs y h => open_deed h) hf
  simp [Value.cells] at e
  obtain ⟨rfl, rfl, rfl⟩ := e
  exact ⟨ys, rfl, h1, h2, h3⟩
end
end Op
end Go.Proofs.Ythmdpmpnlphfdaa
