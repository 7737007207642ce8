import Derived.Test.YtkfbegmfepehiaaZOp
import Derived.KernelRfl
namespace Go.Proofs.Ytkfbegmfepehiaa
set_option linter.unusedVariables false
set_option linter.unusedSimpArgs false
open Go.RowKit Go.Proofs.YtkfbegmfepehiaaW.PrintWords
namespace Op
open Go.ChangeShapes Go.WideShapes
def in8 (x : Int) : Prop := 0 ≤ x ∧ x ≤ 255
theorem wf_u8 {x : Int} (h : (Lit.int .u8 x).wf = true) : in8 x := by
  simp only [Lit.wf, Bool.and_eq_true, decide_eq_true_eq] at h
  have h1 : IntKind.min .u8 = 0 := by decide
  have h2 : IntKind.max .u8 = 255 := by decide
  rw [h1, h2] at h
  exact h
theorem cells_u8 : Try.prog.cellsOf 5 = 1 := by kernel_rfl
theorem cells_int1 : Try.prog.cellsOf 3 = 1 := by kernel_rfl
theorem cells_u8s : Try.prog.cellsOf 22 = 1 := by kernel_rfl
section
variable {H : Type} {enc : TypeId × Value → H} {P : Program} {w : World} {base : Nat} {spare : Nat → Bool} {held : Bool}
theorem open_u8 {t : TypeId} (ht : P.underlying t = some (.int .u8)) {fuel : Nat} {cs : List Value} {y : DataW H × List MemPlace} (h : DataW.trod enc P w base spare held fuel t cs = some y) :
    ∃ x, (Kd.int .u8).K w x cs ∧ in8 x := by
  obtain ⟨x, e, _, hw⟩ := DataW.trod_int ht h
  exact ⟨x, e, wf_u8 hw⟩
theorem open_u8s {fuel : Nat} {cs : List Value} {y : DataW H × List MemPlace} (h : DataW.trod enc Try.prog w base spare held fuel 22 cs = some y) :
    ∃ x : List Int, (Kd.slice 5 (Kd.int .u8)).K w x cs ∧ ∀ z ∈ x, in8 z := by
  obtain ⟨A, c, ys, e1, h1, h2, h3, _⟩ := open_rows (Kd.int .u8) in8 Try.underlying22 (by rw [cells_u8]; rfl) (fun fuel cs y h => open_u8 Try.underlying5 h) h
  exact ⟨ys, ⟨A, c, e1, h1, h2⟩, h3⟩
theorem open_bytes {A : Option Addr} {n c : Nat} {d : DataW H} {p : List MemPlace} (h : DataW.Trod enc Try.prog w base spare held 22 (.slice A n c) d p) :
    ∃ ys : List Int, n = ys.length ∧ ys.length ≤ c ∧ Kd.C (Kd.int .u8) w A ys.length ys ∧ ∀ y ∈ ys, in8 y := by
  obtain ⟨fuel, hf⟩ := h
  obtain ⟨A', c', ys, e, h1, h2, h3, _⟩ := open_rows (Kd.int .u8) in8 Try.underlying22 (by rw [cells_u8]; rfl) (fun fuel cs y h => open_u8 Try.underlying5 h) hf
  simp [Value.cells] at e
  obtain ⟨rfl, rfl, rfl⟩ := e
  exact ⟨ys, rfl, h1, h2, h3⟩
end
theorem struct_sector : ∃ f0 f1 f2 f3 f4 : Field, Try.prog.underlying 44 = some (.struct #[f0, f1, f2, f3, f4]) ∧ (f0.offset = 0 ∧ f1.offset = 1 ∧ f2.offset = 2 ∧ f3.offset = 3 ∧ f4.offset = 4) ∧ (f0.type = 3 ∧ f1.type = 3 ∧ f2.type = 3 ∧ f3.type = 3 ∧ f4.type = 22) := by
  have h : (Try.prog.underlying 44).map (fun d => match d with | .struct fs => (fs.toList.map fun f => (f.offset, f.type)) | _ => []) = some [(0, 3), (1, 3), (2, 3), (3, 3), (4, 22)] := by kernel_rfl
  cases hq : Try.prog.underlying 44 with
  | none => rw [hq] at h; simp at h
  | some d =>
    rw [hq] at h
    cases d with
    | struct fs =>
      obtain ⟨l⟩ := fs
      have h2 : l.map (fun f => (f.offset, f.type)) = [(0, 3), (1, 3), (2, 3), (3, 3), (4, 22)] := by simpa using h
      have hlen : l.length = 5 := by have := congrArg List.length h2; simpa using this
      match l, h2, hlen with
      | [f0, f1, f2, f3, f4], h2, _ =>
        simp only [List.map_cons, List.map_nil, List.cons.injEq, Prod.mk.injEq, and_true] at h2
        obtain ⟨⟨o0, t0⟩, ⟨o1, t1⟩, ⟨o2, t2⟩, ⟨o3, t3⟩, ⟨o4, t4⟩⟩ := h2
        exact ⟨f0, f1, f2, f3, f4, rfl, ⟨o0, o1, o2, o3, o4⟩, ⟨t0, t1, t2, t3, t4⟩⟩
    | _ => exact absurd (show ([] : List (Nat × TypeId)) = _ from Option.some.inj h) (by simp)
theorem cells_sector : Try.prog.cellsOf 44 = 5 := by kernel_rfl
theorem trod_st5 {H : Type} {enc : TypeId × Value → H} {P : Program} {w : World} {base : Nat} {spare : Nat → Bool} {held : Bool} {t : TypeId} {f0 f1 f2 f3 f4 : Field} {fuel : Nat} {cs : List Value} {x : DataW H × List MemPlace} (ht : P.underlying t = some (.struct #[f0, f1, f2, f3, f4])) (h : DataW.trod enc P w base spare held fuel t cs = some x) :
    ∃ (y0 y1 y2 y3 y4 : DataW H × List MemPlace) (n : Nat), cs.length = P.cellsOf t ∧ DataW.trod enc P w base spare held n f0.type ((cs.drop f0.offset).take (P.cellsOf f0.type)) = some y0 ∧ DataW.trod enc P w base spare held n f1.type ((cs.drop f1.offset).take (P.cellsOf f1.type)) = some y1 ∧ DataW.trod enc P w base spare held n f2.type ((cs.drop f2.offset).take (P.cellsOf f2.type)) = some y2 ∧ DataW.trod enc P w base spare held n f3.type ((cs.drop f3.offset).take (P.cellsOf f3.type)) = some y3 ∧ DataW.trod enc P w base spare held n f4.type ((cs.drop f4.offset).take (P.cellsOf f4.type)) = some y4 := by
  obtain ⟨xs, n, _, rfl, hl, hlen, hf⟩ := DataW.trod_struct ht h
  match xs, hlen with
  | [y0, y1, y2, y3, y4], _ => exact ⟨y0, y1, y2, y3, y4, n, hl, by simpa using hf 0 f0 rfl, by simpa using hf 1 f1 rfl, by simpa using hf 2 f2 rfl, by simpa using hf 3 f3 rfl, by simpa using hf 4 f4 rfl⟩
open Go.Lib in
theorem open_sector {H : Type} {enc : TypeId × Value → H} {w : World} {base : Nat} {spare : Nat → Bool} {held : Bool} {r : Reach} {b0 : Nat} {v : Value} {d : DataW H} {p : List MemPlace} (hv : Value.okWide Try.prog w r b0 44 v) (h : DataW.Trod enc Try.prog w base spare held 44 v d p) :
    ∃ (x0 x1 x2 x3 : Int) (A : Option Addr) (c : Nat) (ys : List Int), v = .agg #[.int .i64 x0, .int .i64 x1, .int .i64 x2, .int .i64 x3, .slice A ys.length c] ∧ ys.length ≤ c ∧ Kd.C (Kd.int .u8) w A ys.length ys ∧ (∀ y ∈ ys, in8 y) ∧ inI64 x0 ∧ inI64 x1 ∧ inI64 x2 ∧ inI64 x3 := by
  obtain ⟨f0, f1, f2, f3, f4, hs, ⟨o0, o1, o2, o3, o4⟩, t0, t1, t2, t3, t4⟩ := struct_sector
  obtain ⟨cs, rfl, hsz⟩ := okWide_struct hs hv
  rw [cells_sector] at hsz
  obtain ⟨u0, u1, u2, u3, u4, rfl⟩ : ∃ c0 c1 c2 c3 c4, cs = #[c0, c1, c2, c3, c4] := by
    obtain ⟨l⟩ := cs
    match l, hsz with
    | [c0, c1, c2, c3, c4], _ => exact ⟨c0, c1, c2, c3, c4, rfl⟩
  obtain ⟨fuel, hf⟩ := h
  obtain ⟨y0, y1, y2, y3, y4, n, hl, g0, g1, g2, g3, g4⟩ := trod_st5 hs hf
  rw [o0, t0, cells_int1] at g0
  rw [o1, t1, cells_int1] at g1
  rw [o2, t2, cells_int1] at g2
  rw [o3, t3, cells_int1] at g3
  rw [o4, t4, cells_u8s] at g4
  simp [Value.cells] at g0 g1 g2 g3 g4
  obtain ⟨x0, k0, i0⟩ := open_i64 (w := w) Try.underlying3 g0
  obtain ⟨x1, k1, i1⟩ := open_i64 (w := w) Try.underlying3 g1
  obtain ⟨x2, k2, i2⟩ := open_i64 (w := w) Try.underlying3 g2
  obtain ⟨x3, k3, i3⟩ := open_i64 (w := w) Try.underlying3 g3
  obtain ⟨x4, ⟨A4, c4, k4, hc4, hC4⟩, i4⟩ := open_u8s g4
  have e0 : u0 = .int .i64 x0 := by have := k0; simpa [Kd.int, Kd.scalar] using this
  have e1 : u1 = .int .i64 x1 := by have := k1; simpa [Kd.int, Kd.scalar] using this
  have e2 : u2 = .int .i64 x2 := by have := k2; simpa [Kd.int, Kd.scalar] using this
  have e3 : u3 = .int .i64 x3 := by have := k3; simpa [Kd.int, Kd.scalar] using this
  have e4 : u4 = .slice A4 x4.length c4 := by simpa using k4
  subst e0 e1 e2 e3 e4
  exact ⟨x0, x1, x2, x3, A4, c4, x4, rfl, hc4, hC4, i4, i0, i1, i2, i3⟩
end Op
end Go.Proofs.Ytkfbegmfepehiaa
