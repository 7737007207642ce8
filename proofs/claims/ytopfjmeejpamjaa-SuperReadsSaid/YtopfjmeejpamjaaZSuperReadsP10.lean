/- Part 11 of the proof of SuperReads: lemmas alone. -/
import Derived.Test.YtopfjmeejpamjaaZSuperReadsP9
import Derived.ChangeArms
import Derived.OpenShut
import Derived.KernelRfl
section
namespace Go.Proofs.Ytopfjmeejpamjaa
set_option linter.unusedVariables false
set_option linter.unusedSimpArgs false
open Go.RowKit Go.Proofs.YtopfjmeejpamjaaW.PrintWords
namespace Op
open Go.ChangeShapes Go.WideShapes
theorem cells_a2s : Try.prog.cellsOf 48 = 12 := by kernel_rfl
theorem cells_a2b : Try.prog.cellsOf 49 = 2 := by kernel_rfl
theorem cells_a2o : Try.prog.cellsOf 50 = 2 := by kernel_rfl
theorem cells_bool1 : Try.prog.cellsOf 4 = 1 := by kernel_rfl
theorem cells_slots : Try.prog.cellsOf 52 = 20 := by kernel_rfl
set_option maxRecDepth 100000 in
theorem struct_slots : ∃ f0 f1 f2 f3 f4 : Field, Try.prog.underlying 52 = some (.struct #[f0, f1, f2, f3, f4]) ∧ (f0.offset = 0 ∧ f1.offset = 12 ∧ f2.offset = 14 ∧ f3.offset = 16 ∧ f4.offset = 18) ∧ (f0.type = 48 ∧ f1.type = 49 ∧ f2.type = 50 ∧ f3.type = 49 ∧ f4.type = 49) := by
  have h : (Try.prog.underlying 52).map (fun d => match d with | .struct fs => (fs.toList.map fun f => (f.offset, f.type)) | _ => []) = some [(0, 48), (12, 49), (14, 50), (16, 49), (18, 49)] := by kernel_rfl
  cases hq : Try.prog.underlying 52 with
  | none => rw [hq] at h; simp at h
  | some d =>
    rw [hq] at h
    cases d with
    | struct fs =>
      obtain ⟨l⟩ := fs
      have h2 : l.map (fun f => (f.offset, f.type)) = [(0, 48), (12, 49), (14, 50), (16, 49), (18, 49)] := by simpa using h
      have hlen : l.length = 5 := by have := congrArg List.length h2; simpa using this
      match l, h2, hlen with
      | [f0, f1, f2, f3, f4], h2, _ =>
        simp only [List.map_cons, List.map_nil, List.cons.injEq, Prod.mk.injEq, and_true] at h2
        obtain ⟨⟨o0, t0⟩, ⟨o1, t1⟩, ⟨o2, t2⟩, ⟨o3, t3⟩, ⟨o4, t4⟩⟩ := h2
        exact ⟨f0, f1, f2, f3, f4, rfl, ⟨o0, o1, o2, o3, o4⟩, ⟨t0, t1, t2, t3, t4⟩⟩
    | _ => exact absurd (show ([] : List (Nat × TypeId)) = _ from Option.some.inj h) (by simp)
section
variable {H : Type} {enc : TypeId × Value → H} {w : World} {base : Nat} {spare : Nat → Bool} {held : Bool}
theorem trod_two {t e : TypeId} {fuel : Nat} {cs : List Value} {x : DataW H × List MemPlace} (ht : Try.prog.underlying t = some (.array 2 e)) (h : DataW.trod enc Try.prog w base spare held fuel t cs = some x) :
    ∃ (y0 y1 : DataW H × List MemPlace) (n : Nat), DataW.trod enc Try.prog w base spare held n e (cs.take (Try.prog.cellsOf e)) = some y0 ∧ DataW.trod enc Try.prog w base spare held n e ((cs.drop (Try.prog.cellsOf e)).take (Try.prog.cellsOf e)) = some y1 := by
  obtain ⟨xs, n, _, rfl, hl, hlen, hf⟩ := DataW.trod_array ht h
  match xs, hlen with
  | [y0, y1], _ => exact ⟨y0, y1, n, by simpa using hf 0 (by decide), by simpa using hf 1 (by decide)⟩
set_option maxRecDepth 100000 in
theorem open_super_cells {fuel : Nat} {u0 u1 u2 u3 u4 u5 : Value} {y : DataW H × List MemPlace} (h : DataW.trod enc Try.prog w base spare held fuel 25 [u0, u1, u2, u3, u4, u5] = some y) :
    ∃ x0 x1 x2 x3 x4 x5 : Int, u0 = .int .i64 x0 ∧ u1 = .int .i64 x1 ∧ u2 = .int .i64 x2 ∧ u3 = .int .i64 x3 ∧ u4 = .int .i64 x4 ∧ u5 = .int .i64 x5 := by
  obtain ⟨f0, f1, f2, f3, hs, ⟨o0, o1, o2, o3⟩, t0, t1, t2, t3⟩ := struct_super
  obtain ⟨y0, y1, y2, y3, n, hl, g0, g1, g2, g3⟩ := trod_st4 hs h
  rw [o0, t0, cells_int1] at g0
  rw [o1, t1, cells_int1] at g1
  rw [o2, t2, cells_int1] at g2
  rw [o3, t3, cells_part] at g3
  simp [Value.cells] at g0 g1 g2 g3
  obtain ⟨x0, k0, i0⟩ := open_i64 (w := w) Try.underlying3 g0
  obtain ⟨x1, k1, i1⟩ := open_i64 (w := w) Try.underlying3 g1
  obtain ⟨x2, k2, i2⟩ := open_i64 (w := w) Try.underlying3 g2
  obtain ⟨x3, x4, x5, e3, e4, e5, i3, i4, i5⟩ := open_part3 g3
  exact ⟨x0, x1, x2, x3, x4, x5, by have := k0; simpa [Kd.int, Kd.scalar] using this, by have := k1; simpa [Kd.int, Kd.scalar] using this, by have := k2; simpa [Kd.int, Kd.scalar] using this, e3, e4, e5⟩
theorem open_two8 {fuel : Nat} {u0 u1 : Value} {y : DataW H × List MemPlace} (h : DataW.trod enc Try.prog w base spare held fuel 49 [u0, u1] = some y) : ∃ x0 x1 : Int, u0 = .int .u8 x0 ∧ u1 = .int .u8 x1 ∧ in8 x0 ∧ in8 x1 := by
  obtain ⟨y0, y1, n, g0, g1⟩ := trod_two Try.underlying49 h
  rw [cells_u8] at g0 g1
  simp at g0 g1
  obtain ⟨x0, k0, i0⟩ := open_u8 (w := w) Try.underlying5 g0
  obtain ⟨x1, k1, i1⟩ := open_u8 (w := w) Try.underlying5 g1
  exact ⟨x0, x1, by have := k0; simpa [Kd.int, Kd.scalar] using this, by have := k1; simpa [Kd.int, Kd.scalar] using this, i0, i1⟩
theorem open_twob {fuel : Nat} {u0 u1 : Value} {y : DataW H × List MemPlace} (h : DataW.trod enc Try.prog w base spare held fuel 50 [u0, u1] = some y) : ∃ x0 x1 : Bool, u0 = .bool x0 ∧ u1 = .bool x1 := by
  obtain ⟨y0, y1, n, g0, g1⟩ := trod_two Try.underlying50 h
  rw [cells_bool1] at g0 g1
  simp at g0 g1
  obtain ⟨x0, k0, _⟩ := DataW.trod_bool Try.underlying4 g0
  obtain ⟨x1, k1, _⟩ := DataW.trod_bool Try.underlying4 g1
  exact ⟨x0, x1, by simpa using k0, by simpa using k1⟩
end
set_option maxRecDepth 100000 in
open Go.Lib in
theorem open_slots {H : Type} {enc : TypeId × Value → H} {w : World} {base : Nat} {spare : Nat → Bool} {held : Bool} {r : Reach} {b0 : Nat} {v : Value} {d : DataW H} {p : List MemPlace} (hv : Value.okWide Try.prog w r b0 52 v) (h : DataW.Trod enc Try.prog w base spare held 52 v d p) :
    ∃ (x0 x1 x2 x3 x4 x5 y0 y1 y2 y3 y4 y5 p0 p1 : Int) (t0 t1 : Bool) (a0 a1 u0 u1 : Int), v = .agg #[.int .i64 x0, .int .i64 x1, .int .i64 x2, .int .i64 x3, .int .i64 x4, .int .i64 x5, .int .i64 y0, .int .i64 y1, .int .i64 y2, .int .i64 y3, .int .i64 y4, .int .i64 y5, .int .u8 p0, .int .u8 p1, .bool t0, .bool t1, .int .u8 a0, .int .u8 a1, .int .u8 u0, .int .u8 u1] ∧ in8 p0 ∧ in8 p1 ∧ in8 a0 ∧ in8 a1 ∧ in8 u0 ∧ in8 u1 := by
  obtain ⟨f0, f1, f2, f3, f4, hs, ⟨o0, o1, o2, o3, o4⟩, t0, t1, t2, t3, t4⟩ := struct_slots
  obtain ⟨cs, rfl, hsz⟩ := okWide_struct hs hv
  rw [cells_slots] at hsz
  obtain ⟨c0, c1, c2, c3, c4, c5, c6, c7, c8, c9, c10, c11, c12, c13, c14, c15, c16, c17, c18, c19, rfl⟩ : ∃ c0 c1 c2 c3 c4 c5 c6 c7 c8 c9 c10 c11 c12 c13 c14 c15 c16 c17 c18 c19, cs = #[c0, c1, c2, c3, c4, c5, c6, c7, c8, c9, c10, c11, c12, c13, c14, c15, c16, c17, c18, c19] := by
    obtain ⟨l⟩ := cs
    match l, hsz with
    | [c0, c1, c2, c3, c4, c5, c6, c7, c8, c9, c10, c11, c12, c13, c14, c15, c16, c17, c18, c19], _ => exact ⟨c0, c1, c2, c3, c4, c5, c6, c7, c8, c9, c10, c11, c12, c13, c14, c15, c16, c17, c18, c19, rfl⟩
  obtain ⟨fuel, hf⟩ := h
  obtain ⟨z0, z1, z2, z3, z4, n, hl, g0, g1, g2, g3, g4⟩ := trod_st5 hs hf
  rw [o0, t0, cells_a2s] at g0
  rw [o1, t1, cells_a2b] at g1
  rw [o2, t2, cells_a2o] at g2
  rw [o3, t3, cells_a2b] at g3
  rw [o4, t4, cells_a2b] at g4
  simp [Value.cells] at g0 g1 g2 g3 g4
  obtain ⟨q0, q1, m, k0, k1⟩ := trod_two Try.underlying48 g0
  rw [cells_super] at k0 k1
  simp at k0 k1
  obtain ⟨x0, x1, x2, x3, x4, x5, e0, e1, e2, e3, e4, e5⟩ := open_super_cells k0
  obtain ⟨y0, y1, y2, y3, y4, y5, i0, i1, i2, i3, i4, i5⟩ := open_super_cells k1
  obtain ⟨p0, p1, j0, j1, hp0, hp1⟩ := open_two8 g1
  obtain ⟨b0, b1, j2, j3⟩ := open_twob g2
  obtain ⟨a0, a1, j4, j5, ha0, ha1⟩ := open_two8 g3
  obtain ⟨u0, u1, j6, j7, hu0, hu1⟩ := open_two8 g4
  subst e0 e1 e2 e3 e4 e5 i0 i1 i2 i3 i4 i5 j0 j1 j2 j3 j4 j5 j6 j7
  exact ⟨x0, x1, x2, x3, x4, x5, y0, y1, y2, y3, y4, y5, p0, p1, b0, b1, a0, a1, u0, u1, rfl, hp0, hp1, ha0, ha1, hu0, hu1⟩
end Op
end Go.Proofs.Ytopfjmeejpamjaa
end
