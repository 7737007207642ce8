/- Deeds of the disk, opened as arguments. -/
import Derived.Test.YtooemgcijbdilaaDv
import Derived.Test.YtooemgcijbdilaaH8
import Derived.KernelRfl
namespace Go.Proofs.Ytooemgcijbdilaa
set_option linter.unusedVariables false
set_option linter.unusedSimpArgs false
set_option linter.ambiguousOpen false
open Go.RowKit Go.Proofs.YtooemgcijbdilaaW.PrintWords Go.Proofs.YtooemgcijbdilaaW.PrintLast Go.Proofs.YtooemgcijbdilaaW.PrintMore
namespace Op
open PDiskDoes Go.ChangeShapes Go.WideShapes
theorem struct_deed : ∃ f0 f1 f2 f3 f4 : Field, Try.prog.underlying 45 = some (.struct #[f0, f1, f2, f3, f4]) ∧ (f0.offset = 0 ∧ f1.offset = 1 ∧ f2.offset = 2 ∧ f3.offset = 3 ∧ f4.offset = 4) ∧ (f0.type = 3 ∧ f1.type = 3 ∧ f2.type = 30 ∧ f3.type = 4 ∧ f4.type = 23) := by
  have h : (Try.prog.underlying 45).map (fun d => match d with | .struct fs => (fs.toList.map fun f => (f.offset, f.type)) | _ => []) = some [(0, 3), (1, 3), (2, 30), (3, 4), (4, 23)] := by kernel_rfl
  cases hq : Try.prog.underlying 45 with
  | none => rw [hq] at h; simp at h
  | some d =>
    rw [hq] at h
    cases d with
    | struct fs =>
      obtain ⟨l⟩ := fs
      have h2 : l.map (fun f => (f.offset, f.type)) = [(0, 3), (1, 3), (2, 30), (3, 4), (4, 23)] := by simpa using h
      have hlen : l.length = 5 := by have := congrArg List.length h2; simpa using this
      match l, h2, hlen with
      | [f0, f1, f2, f3, f4], h2, _ =>
        simp only [List.map_cons, List.map_nil, List.cons.injEq, Prod.mk.injEq, and_true] at h2
        obtain ⟨⟨o0, t0⟩, ⟨o1, t1⟩, ⟨o2, t2⟩, ⟨o3, t3⟩, ⟨o4, t4⟩⟩ := h2
        exact ⟨f0, f1, f2, f3, f4, rfl, ⟨o0, o1, o2, o3, o4⟩, ⟨t0, t1, t2, t3, t4⟩⟩
    | _ => exact absurd (show ([] : List (Nat × TypeId)) = _ from Option.some.inj h) (by simp)
theorem cells_deed : Try.prog.cellsOf 45 = 5 := by kernel_rfl
theorem struct_calm : ∃ f0 f1 f2 f3 : Field, Try.prog.underlying 38 = some (.struct #[f0, f1, f2, f3]) ∧ (f0.offset = 0 ∧ f1.offset = 1 ∧ f2.offset = 2 ∧ f3.offset = 3) ∧ (f0.type = 36 ∧ f1.type = 36 ∧ f2.type = 3 ∧ f3.type = 23) := by
  have h : (Try.prog.underlying 38).map (fun d => match d with | .struct fs => (fs.toList.map fun f => (f.offset, f.type)) | _ => []) = some [(0, 36), (1, 36), (2, 3), (3, 23)] := by kernel_rfl
  cases hq : Try.prog.underlying 38 with
  | none => rw [hq] at h; simp at h
  | some d =>
    rw [hq] at h
    cases d with
    | struct fs =>
      obtain ⟨l⟩ := fs
      have h2 : l.map (fun f => (f.offset, f.type)) = [(0, 36), (1, 36), (2, 3), (3, 23)] := by simpa using h
      have hlen : l.length = 4 := by have := congrArg List.length h2; simpa using this
      match l, h2, hlen with
      | [f0, f1, f2, f3], h2, _ =>
        simp only [List.map_cons, List.map_nil, List.cons.injEq, Prod.mk.injEq, and_true] at h2
        obtain ⟨⟨o0, t0⟩, ⟨o1, t1⟩, ⟨o2, t2⟩, ⟨o3, t3⟩⟩ := h2
        exact ⟨f0, f1, f2, f3, rfl, ⟨o0, o1, o2, o3⟩, ⟨t0, t1, t2, t3⟩⟩
    | _ => exact absurd (show ([] : List (Nat × TypeId)) = _ from Option.some.inj h) (by simp)
theorem cells_calm : Try.prog.cellsOf 38 = 4 := by kernel_rfl
theorem trod_st5 {H : Type} {enc : TypeId × Value → H} {P : Program} {w : World} {base : Nat} {spare : Nat → Bool} {held : Bool} {t : TypeId} {f0 f1 f2 f3 f4 : Field} {fuel : Nat} {cs : List Value} {x : DataW H × List MemPlace} (ht : P.underlying t = some (.struct #[f0, f1, f2, f3, f4])) (h : DataW.trod enc P w base spare held fuel t cs = some x) :
    ∃ (y0 y1 y2 y3 y4 : DataW H × List MemPlace) (n : Nat), cs.length = P.cellsOf t ∧ DataW.trod enc P w base spare held n f0.type ((cs.drop f0.offset).take (P.cellsOf f0.type)) = some y0 ∧ DataW.trod enc P w base spare held n f1.type ((cs.drop f1.offset).take (P.cellsOf f1.type)) = some y1 ∧ DataW.trod enc P w base spare held n f2.type ((cs.drop f2.offset).take (P.cellsOf f2.type)) = some y2 ∧ DataW.trod enc P w base spare held n f3.type ((cs.drop f3.offset).take (P.cellsOf f3.type)) = some y3 ∧ DataW.trod enc P w base spare held n f4.type ((cs.drop f4.offset).take (P.cellsOf f4.type)) = some y4 := by
  obtain ⟨xs, n, _, rfl, hl, hlen, hf⟩ := DataW.trod_struct ht h
  match xs, hlen with
  | [y0, y1, y2, y3, y4], _ => exact ⟨y0, y1, y2, y3, y4, n, hl, by simpa using hf 0 f0 rfl, by simpa using hf 1 f1 rfl, by simpa using hf 2 f2 rfl, by simpa using hf 3 f3 rfl, by simpa using hf 4 f4 rfl⟩
theorem trod_st4 {H : Type} {enc : TypeId × Value → H} {P : Program} {w : World} {base : Nat} {spare : Nat → Bool} {held : Bool} {t : TypeId} {f0 f1 f2 f3 : Field} {fuel : Nat} {cs : List Value} {x : DataW H × List MemPlace} (ht : P.underlying t = some (.struct #[f0, f1, f2, f3])) (h : DataW.trod enc P w base spare held fuel t cs = some x) :
    ∃ (y0 y1 y2 y3 : DataW H × List MemPlace) (n : Nat), cs.length = P.cellsOf t ∧ DataW.trod enc P w base spare held n f0.type ((cs.drop f0.offset).take (P.cellsOf f0.type)) = some y0 ∧ DataW.trod enc P w base spare held n f1.type ((cs.drop f1.offset).take (P.cellsOf f1.type)) = some y1 ∧ DataW.trod enc P w base spare held n f2.type ((cs.drop f2.offset).take (P.cellsOf f2.type)) = some y2 ∧ DataW.trod enc P w base spare held n f3.type ((cs.drop f3.offset).take (P.cellsOf f3.type)) = some y3 := by
  obtain ⟨xs, n, _, rfl, hl, hlen, hf⟩ := DataW.trod_struct ht h
  match xs, hlen with
  | [y0, y1, y2, y3], _ => exact ⟨y0, y1, y2, y3, n, hl, by simpa using hf 0 f0 rfl, by simpa using hf 1 f1 rfl, by simpa using hf 2 f2 rfl, by simpa using hf 3 f3 rfl⟩
theorem cells_bool : Try.prog.cellsOf 4 = 1 := by kernel_rfl
theorem cells_ints1 : Try.prog.cellsOf 23 = 1 := by kernel_rfl
theorem cells_deeds : Try.prog.cellsOf 36 = 1 := by kernel_rfl
section
variable {H : Type} {enc : TypeId × Value → H} {w : World} {base : Nat} {spare : Nat → Bool} {held : Bool}
theorem open_deed {fuel : Nat} {cs : List Value} {y : DataW H × List MemPlace} (h : DataW.trod enc Try.prog w base spare held fuel 45 cs = some y) :
    ∃ x : S45, k45.K w x cs ∧ ((∀ z ∈ x.f2, in8 z) ∧ inI64 x.f1) := by
  obtain ⟨f0, f1, f2, f3, f4, hs, ⟨o0, o1, o2, o3, o4⟩, t0, t1, t2, t3, t4⟩ := struct_deed
  obtain ⟨y0, y1, y2, y3, y4, n, hl, g0, g1, g2, g3, g4⟩ := trod_st5 hs h
  rw [cells_deed] at hl
  match cs, hl with
  | [u0, u1, u2, u3, u4], _ =>
    rw [o0, t0, cells_int1] at g0
    rw [o1, t1, cells_int1] at g1
    rw [o2, t2, cells_u8s] at g2
    rw [o3, t3, cells_bool] at g3
    rw [o4, t4, cells_ints1] at g4
    simp at g0 g1 g2 g3 g4
    obtain ⟨x0, k0, _⟩ := open_i64 (w := w) Try.underlying3 g0
    obtain ⟨x1, k1, i1⟩ := open_i64 (w := w) Try.underlying3 g1
    obtain ⟨x2, ⟨A2, c2, k2, hc2, hC2⟩, i2⟩ := open_u8s g2
    obtain ⟨x3, k3, _⟩ := DataW.trod_bool Try.underlying4 g3
    obtain ⟨x4, ⟨A4, c4, k4, hc4, hC4⟩, i4⟩ := open_i64s Try.underlying23 Try.underlying3 cells_int1 g4
    have e0 : u0 = .int .i64 x0 := by have := k0; simpa [Kd.int, Kd.scalar] using this
    have e1 : u1 = .int .i64 x1 := by have := k1; simpa [Kd.int, Kd.scalar] using this
    have e2 : u2 = .slice A2 x2.length c2 := by simpa using k2
    have e3 : u3 = .bool x3 := by simpa using k3
    have e4 : u4 = .slice A4 x4.length c4 := by simpa using k4
    subst e0 e1 e2 e3 e4
    exact ⟨⟨x0, x1, x2, x3, x4⟩, k45_mk w ⟨x0, x1, x2, x3, x4⟩ hc2 hC2 hc4 hC4, i2, i1⟩
theorem open_deedrow {fuel : Nat} {cs : List Value} {y : DataW H × List MemPlace} (h : DataW.trod enc Try.prog w base spare held fuel 36 cs = some y) :
    ∃ (A : Option Addr) (c : Nat) (ys : List S45), cs = [.slice A ys.length c] ∧ ys.length ≤ c ∧ Disk.Came w A ys := by
  obtain ⟨A', c', ys, e, h1, h2, h3, _⟩ := open_rows k45 (fun y => (∀ z ∈ y.f2, in8 z) ∧ inI64 y.f1) Try.underlying36 cells_deed (fun fuel cs y h => open_deed h) h
  exact ⟨A', c', ys, e, h1, h2, fun y hy => ⟨(h3 y hy).1, (h3 y hy).2.2⟩⟩
theorem open_deeds {A : Option Addr} {n c : Nat} {d : DataW H} {p : List MemPlace} (h : DataW.Trod enc Try.prog w base spare held 36 (.slice A n c) d p) :
    ∃ ys : List S45, n = ys.length ∧ ys.length ≤ c ∧ Disk.Came w A ys := by
  obtain ⟨fuel, hf⟩ := h
  obtain ⟨A', c', ys, e, h1, h2⟩ := open_deedrow hf
  simp [Value.cells] at e
  obtain ⟨rfl, rfl, rfl⟩ := e
  exact ⟨ys, rfl, h1, h2⟩
open Go.Lib in
theorem open_calm {r : Reach} {b0 : Nat} {v : Value} {d : DataW H} {p : List MemPlace} (hv : Value.okWide Try.prog w r b0 38 v) (h : DataW.Trod enc Try.prog w base spare held 38 v d p) :
    ∃ (AL : Option Addr) (cL : Nat) (ls : List S45) (AK : Option Addr) (cK : Nat) (ks : List S45) (n : Int) (AM : Option Addr) (cM : Nat) (ms : List Int), v = .agg #[.slice AL ls.length cL, .slice AK ks.length cK, .int .i64 n, .slice AM ms.length cM] ∧ ls.length ≤ cL ∧ Disk.Came w AL ls ∧ ks.length ≤ cK ∧ Disk.Came w AK ks ∧ inI64 n ∧ Kd.C (Kd.int .i64) w AM ms.length ms ∧ ms.length ≤ cM := by
  obtain ⟨f0, f1, f2, f3, hs, ⟨o0, o1, o2, o3⟩, t0, t1, t2, t3⟩ := struct_calm
  obtain ⟨cs, rfl, hsz⟩ := okWide_struct hs hv
  rw [cells_calm] at hsz
  obtain ⟨u0, u1, u2, u3, rfl⟩ : ∃ c0 c1 c2 c3, cs = #[c0, c1, c2, c3] := by
    obtain ⟨l⟩ := cs
    match l, hsz with
    | [c0, c1, c2, c3], _ => exact ⟨c0, c1, c2, c3, rfl⟩
  obtain ⟨fuel, hf⟩ := h
  obtain ⟨y0, y1, y2, y3, n, hl, g0, g1, g2, g3⟩ := trod_st4 hs hf
  rw [o0, t0, cells_deeds] at g0
  rw [o1, t1, cells_deeds] at g1
  rw [o2, t2, cells_int1] at g2
  rw [o3, t3, cells_ints1] at g3
  simp [Value.cells] at g0 g1 g2 g3
  obtain ⟨AL, cL, ls, e0, h0, k0⟩ := open_deedrow g0
  obtain ⟨AK, cK, ks, e1, h1, k1⟩ := open_deedrow g1
  obtain ⟨x2, k2, i2⟩ := open_i64 (w := w) Try.underlying3 g2
  obtain ⟨x3, ⟨A3, c3, k3, hc3, hC3⟩, i3⟩ := open_i64s Try.underlying23 Try.underlying3 cells_int1 g3
  have e2 : u2 = .int .i64 x2 := by have := k2; simpa [Kd.int, Kd.scalar] using this
  have e3 : u3 = .slice A3 x3.length c3 := by simpa using k3
  have e0' : u0 = .slice AL ls.length cL := by simpa using e0
  have e1' : u1 = .slice AK ks.length cK := by simpa using e1
  subst e0' e1' e2 e3
  exact ⟨AL, cL, ls, AK, cK, ks, x2, A3, c3, x3, rfl, h0, k0, h1, k1, i2, hC3, hc3⟩
end
end Op
end Go.Proofs.Ytooemgcijbdilaa
