/- Part 10 of the proof of SuperReads: lemmas alone. -/
import Derived.Test.YtopfjmeejpamjaaProg
import Derived.Test.YtopfjmeejpamjaaZSuperReadsP4
import Derived.Test.YtopfjmeejpamjaaZSuperReadsP5
import Derived.Deep.Slices
import Derived.Deep.SlicePairs
import Derived.Deep.Strs
import Derived.ChangeSame
import Derived.KernelRfl
section
namespace Go.Proofs.Ytopfjmeejpamjaa
set_option linter.unusedVariables false
set_option linter.unusedSimpArgs false
open Go.RowKit Go.Proofs.YtopfjmeejpamjaaW.PrintWords
namespace Op
open Go.ChangeShapes Go.WideShapes
section
variable {H : Type} {enc : TypeId × Value → H} {P : Program} {w : World} {base : Nat} {spare : Nat → Bool} {held : Bool}
theorem open_rows {α : Type} (d : Kd α) (good : α → Prop) {t e : TypeId} (ht : P.underlying t = some (.slice e)) (ce : P.cellsOf e = d.sz)
    (hel : ∀ fuel cs y, DataW.trod enc P w base spare held fuel e cs = some y → ∃ x, d.K w x cs ∧ good x)
    {fuel : Nat} {cs : List Value} {x : DataW H × List MemPlace} (h : DataW.trod enc P w base spare held fuel t cs = some x) :
    ∃ A c, ∃ ys : List α, cs = [.slice A ys.length c] ∧ ys.length ≤ c ∧ d.C w A ys.length ys ∧ (∀ y ∈ ys, good y) ∧ ys.length ≤ maxLen := by
  rcases Go.Deep.open_slice ht h with ⟨rfl, _⟩ | ⟨a, len, cap, m, k, D, Pl, rfl, _, hl, hm, hmm, _, hx⟩
  · exact ⟨none, 0, [], rfl, Nat.le_refl _, ⟨rfl, by simp, fun h => by simp at h⟩, by simp, by simp⟩
  · have hlm : len ≤ m := by rw [hmm]; split <;> omega
    have each : ∀ i, i < len → ∃ y : α, good y ∧ ∃ c, c.length = d.sz ∧ d.K w y c ∧ ∀ j u, c[j]? = some u → w.cell? (a.add (i * d.sz + j)) = some u := by
      intro i hi
      obtain ⟨cs', h1, h2⟩ := hx i (by omega)
      obtain ⟨y, hk, hg⟩ := hel _ _ _ h2
      obtain ⟨_, hlen, hcell⟩ := World.cells?_some h1
      refine ⟨y, hg, cs', by rw [hlen, ce], hk, fun j u hu => ?_⟩
      have hj : j < cs'.length := by
        rcases Nat.lt_or_ge j cs'.length with h' | h'
        · exact h'
        · rw [List.getElem?_eq_none h'] at hu; cases hu
      have := hcell j (by omega)
      rw [hu, Go.Deep.add_add, ce] at this
      exact this
    obtain ⟨f, hf⟩ : ∃ f : Nat → Option α, ∀ i, i < len → ∃ y, f i = some y ∧ good y ∧ ∃ c, c.length = d.sz ∧ d.K w y c ∧ ∀ j u, c[j]? = some u → w.cell? (a.add (i * d.sz + j)) = some u := by
      classical
      refine ⟨fun i => if hi : i < len then some (each i hi).choose else none, fun i hi => ?_⟩
      refine ⟨(each i hi).choose, by simp only [dif_pos hi], (each i hi).choose_spec.1, (each i hi).choose_spec.2⟩
    have hlist : ∀ n, n ≤ len → ∃ ys : List α, ys.length = n ∧ ∀ i, i < n → ys[i]? = f i := by
      intro n
      induction n with
      | zero => exact fun _ => ⟨[], rfl, fun i h => by omega⟩
      | succ n ih =>
        intro hn
        obtain ⟨ys, h1, h2⟩ := ih (by omega)
        obtain ⟨y, hy, _⟩ := hf n (by omega)
        refine ⟨ys ++ [y], by simp [h1], fun i hi => ?_⟩
        rcases Nat.lt_or_ge i n with h' | h'
        · rw [List.getElem?_append_left (by omega)]; exact h2 i h'
        · have : i = n := by omega
          subst this
          rw [List.getElem?_append_right (by omega), h1, Nat.sub_self, hy]
          rfl
    obtain ⟨ys, h1, h2⟩ := hlist len (Nat.le_refl _)
    refine ⟨some a, cap, ys, by rw [h1], by omega, ⟨rfl, ?_, fun _ => ⟨a, rfl, fun j y hj => ?_⟩⟩, fun y hy => ?_, by omega⟩
    · have : maxLen ≤ 9223372036854775807 := by decide
      omega
    · have hjl : j < ys.length := by
        rcases Nat.lt_or_ge j ys.length with h' | h'
        · exact h'
        · rw [List.getElem?_eq_none h'] at hj; cases hj
      rw [h2 j (by omega)] at hj
      obtain ⟨y', e1, _, e2⟩ := hf j (by omega)
      rw [e1] at hj
      cases hj
      exact e2
    · obtain ⟨j, hj⟩ := List.getElem?_of_mem hy
      have hjl : j < ys.length := by
        rcases Nat.lt_or_ge j ys.length with h' | h'
        · exact h'
        · rw [List.getElem?_eq_none h'] at hj; cases hj
      rw [h2 j (by omega)] at hj
      obtain ⟨y', e1, e2, _⟩ := hf j (by omega)
      rw [e1] at hj
      cases hj
      exact e2
def inI64 (x : Int) : Prop := -9223372036854775808 ≤ x ∧ x ≤ 9223372036854775807
theorem wf_i64 {x : Int} (h : (Lit.int .i64 x).wf = true) : inI64 x := by
  simp only [Lit.wf, Bool.and_eq_true, decide_eq_true_eq] at h
  have h1 : IntKind.min .i64 = -9223372036854775808 := by decide
  have h2 : IntKind.max .i64 = 9223372036854775807 := by decide
  rw [h1, h2] at h
  exact h
theorem open_i64 {t : TypeId} (ht : P.underlying t = some (.int .i64)) {fuel : Nat} {cs : List Value} {y : DataW H × List MemPlace} (h : DataW.trod enc P w base spare held fuel t cs = some y) :
    ∃ x, (Kd.int .i64).K w x cs ∧ inI64 x := by
  obtain ⟨x, e, _, hw⟩ := DataW.trod_int ht h
  exact ⟨x, e, wf_i64 hw⟩
theorem open_i64s {t e : TypeId} (ht : P.underlying t = some (.slice e)) (he : P.underlying e = some (.int .i64)) (ce : P.cellsOf e = 1) {fuel : Nat} {cs : List Value} {y : DataW H × List MemPlace} (h : DataW.trod enc P w base spare held fuel t cs = some y) :
    ∃ x : List Int, (Kd.slice e (Kd.int .i64)).K w x cs ∧ ∀ z ∈ x, inI64 z := by
  obtain ⟨A, c, ys, e1, h1, h2, h3, _⟩ := open_rows (Kd.int .i64) inI64 ht (by rw [ce]; rfl) (fun fuel cs y h => open_i64 he h) h
  exact ⟨ys, ⟨A, c, e1, h1, h2⟩, h3⟩
end
end Op
end Go.Proofs.Ytopfjmeejpamjaa
end
section
namespace Go.Proofs.Ytopfjmeejpamjaa
set_option linter.unusedVariables false
set_option linter.unusedSimpArgs false
open Go.RowKit Go.Proofs.YtopfjmeejpamjaaW.PrintWords
namespace Op
open Go.ChangeShapes Go.WideShapes
def in8 (x : Int) : Prop := 0 ≤ x ∧ x ≤ 255
theorem wf_u8 {x : Int} (h : (Lit.int .u8 x).wf = true) : in8 x := by
  simp only [Lit.wf, Bool.and_eq_true, decide_eq_true_eq] at h
  have h1 : IntKind.min .u8 = 0 := by decide
  have h2 : IntKind.max .u8 = 255 := by decide
  rw [h1, h2] at h
  exact h
theorem cells_u8 : Try.prog.cellsOf 5 = 1 := by kernel_rfl
theorem cells_int1 : Try.prog.cellsOf 3 = 1 := by kernel_rfl
theorem cells_u8s : Try.prog.cellsOf 26 = 1 := by kernel_rfl
section
variable {H : Type} {enc : TypeId × Value → H} {P : Program} {w : World} {base : Nat} {spare : Nat → Bool} {held : Bool}
theorem open_u8 {t : TypeId} (ht : P.underlying t = some (.int .u8)) {fuel : Nat} {cs : List Value} {y : DataW H × List MemPlace} (h : DataW.trod enc P w base spare held fuel t cs = some y) :
    ∃ x, (Kd.int .u8).K w x cs ∧ in8 x := by
  obtain ⟨x, e, _, hw⟩ := DataW.trod_int ht h
  exact ⟨x, e, wf_u8 hw⟩
theorem open_u8s {fuel : Nat} {cs : List Value} {y : DataW H × List MemPlace} (h : DataW.trod enc Try.prog w base spare held fuel 26 cs = some y) :
    ∃ x : List Int, (Kd.slice 5 (Kd.int .u8)).K w x cs ∧ ∀ z ∈ x, in8 z := by
  obtain ⟨A, c, ys, e1, h1, h2, h3, _⟩ := open_rows (Kd.int .u8) in8 Try.underlying26 (by rw [cells_u8]; rfl) (fun fuel cs y h => open_u8 Try.underlying5 h) h
  exact ⟨ys, ⟨A, c, e1, h1, h2⟩, h3⟩
end
end Op
end Go.Proofs.Ytopfjmeejpamjaa
end
section
namespace Go.Proofs.Ytopfjmeejpamjaa
set_option linter.unusedVariables false
set_option linter.unusedSimpArgs false
open Go.RowKit Go.Proofs.YtopfjmeejpamjaaW.PrintWords
namespace Op
open Go.ChangeShapes Go.WideShapes
theorem trod_st4 {H : Type} {enc : TypeId × Value → H} {P : Program} {w : World} {base : Nat} {spare : Nat → Bool} {held : Bool} {t : TypeId} {f0 f1 f2 f3 : Field} {fuel : Nat} {cs : List Value} {x : DataW H × List MemPlace} (ht : P.underlying t = some (.struct #[f0, f1, f2, f3])) (h : DataW.trod enc P w base spare held fuel t cs = some x) :
    ∃ (y0 y1 y2 y3 : DataW H × List MemPlace) (n : Nat), cs.length = P.cellsOf t ∧ DataW.trod enc P w base spare held n f0.type ((cs.drop f0.offset).take (P.cellsOf f0.type)) = some y0 ∧ DataW.trod enc P w base spare held n f1.type ((cs.drop f1.offset).take (P.cellsOf f1.type)) = some y1 ∧ DataW.trod enc P w base spare held n f2.type ((cs.drop f2.offset).take (P.cellsOf f2.type)) = some y2 ∧ DataW.trod enc P w base spare held n f3.type ((cs.drop f3.offset).take (P.cellsOf f3.type)) = some y3 := by
  obtain ⟨xs, n, _, rfl, hl, hlen, hf⟩ := DataW.trod_struct ht h
  match xs, hlen with
  | [y0, y1, y2, y3], _ => exact ⟨y0, y1, y2, y3, n, hl, by simpa using hf 0 f0 rfl, by simpa using hf 1 f1 rfl, by simpa using hf 2 f2 rfl, by simpa using hf 3 f3 rfl⟩
theorem trod_st5 {H : Type} {enc : TypeId × Value → H} {P : Program} {w : World} {base : Nat} {spare : Nat → Bool} {held : Bool} {t : TypeId} {f0 f1 f2 f3 f4 : Field} {fuel : Nat} {cs : List Value} {x : DataW H × List MemPlace} (ht : P.underlying t = some (.struct #[f0, f1, f2, f3, f4])) (h : DataW.trod enc P w base spare held fuel t cs = some x) :
    ∃ (y0 y1 y2 y3 y4 : DataW H × List MemPlace) (n : Nat), cs.length = P.cellsOf t ∧ DataW.trod enc P w base spare held n f0.type ((cs.drop f0.offset).take (P.cellsOf f0.type)) = some y0 ∧ DataW.trod enc P w base spare held n f1.type ((cs.drop f1.offset).take (P.cellsOf f1.type)) = some y1 ∧ DataW.trod enc P w base spare held n f2.type ((cs.drop f2.offset).take (P.cellsOf f2.type)) = some y2 ∧ DataW.trod enc P w base spare held n f3.type ((cs.drop f3.offset).take (P.cellsOf f3.type)) = some y3 ∧ DataW.trod enc P w base spare held n f4.type ((cs.drop f4.offset).take (P.cellsOf f4.type)) = some y4 := by
  obtain ⟨xs, n, _, rfl, hl, hlen, hf⟩ := DataW.trod_struct ht h
  match xs, hlen with
  | [y0, y1, y2, y3, y4], _ => exact ⟨y0, y1, y2, y3, y4, n, hl, by simpa using hf 0 f0 rfl, by simpa using hf 1 f1 rfl, by simpa using hf 2 f2 rfl, by simpa using hf 3 f3 rfl, by simpa using hf 4 f4 rfl⟩
end Op
end Go.Proofs.Ytopfjmeejpamjaa
end
section
namespace Go.Proofs.Ytopfjmeejpamjaa
set_option linter.unusedVariables false
set_option linter.unusedSimpArgs false
open Go.RowKit Go.Proofs.YtopfjmeejpamjaaW.PrintWords
namespace Op
open Go.ChangeShapes Go.WideShapes
set_option maxRecDepth 100000 in
theorem struct_part : ∃ f0 f1 f2 : Field, Try.prog.underlying 23 = some (.struct #[f0, f1, f2]) ∧ (f0.offset = 0 ∧ f1.offset = 1 ∧ f2.offset = 2) ∧ (f0.type = 3 ∧ f1.type = 3 ∧ f2.type = 3) := by
  have h : (Try.prog.underlying 23).map (fun d => match d with | .struct fs => (fs.toList.map fun f => (f.offset, f.type)) | _ => []) = some [(0, 3), (1, 3), (2, 3)] := by kernel_rfl
  cases hq : Try.prog.underlying 23 with
  | none => rw [hq] at h; simp at h
  | some d =>
    rw [hq] at h
    cases d with
    | struct fs =>
      obtain ⟨l⟩ := fs
      have h2 : l.map (fun f => (f.offset, f.type)) = [(0, 3), (1, 3), (2, 3)] := by simpa using h
      have hlen : l.length = 3 := by have := congrArg List.length h2; simpa using this
      match l, h2, hlen with
      | [f0, f1, f2], h2, _ =>
        simp only [List.map_cons, List.map_nil, List.cons.injEq, Prod.mk.injEq, and_true] at h2
        obtain ⟨⟨o0, t0⟩, ⟨o1, t1⟩, ⟨o2, t2⟩⟩ := h2
        exact ⟨f0, f1, f2, rfl, ⟨o0, o1, o2⟩, ⟨t0, t1, t2⟩⟩
    | _ => exact absurd (show ([] : List (Nat × TypeId)) = _ from Option.some.inj h) (by simp)
set_option maxRecDepth 100000 in
theorem struct_super : ∃ f0 f1 f2 f3 : Field, Try.prog.underlying 25 = some (.struct #[f0, f1, f2, f3]) ∧ (f0.offset = 0 ∧ f1.offset = 1 ∧ f2.offset = 2 ∧ f3.offset = 3) ∧ (f0.type = 3 ∧ f1.type = 3 ∧ f2.type = 3 ∧ f3.type = 23) := by
  have h : (Try.prog.underlying 25).map (fun d => match d with | .struct fs => (fs.toList.map fun f => (f.offset, f.type)) | _ => []) = some [(0, 3), (1, 3), (2, 3), (3, 23)] := by kernel_rfl
  cases hq : Try.prog.underlying 25 with
  | none => rw [hq] at h; simp at h
  | some d =>
    rw [hq] at h
    cases d with
    | struct fs =>
      obtain ⟨l⟩ := fs
      have h2 : l.map (fun f => (f.offset, f.type)) = [(0, 3), (1, 3), (2, 3), (3, 23)] := by simpa using h
      have hlen : l.length = 4 := by have := congrArg List.length h2; simpa using this
      match l, h2, hlen with
      | [f0, f1, f2, f3], h2, _ =>
        simp only [List.map_cons, List.map_nil, List.cons.injEq, Prod.mk.injEq, and_true] at h2
        obtain ⟨⟨o0, t0⟩, ⟨o1, t1⟩, ⟨o2, t2⟩, ⟨o3, t3⟩⟩ := h2
        exact ⟨f0, f1, f2, f3, rfl, ⟨o0, o1, o2, o3⟩, ⟨t0, t1, t2, t3⟩⟩
    | _ => exact absurd (show ([] : List (Nat × TypeId)) = _ from Option.some.inj h) (by simp)
theorem cells_part : Try.prog.cellsOf 23 = 3 := by kernel_rfl
theorem cells_super : Try.prog.cellsOf 25 = 6 := by kernel_rfl
theorem trod_st3 {H : Type} {enc : TypeId × Value → H} {P : Program} {w : World} {base : Nat} {spare : Nat → Bool} {held : Bool} {t : TypeId} {f0 f1 f2 : Field} {fuel : Nat} {cs : List Value} {x : DataW H × List MemPlace} (ht : P.underlying t = some (.struct #[f0, f1, f2])) (h : DataW.trod enc P w base spare held fuel t cs = some x) :
    ∃ (y0 y1 y2 : DataW H × List MemPlace) (n : Nat), cs.length = P.cellsOf t ∧ DataW.trod enc P w base spare held n f0.type ((cs.drop f0.offset).take (P.cellsOf f0.type)) = some y0 ∧ DataW.trod enc P w base spare held n f1.type ((cs.drop f1.offset).take (P.cellsOf f1.type)) = some y1 ∧ DataW.trod enc P w base spare held n f2.type ((cs.drop f2.offset).take (P.cellsOf f2.type)) = some y2 := by
  obtain ⟨xs, n, _, rfl, hl, hlen, hf⟩ := DataW.trod_struct ht h
  match xs, hlen with
  | [y0, y1, y2], _ => exact ⟨y0, y1, y2, n, hl, by simpa using hf 0 f0 rfl, by simpa using hf 1 f1 rfl, by simpa using hf 2 f2 rfl⟩
set_option maxRecDepth 100000 in
theorem open_part3 {H : Type} {enc : TypeId × Value → H} {w : World} {base : Nat} {spare : Nat → Bool} {held : Bool} {fuel : Nat} {u0 u1 u2 : Value} {y : DataW H × List MemPlace} (h : DataW.trod enc Try.prog w base spare held fuel 23 [u0, u1, u2] = some y) :
    ∃ x0 x1 x2 : Int, u0 = .int .i64 x0 ∧ u1 = .int .i64 x1 ∧ u2 = .int .i64 x2 ∧ inI64 x0 ∧ inI64 x1 ∧ inI64 x2 := by
  obtain ⟨f0, f1, f2, hs, ⟨o0, o1, o2⟩, t0, t1, t2⟩ := struct_part
  obtain ⟨y0, y1, y2, n, hl, g0, g1, g2⟩ := trod_st3 hs h
  rw [o0, t0, cells_int1] at g0
  rw [o1, t1, cells_int1] at g1
  rw [o2, t2, cells_int1] at g2
  simp [Value.cells] at g0 g1 g2
  obtain ⟨x0, k0, i0⟩ := open_i64 (w := w) Try.underlying3 g0
  obtain ⟨x1, k1, i1⟩ := open_i64 (w := w) Try.underlying3 g1
  obtain ⟨x2, k2, i2⟩ := open_i64 (w := w) Try.underlying3 g2
  exact ⟨x0, x1, x2, by have := k0; simpa [Kd.int, Kd.scalar] using this, by have := k1; simpa [Kd.int, Kd.scalar] using this, by have := k2; simpa [Kd.int, Kd.scalar] using this, i0, i1, i2⟩
set_option maxRecDepth 100000 in
open Go.Lib in
theorem open_super {H : Type} {enc : TypeId × Value → H} {w : World} {base : Nat} {spare : Nat → Bool} {held : Bool} {r : Reach} {b0 : Nat} {v : Value} {d : DataW H} {p : List MemPlace} (hv : Value.okWide Try.prog w r b0 25 v) (h : DataW.Trod enc Try.prog w base spare held 25 v d p) :
    ∃ (x0 x1 x2 x3 x4 x5 : Int), v = .agg #[.int .i64 x0, .int .i64 x1, .int .i64 x2, .int .i64 x3, .int .i64 x4, .int .i64 x5] ∧ inI64 x0 ∧ inI64 x1 ∧ inI64 x2 ∧ inI64 x3 ∧ inI64 x4 ∧ inI64 x5 := by
  obtain ⟨f0, f1, f2, f3, hs, ⟨o0, o1, o2, o3⟩, t0, t1, t2, t3⟩ := struct_super
  obtain ⟨cs, rfl, hsz⟩ := okWide_struct hs hv
  rw [cells_super] at hsz
  obtain ⟨u0, u1, u2, u3, u4, u5, rfl⟩ : ∃ c0 c1 c2 c3 c4 c5, cs = #[c0, c1, c2, c3, c4, c5] := by
    obtain ⟨l⟩ := cs
    match l, hsz with
    | [c0, c1, c2, c3, c4, c5], _ => exact ⟨c0, c1, c2, c3, c4, c5, rfl⟩
  obtain ⟨fuel, hf⟩ := h
  obtain ⟨y0, y1, y2, y3, n, hl, g0, g1, g2, g3⟩ := trod_st4 hs hf
  rw [o0, t0, cells_int1] at g0
  rw [o1, t1, cells_int1] at g1
  rw [o2, t2, cells_int1] at g2
  rw [o3, t3, cells_part] at g3
  simp [Value.cells] at g0 g1 g2 g3
  obtain ⟨x0, k0, i0⟩ := open_i64 (w := w) Try.underlying3 g0
  obtain ⟨x1, k1, i1⟩ := open_i64 (w := w) Try.underlying3 g1
  obtain ⟨x2, k2, i2⟩ := open_i64 (w := w) Try.underlying3 g2
  obtain ⟨x3, x4, x5, e3, e4, e5, i3, i4, i5⟩ := open_part3 g3
  have e0 : u0 = .int .i64 x0 := by have := k0; simpa [Kd.int, Kd.scalar] using this
  have e1 : u1 = .int .i64 x1 := by have := k1; simpa [Kd.int, Kd.scalar] using this
  have e2 : u2 = .int .i64 x2 := by have := k2; simpa [Kd.int, Kd.scalar] using this
  subst e0 e1 e2 e3 e4 e5
  exact ⟨x0, x1, x2, x3, x4, x5, rfl, i0, i1, i2, i3, i4, i5⟩
end Op
end Go.Proofs.Ytopfjmeejpamjaa
end
