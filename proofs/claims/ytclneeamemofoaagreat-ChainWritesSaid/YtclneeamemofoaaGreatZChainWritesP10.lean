/- Part 11 of the proof of ChainWrites: lemmas alone. -/
import Derived.Test.YtclneeamemofoaaGreatProg
import Derived.Test.YtclneeamemofoaaGreatZChainWritesP4
import Derived.Test.YtclneeamemofoaaGreatZChainWritesP5
import Derived.Deep.Slices
import Derived.Deep.SlicePairs
import Derived.Deep.Strs
import Derived.ChangeSame
import Derived.KernelRfl
import Derived.Test.YtclneeamemofoaaGreatZChainWritesP6
section
namespace Go.Proofs.YtclneeamemofoaaGreat
set_option linter.unusedVariables false
set_option linter.unusedSimpArgs false
open Go.RowKit Go.Proofs.YtclneeamemofoaaGreatW.PrintWords
namespace Op
open Go.ChangeShapes Go.WideShapes
section
variable {H : Type} {enc : TypeId × Value → H} {P : Program} {w : World} {base : Nat} {spare : Nat → Bool} {held : Bool}
theorem open_rows {α : Type} (d : Kd α) (good : α → Prop) {t e : TypeId} (ht : P.underlying t = some (.slice e)) (ce : P.cellsOf e = d.sz)
    (hel : ∀ fuel cs y, DataW.trod enc P w base spare held fuel e cs = some y → ∃ x, d.K w x cs ∧ good x)
    {fuel : Nat} {cs : List Value} {x : DataW H × List MemPlace} (h : DataW.trod enc P w base spare held fuel t cs = some x) :
    ∃ A c, ∃ ys : List α, cs = [.slice A ys.length c] ∧ ys.length ≤ c ∧ d.C w A ys.length ys ∧ (∀ y ∈ ys, good y) ∧ ys.length ≤ maxLen := by
  rcases Go.Deep.open_slice ht h with ⟨rfl, _⟩ | ⟨a, len, cap, m, k, D, Pl, rfl, _, hl, hm, hmm, _, hx⟩
  · exact ⟨none, 0, [], rfl, Nat.le_refl _, ⟨rfl, by simp, fun h => by simp at h⟩, by simp, by simp⟩
  · have hlm : len ≤ m := by rw [hmm]; split <;> omega
    have each : ∀ i, i < len → ∃ y : α, good y ∧ ∃ c, c.length = d.sz ∧ d.K w y c ∧ ∀ j u, c[j]? = some u → w.cell? (a.add (i * d.sz + j)) = some u := by
      intro i hi
      obtain ⟨cs', h1, h2⟩ := hx i (by omega)
      obtain ⟨y, hk, hg⟩ := hel _ _ _ h2
      obtain ⟨_, hlen, hcell⟩ := World.cells?_some h1
      refine ⟨y, hg, cs', by rw [hlen, ce], hk, fun j u hu => ?_⟩
      have hj : j < cs'.length := by
        rcases Nat.lt_or_ge j cs'.length with h' | h'
        · exact h'
        · rw [List.getElem?_eq_none h'] at hu; cases hu
      have := hcell j (by omega)
      rw [hu, Go.Deep.add_add, ce] at this
      exact this
    obtain ⟨f, hf⟩ : ∃ f : Nat → Option α, ∀ i, i < len → ∃ y, f i = some y ∧ good y ∧ ∃ c, c.length = d.sz ∧ d.K w y c ∧ ∀ j u, c[j]? = some u → w.cell? (a.add (i * d.sz + j)) = some u := by
      classical
      refine ⟨fun i => if hi : i < len then some (each i hi).choose else none, fun i hi => ?_⟩
      refine ⟨(each i hi).choose, by simp only [dif_pos hi], (each i hi).choose_spec.1, (each i hi).choose_spec.2⟩
    have hlist : ∀ n, n ≤ len → ∃ ys : List α, ys.length = n ∧ ∀ i, i < n → ys[i]? = f i := by
      intro n
      induction n with
      | zero => exact fun _ => ⟨[], rfl, fun i h => by omega⟩
      | succ n ih =>
        intro hn
        obtain ⟨ys, h1, h2⟩ := ih (by omega)
        obtain ⟨y, hy, _⟩ := hf n (by omega)
        refine ⟨ys ++ [y], by simp [h1], fun i hi => ?_⟩
        rcases Nat.lt_or_ge i n with h' | h'
        · rw [List.getElem?_append_left (by omega)]; exact h2 i h'
        · have : i = n := by omega
          subst this
          rw [List.getElem?_append_right (by omega), h1, Nat.sub_self, hy]
          rfl
    obtain ⟨ys, h1, h2⟩ := hlist len (Nat.le_refl _)
    refine ⟨some a, cap, ys, by rw [h1], by omega, ⟨rfl, ?_, fun _ => ⟨a, rfl, fun j y hj => ?_⟩⟩, fun y hy => ?_, by omega⟩
    · have : maxLen ≤ 9223372036854775807 := by decide
      omega
    · have hjl : j < ys.length := by
        rcases Nat.lt_or_ge j ys.length with h' | h'
        · exact h'
        · rw [List.getElem?_eq_none h'] at hj; cases hj
      rw [h2 j (by omega)] at hj
      obtain ⟨y', e1, _, e2⟩ := hf j (by omega)
      rw [e1] at hj
      cases hj
      exact e2
    · obtain ⟨j, hj⟩ := List.getElem?_of_mem hy
      have hjl : j < ys.length := by
        rcases Nat.lt_or_ge j ys.length with h' | h'
        · exact h'
        · rw [List.getElem?_eq_none h'] at hj; cases hj
      rw [h2 j (by omega)] at hj
      obtain ⟨y', e1, e2, _⟩ := hf j (by omega)
      rw [e1] at hj
      cases hj
      exact e2
def inI64 (x : Int) : Prop := -9223372036854775808 ≤ x ∧ x ≤ 9223372036854775807
theorem wf_i64 {x : Int} (h : (Lit.int .i64 x).wf = true) : inI64 x := by
  simp only [Lit.wf, Bool.and_eq_true, decide_eq_true_eq] at h
  have h1 : IntKind.min .i64 = -9223372036854775808 := by decide
  have h2 : IntKind.max .i64 = 9223372036854775807 := by decide
  rw [h1, h2] at h
  exact h
theorem open_i64 {t : TypeId} (ht : P.underlying t = some (.int .i64)) {fuel : Nat} {cs : List Value} {y : DataW H × List MemPlace} (h : DataW.trod enc P w base spare held fuel t cs = some y) :
    ∃ x, (Kd.int .i64).K w x cs ∧ inI64 x := by
  obtain ⟨x, e, _, hw⟩ := DataW.trod_int ht h
  exact ⟨x, e, wf_i64 hw⟩
theorem open_i64s {t e : TypeId} (ht : P.underlying t = some (.slice e)) (he : P.underlying e = some (.int .i64)) (ce : P.cellsOf e = 1) {fuel : Nat} {cs : List Value} {y : DataW H × List MemPlace} (h : DataW.trod enc P w base spare held fuel t cs = some y) :
    ∃ x : List Int, (Kd.slice e (Kd.int .i64)).K w x cs ∧ ∀ z ∈ x, inI64 z := by
  obtain ⟨A, c, ys, e1, h1, h2, h3, _⟩ := open_rows (Kd.int .i64) inI64 ht (by rw [ce]; rfl) (fun fuel cs y h => open_i64 he h) h
  exact ⟨ys, ⟨A, c, e1, h1, h2⟩, h3⟩
end
end Op
end Go.Proofs.YtclneeamemofoaaGreat
end
section
namespace Go.Proofs.YtclneeamemofoaaGreat
set_option linter.unusedVariables false
set_option linter.unusedSimpArgs false
open Go.RowKit Go.Proofs.YtclneeamemofoaaGreatW.PrintWords
namespace Op
open Go.ChangeShapes Go.WideShapes
def in8 (x : Int) : Prop := 0 ≤ x ∧ x ≤ 255
theorem wf_u8 {x : Int} (h : (Lit.int .u8 x).wf = true) : in8 x := by
  simp only [Lit.wf, Bool.and_eq_true, decide_eq_true_eq] at h
  have h1 : IntKind.min .u8 = 0 := by decide
  have h2 : IntKind.max .u8 = 255 := by decide
  rw [h1, h2] at h
  exact h
theorem cells_u8 : Tryz.prog.cellsOf 5 = 1 := by kernel_rfl
theorem cells_int1 : Tryz.prog.cellsOf 3 = 1 := by kernel_rfl
theorem cells_u8s : Tryz.prog.cellsOf 39 = 1 := by kernel_rfl
section
variable {H : Type} {enc : TypeId × Value → H} {P : Program} {w : World} {base : Nat} {spare : Nat → Bool} {held : Bool}
theorem open_u8 {t : TypeId} (ht : P.underlying t = some (.int .u8)) {fuel : Nat} {cs : List Value} {y : DataW H × List MemPlace} (h : DataW.trod enc P w base spare held fuel t cs = some y) :
    ∃ x, (Kd.int .u8).K w x cs ∧ in8 x := by
  obtain ⟨x, e, _, hw⟩ := DataW.trod_int ht h
  exact ⟨x, e, wf_u8 hw⟩
theorem open_u8s {fuel : Nat} {cs : List Value} {y : DataW H × List MemPlace} (h : DataW.trod enc Tryz.prog w base spare held fuel 39 cs = some y) :
    ∃ x : List Int, (Kd.slice 5 (Kd.int .u8)).K w x cs ∧ ∀ z ∈ x, in8 z := by
  obtain ⟨A, c, ys, e1, h1, h2, h3, _⟩ := open_rows (Kd.int .u8) in8 Tryz.underlying39 (by rw [cells_u8]; rfl) (fun fuel cs y h => open_u8 Tryz.underlying5 h) h
  exact ⟨ys, ⟨A, c, e1, h1, h2⟩, h3⟩
end
end Op
end Go.Proofs.YtclneeamemofoaaGreat
end
section
namespace Go.Proofs.YtclneeamemofoaaGreat
set_option linter.unusedVariables false
set_option linter.unusedSimpArgs false
open Go.RowKit Go.Proofs.YtclneeamemofoaaGreatW.PrintWords
namespace Op
open Go.ChangeShapes Go.WideShapes
theorem trod_st5 {H : Type} {enc : TypeId × Value → H} {P : Program} {w : World} {base : Nat} {spare : Nat → Bool} {held : Bool} {t : TypeId} {f0 f1 f2 f3 f4 : Field} {fuel : Nat} {cs : List Value} {x : DataW H × List MemPlace} (ht : P.underlying t = some (.struct #[f0, f1, f2, f3, f4])) (h : DataW.trod enc P w base spare held fuel t cs = some x) :
    ∃ (y0 y1 y2 y3 y4 : DataW H × List MemPlace) (n : Nat), cs.length = P.cellsOf t ∧ DataW.trod enc P w base spare held n f0.type ((cs.drop f0.offset).take (P.cellsOf f0.type)) = some y0 ∧ DataW.trod enc P w base spare held n f1.type ((cs.drop f1.offset).take (P.cellsOf f1.type)) = some y1 ∧ DataW.trod enc P w base spare held n f2.type ((cs.drop f2.offset).take (P.cellsOf f2.type)) = some y2 ∧ DataW.trod enc P w base spare held n f3.type ((cs.drop f3.offset).take (P.cellsOf f3.type)) = some y3 ∧ DataW.trod enc P w base spare held n f4.type ((cs.drop f4.offset).take (P.cellsOf f4.type)) = some y4 := by
  obtain ⟨xs, n, _, rfl, hl, hlen, hf⟩ := DataW.trod_struct ht h
  match xs, hlen with
  | [y0, y1, y2, y3, y4], _ => exact ⟨y0, y1, y2, y3, y4, n, hl, by simpa using hf 0 f0 rfl, by simpa using hf 1 f1 rfl, by simpa using hf 2 f2 rfl, by simpa using hf 3 f3 rfl, by simpa using hf 4 f4 rfl⟩
end Op
end Go.Proofs.YtclneeamemofoaaGreat
end
section
namespace Go.Proofs.YtclneeamemofoaaGreat
set_option linter.unusedVariables false
set_option linter.unusedSimpArgs false
open Go.RowKit Go.Proofs.YtclneeamemofoaaGreatW.PrintWords Go.Proofs.YtclneeamemofoaaGreatW.PrintLast Go.Proofs.YtclneeamemofoaaGreatW.PrintMore
namespace Op
open Go.ChangeShapes Go.WideShapes
theorem struct_text : ∃ f0 f1 f2 : Field, Tryz.prog.underlying 41 = some (.struct #[f0, f1, f2]) ∧ (f0.offset = 0 ∧ f1.offset = 1 ∧ f2.offset = 2) ∧ (f0.type = 3 ∧ f1.type = 38 ∧ f2.type = 39) := by
  have h : (Tryz.prog.underlying 41).map (fun d => match d with | .struct fs => (fs.toList.map fun f => (f.offset, f.type)) | _ => []) = some [(0, 3), (1, 38), (2, 39)] := by kernel_rfl
  cases hq : Tryz.prog.underlying 41 with
  | none => rw [hq] at h; simp at h
  | some d =>
    rw [hq] at h
    cases d with
    | struct fs =>
      obtain ⟨l⟩ := fs
      have h2 : l.map (fun f => (f.offset, f.type)) = [(0, 3), (1, 38), (2, 39)] := by simpa using h
      have hlen : l.length = 3 := by have := congrArg List.length h2; simpa using this
      match l, h2, hlen with
      | [f0, f1, f2], h2, _ =>
        simp only [List.map_cons, List.map_nil, List.cons.injEq, Prod.mk.injEq, and_true] at h2
        obtain ⟨⟨o0, t0⟩, ⟨o1, t1⟩, ⟨o2, t2⟩⟩ := h2
        exact ⟨f0, f1, f2, rfl, ⟨o0, o1, o2⟩, ⟨t0, t1, t2⟩⟩
    | _ => exact absurd (show ([] : List (Nat × TypeId)) = _ from Option.some.inj h) (by simp)
theorem cells_text : Tryz.prog.cellsOf 41 = 3 := by kernel_rfl
theorem cells_is1 : Tryz.prog.cellsOf 38 = 1 := by kernel_rfl
theorem trod_st3 {H : Type} {enc : TypeId × Value → H} {P : Program} {w : World} {base : Nat} {spare : Nat → Bool} {held : Bool} {t : TypeId} {f0 f1 f2 : Field} {fuel : Nat} {cs : List Value} {x : DataW H × List MemPlace} (ht : P.underlying t = some (.struct #[f0, f1, f2])) (h : DataW.trod enc P w base spare held fuel t cs = some x) :
    ∃ (y0 y1 y2 : DataW H × List MemPlace) (n : Nat), cs.length = P.cellsOf t ∧ DataW.trod enc P w base spare held n f0.type ((cs.drop f0.offset).take (P.cellsOf f0.type)) = some y0 ∧ DataW.trod enc P w base spare held n f1.type ((cs.drop f1.offset).take (P.cellsOf f1.type)) = some y1 ∧ DataW.trod enc P w base spare held n f2.type ((cs.drop f2.offset).take (P.cellsOf f2.type)) = some y2 := by
  obtain ⟨xs, n, _, rfl, hl, hlen, hf⟩ := DataW.trod_struct ht h
  match xs, hlen with
  | [y0, y1, y2], _ => exact ⟨y0, y1, y2, n, hl, by simpa using hf 0 f0 rfl, by simpa using hf 1 f1 rfl, by simpa using hf 2 f2 rfl⟩
section
variable {H : Type} {enc : TypeId × Value → H} {w : World} {base : Nat} {spare : Nat → Bool} {held : Bool}
set_option maxRecDepth 100000 in
theorem open_textK {fuel : Nat} {cs : List Value} {y : DataW H × List MemPlace} (h : DataW.trod enc Tryz.prog w base spare held fuel 41 cs = some y) :
    ∃ x : PChain.S41, PChain.k41.K w x cs ∧ ∀ z ∈ x.f2, in8 z := by
  obtain ⟨f0, f1, f2, hs, ⟨o0, o1, o2⟩, t0, t1, t2⟩ := struct_text
  obtain ⟨y0, y1, y2, n, hl, g0, g1, g2⟩ := trod_st3 hs h
  rw [cells_text] at hl
  match cs, hl with
  | [u0, u1, u2], _ =>
    rw [o0, t0, cells_int1] at g0
    rw [o1, t1, cells_is1] at g1
    rw [o2, t2, cells_u8s] at g2
    simp at g0 g1 g2
    obtain ⟨x0, k0, _⟩ := open_i64 (w := w) Tryz.underlying3 g0
    obtain ⟨x1, ⟨A1, c1, k1, hc1, hC1⟩, i1⟩ := open_i64s Tryz.underlying38 Tryz.underlying3 cells_int1 g1
    obtain ⟨x2, ⟨A2, c2, k2, hc2, hC2⟩, i2⟩ := open_u8s g2
    have e0 : u0 = .int .i64 x0 := by have := k0; simpa [Kd.int, Kd.scalar] using this
    have e1 : u1 = .slice A1 x1.length c1 := by simpa using k1
    have e2 : u2 = .slice A2 x2.length c2 := by simpa using k2
    subst e0 e1 e2
    exact ⟨⟨x0, x1, x2⟩, PChain.k41_mk w ⟨x0, x1, x2⟩ hc1 hC1 hc2 hC2, i2⟩
theorem open_texts {A : Option Addr} {n c : Nat} {d : DataW H} {p : List MemPlace} (h : DataW.Trod enc Tryz.prog w base spare held 22 (.slice A n c) d p) :
    ∃ ys : List PChain.S41, n = ys.length ∧ ys.length ≤ c ∧ Kd.C PChain.k41 w A ys.length ys ∧ ∀ y ∈ ys, ∀ z ∈ y.f2, in8 z := by
  obtain ⟨fuel, hf⟩ := h
  obtain ⟨A', c', ys, e, h1, h2, h3, _⟩ := open_rows PChain.k41 (fun y => ∀ z ∈ y.f2, in8 z) Tryz.underlying22 cells_text (fun fuel cs y h => open_textK h) hf
  simp [Value.cells] at e
  obtain ⟨rfl, rfl, rfl⟩ := e
  exact ⟨ys, rfl, h1, h2, h3⟩
end
end Op
end Go.Proofs.YtclneeamemofoaaGreat
end
