import Derived.Test.YtkfbegmfepehiaaProg
import Derived.Test.YtkfbegmfepehiaaZWWords
import Derived.Test.YtkfbegmfepehiaaZWMore
import Derived.Deep.Slices
import Derived.Deep.SlicePairs
import Derived.Deep.Strs
import Derived.ChangeSame
namespace Go.Proofs.Ytkfbegmfepehiaa
set_option linter.unusedVariables false
set_option linter.unusedSimpArgs false
open Go.RowKit Go.Proofs.YtkfbegmfepehiaaW.PrintWords
namespace Op
open Go.ChangeShapes Go.WideShapes
section
variable {H : Type} {enc : TypeId × Value → H} {P : Program} {w : World} {base : Nat} {spare : Nat → Bool} {held : Bool}
theorem open_rows {α : Type} (d : Kd α) (good : α → Prop) {t e : TypeId} (ht : P.underlying t = some (.slice e)) (ce : P.cellsOf e = d.sz)
    (hel : ∀ fuel cs y, DataW.trod enc P w base spare held fuel e cs = some y → ∃ x, d.K w x cs ∧ good x)
    {fuel : Nat} {cs : List Value} {x : DataW H × List MemPlace} (h : DataW.trod enc P w base spare held fuel t cs = some x) :
    ∃ A c, ∃ ys : List α, cs = [.slice A ys.length c] ∧ ys.length ≤ c ∧ d.C w A ys.length ys ∧ (∀ y ∈ ys, good y) ∧ ys.length ≤ maxLen := by
  rcases Go.Deep.open_slice ht h with ⟨rfl, _⟩ | ⟨a, len, cap, m, k, D, Pl, rfl, _, hl, hm, hmm, _, hx⟩
  · exact ⟨none, 0, [], rfl, Nat.le_refl _, ⟨rfl, by simp, fun h => by simp at h⟩, by simp, by simp⟩
  · have hlm : len ≤ m := by rw [hmm]; split <;> omega
    have each : ∀ i, i < len → ∃ y : α, good y ∧ ∃ c, c.length = d.sz ∧ d.K w y c ∧ ∀ j u, c[j]? = some u → w.cell? (a.add (i * d.sz + j)) = some u := by
      intro i hi
      obtain ⟨cs', h1, h2⟩ := hx i (by omega)
      obtain ⟨y, hk, hg⟩ := hel _ _ _ h2
      obtain ⟨_, hlen, hcell⟩ := World.cells?_some h1
      refine ⟨y, hg, cs', by rw [hlen, ce], hk, fun j u hu => ?_⟩
      have hj : j < cs'.length := by
        rcases Nat.lt_or_ge j cs'.length with h' | h'
        · exact h'
        · rw [List.getElem?_eq_none h'] at hu; cases hu
      have := hcell j (by omega)
      rw [hu, Go.Deep.add_add, ce] at this
      exact this
    obtain ⟨f, hf⟩ : ∃ f : Nat → Option α, ∀ i, i < len → ∃ y, f i = some y ∧ good y ∧ ∃ c, c.length = d.sz ∧ d.K w y c ∧ ∀ j u, c[j]? = some u → w.cell? (a.add (i * d.sz + j)) = some u := by
      classical
      refine ⟨fun i => if hi : i < len then some (each i hi).choose else none, fun i hi => ?_⟩
      refine ⟨(each i hi).choose, by simp only [dif_pos hi], (each i hi).choose_spec.1, (each i hi).choose_spec.2⟩
    have hlist : ∀ n, n ≤ len → ∃ ys : List α, ys.length = n ∧ ∀ i, i < n → ys[i]? = f i := by
      intro n
      induction n with
      | zero => exact fun _ => ⟨[], rfl, fun i h => by omega⟩
      | succ n ih =>
        intro hn
        obtain ⟨ys, h1, h2⟩ := ih (by omega)
        obtain ⟨y, hy, _⟩ := hf n (by omega)
        refine ⟨ys ++ [y], by simp [h1], fun i hi => ?_⟩
        rcases Nat.lt_or_ge i n with h' | h'
        · rw [List.getElem?_append_left (by omega)]; exact h2 i h'
        · have : i = n := by omega
          subst this
          rw [List.getElem?_append_right (by omega), h1, Nat.sub_self, hy]
          rfl
    obtain ⟨ys, h1, h2⟩ := hlist len (Nat.le_refl _)
    refine ⟨some a, cap, ys, by rw [h1], by omega, ⟨rfl, ?_, fun _ => ⟨a, rfl, fun j y hj => ?_⟩⟩, fun y hy => ?_, by omega⟩
    · have : maxLen ≤ 9223372036854775807 := by decide
      omega
    · have hjl : j < ys.length := by
        rcases Nat.lt_or_ge j ys.length with h' | h'
        · exact h'
        · rw [List.getElem?_eq_none h'] at hj; cases hj
      rw [h2 j (by omega)] at hj
      obtain ⟨y', e1, _, e2⟩ := hf j (by omega)
      rw [e1] at hj
      cases hj
      exact e2
    · obtain ⟨j, hj⟩ := List.getElem?_of_mem hy
      have hjl : j < ys.length := by
        rcases Nat.lt_or_ge j ys.length with h' | h'
        · exact h'
        · rw [List.getElem?_eq_none h'] at hj; cases hj
      rw [h2 j (by omega)] at hj
      obtain ⟨y', e1, e2, _⟩ := hf j (by omega)
      rw [e1] at hj
      cases hj
      exact e2
def inI64 (x : Int) : Prop := -9223372036854775808 ≤ x ∧ x ≤ 9223372036854775807
theorem wf_i64 {x : Int} (h : (Lit.int .i64 x).wf = true) : inI64 x := by
  simp only [Lit.wf, Bool.and_eq_true, decide_eq_true_eq] at h
  have h1 : IntKind.min .i64 = -9223372036854775808 := by decide
  have h2 : IntKind.max .i64 = 9223372036854775807 := by decide
  rw [h1, h2] at h
  exact h
theorem open_i64 {t : TypeId} (ht : P.underlying t = some (.int .i64)) {fuel : Nat} {cs : List Value} {y : DataW H × List MemPlace} (h : DataW.trod enc P w base spare held fuel t cs = some y) :
    ∃ x, (Kd.int .i64).K w x cs ∧ inI64 x := by
  obtain ⟨x, e, _, hw⟩ := DataW.trod_int ht h
  exact ⟨x, e, wf_i64 hw⟩
end
end Op
end Go.Proofs.Ytkfbegmfepehiaa
