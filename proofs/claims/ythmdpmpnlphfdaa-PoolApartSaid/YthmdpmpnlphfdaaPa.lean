/- The pool's plain law: what is taken and given back, counted. -/
import Derived.Test.YthmdpmpnlphfdaaPp
namespace Go.Proofs.Ythmdpmpnlphfdaa
set_option linter.unusedVariables false
set_option linter.unusedSimpArgs false
namespace Bits
open Go.Bits Go.Pool
theorem list_count (l : List Bool) (b : Bool) (n : Nat) : ∀ p, l.length - p = n → (listAt l b p).length = (l.drop p).count b := by
  induction n with
  | zero => intro p hp; rw [list_end (by omega), List.drop_eq_nil_of_le (by omega)]; rfl
  | succ n ih =>
    intro p hp
    have hlt : p < l.length := by omega
    rw [List.drop_eq_getElem_cons hlt]
    by_cases h : l.getD p false = b
    · have h' : l[p] = b := by simpa [List.getD_eq_getElem?_getD, List.getElem?_eq_getElem hlt] using h
      rw [list_hit hlt h, List.length_cons, ih (p + 1) (by omega), h', List.count_cons_self]
    · have h' : l[p] ≠ b := by simpa [List.getD_eq_getElem?_getD, List.getElem?_eq_getElem hlt] using h
      rw [list_miss (fun _ => h), ih (p + 1) (by omega), List.count_cons_of_ne h']
theorem listL_count (l : List Bool) : (listL l).length = l.count true := by
  have := list_count l true l.length 0 (by omega)
  rw [List.drop_zero] at this
  exact this
theorem count_up (l : List Bool) (i : Nat) (h : i < l.length) (hf : l.getD i false = false) : (l.set i true).count true = l.count true + 1 := by
  have hf' : l[i] = false := by simpa [List.getD_eq_getElem?_getD, List.getElem?_eq_getElem h] using hf
  rw [List.count_set h, hf']
  simp
theorem count_down (l : List Bool) (i : Nat) (h : i < l.length) (hf : l.getD i false = true) : (l.set i false).count true + 1 = l.count true := by
  have hf' : l[i] = true := by simpa [List.getD_eq_getElem?_getD, List.getElem?_eq_getElem h] using hf
  have hpos : 0 < l.count true := List.count_pos_iff.2 (by rw [← hf']; exact List.getElem_mem h)
  rw [List.count_set h, hf']
  simp
  omega
theorem setAll_up : ∀ (ys : List Int) (l : List Bool), (∀ y ∈ ys, In l y ∧ l.getD y.toNat false = false) → ys.Nodup → (setAll l ys true).count true = l.count true + ys.length
  | [], l, _, _ => by simp [setAll_nil]
  | y :: ys, l, h, hd => by
    have hy := h y List.mem_cons_self
    have hin := hy.1
    unfold In at hin
    rw [setAll_cons, setAll_up ys _ (fun z hz => ?_) (List.nodup_cons.1 hd).2, count_up l y.toNat (by omega) hy.2, List.length_cons]
    · omega
    · have h1 := h z (List.mem_cons_of_mem _ hz)
      have hne : y ≠ z := fun e => (List.nodup_cons.1 hd).1 (e ▸ hz)
      have h1i := h1.1
      unfold In at h1i ⊢
      rw [List.length_set, getD_set _ _ _ _ (by omega), if_neg (by omega)]
      exact ⟨h1i, h1.2⟩
theorem setAll_down : ∀ (ys : List Int) (l : List Bool), (∀ y ∈ ys, In l y ∧ l.getD y.toNat false = true) → ys.Nodup → (setAll l ys false).count true + ys.length = l.count true
  | [], l, _, _ => by simp [setAll_nil]
  | y :: ys, l, h, hd => by
    have hy := h y List.mem_cons_self
    have hin := hy.1
    unfold In at hin
    have h2 := setAll_down ys (l.set y.toNat false) (fun z hz => ?_) (List.nodup_cons.1 hd).2
    · have h3 := count_down l y.toNat (by omega) hy.2
      rw [setAll_cons, List.length_cons]
      omega
    · have h1 := h z (List.mem_cons_of_mem _ hz)
      have hne : y ≠ z := fun e => (List.nodup_cons.1 hd).1 (e ▸ hz)
      have h1i := h1.1
      unfold In at h1i ⊢
      rw [List.length_set, getD_set _ _ _ _ (by omega), if_neg (by omega)]
      exact ⟨h1i, h1.2⟩
/-- What Take answers. -/
structure Took (fr : Int) (l l' : List Bool) (xs : List Int) (r : Int) : Prop where
  set : l' = setAll l (xs.map (· - fr)) true
  free : ∀ x ∈ xs, In l (x - fr) ∧ l.getD (x - fr).toNat false = false
  nodup : xs.Nodup
  none_ : r ≠ 0 → xs = []
theorem nodup_map {xs : List Int} (h : xs.Nodup) (k : Int) : (xs.map (k + ·)).Nodup := by
  rw [List.nodup_iff_pairwise_ne, List.pairwise_map]
  exact h.imp fun hne e => hne (by omega)
theorem nodup_sub {xs : List Int} (h : xs.Nodup) (k : Int) : (xs.map (· - k)).Nodup := by
  rw [List.nodup_iff_pairwise_ne, List.pairwise_map]
  exact h.imp fun hne e => hne (by omega)
theorem take_took (fr : Int) (l : List Bool) (n : Int) : Took fr l (takeAll fr l n).1 (takeAll fr l n).2.1 (takeAll fr l n).2.2 := by
  unfold takeAll
  split
  · exact ⟨rfl, by simp, List.nodup_nil, fun _ => rfl⟩
  · split
    · exact ⟨rfl, by simp, List.nodup_nil, fun _ => rfl⟩
    · have hg : ∀ x ∈ gaps l, (0 : Int) ≤ x ∧ In l x ∧ l.getD x.toNat false = false := fun x hx => by
        have := list_in (l := l) (b := false) l.length 0 (by omega) x hx
        exact ⟨by omega, this.2⟩
      refine ⟨?_, fun x hx => ?_, nodup_map ((list_nodup l.length 0 (by omega)).sublist (List.take_sublist _ _)) fr, fun h => absurd rfl h⟩
      · show setAll l ((gaps l).take n.toNat) true = _
        rw [List.map_map]
        congr 1
        have : ∀ ys : List Int, ys = ys.map ((fun x => x - fr) ∘ fun x => fr + x) := fun ys => by
          conv => lhs; rw [← List.map_id ys]
          exact List.map_congr_left fun a _ => by simp; omega
        exact this _
      · simp only [List.mem_map] at hx
        obtain ⟨g, hg1, rfl⟩ := hx
        have h1 := hg g (List.mem_of_mem_take hg1)
        rw [show fr + g - fr = g by omega]
        exact h1.2
theorem Took.len {fr : Int} {l l' : List Bool} {xs : List Int} {r : Int} (h : Took fr l l' xs r) : l'.length = l.length := by rw [h.set, setAll_len]
theorem mapsub {fr : Int} {xs : List Int} {P : Int → Prop} (h : ∀ x ∈ xs, P (x - fr)) : ∀ y ∈ xs.map (· - fr), P y := by
  intro y hy
  simp only [List.mem_map] at hy
  obtain ⟨x, hx, rfl⟩ := hy
  exact h x hx
theorem Took.count {fr : Int} {l l' : List Bool} {xs : List Int} {r : Int} (h : Took fr l l' xs r) : (listL l').length = (listL l).length + xs.length := by
  rw [listL_count, listL_count, h.set, setAll_up _ _ (mapsub (P := fun y => In l y ∧ l.getD y.toNat false = false) h.free) (nodup_sub h.nodup fr), List.length_map]
/-- What was taken of the first ones, at the next one. -/
theorem Took.next {fr : Int} {l l' : List Bool} {xs : List Int} {r : Int} (h : Took fr l l' xs r) (k : Nat) (hk : k < xs.length) : In l (xs[k] - fr) ∧ (setAll l ((xs.take k).map (· - fr)) true).getD (xs[k] - fr).toNat false = false ∧ (setAll l ((xs.take k).map (· - fr)) true).set (xs[k] - fr).toNat true = setAll l ((xs.take (k + 1)).map (· - fr)) true := by
  have hm := h.free _ (List.getElem_mem hk)
  refine ⟨hm.1, ?_, ?_⟩
  · have hi := hm.1
    unfold In at hi
    rw [setAll_get true _ l _ (mapsub (P := fun y => In l y) (fun x hx => (h.free x (List.mem_of_mem_take hx)).1)), if_neg, hm.2]
    rw [Int.toNat_of_nonneg hi.1]
    intro hx
    simp only [List.mem_map] at hx
    obtain ⟨x, hx1, hx2⟩ := hx
    have he : x = xs[k] := by omega
    subst he
    have hd := h.nodup
    rw [← List.take_append_drop k xs, List.drop_eq_getElem_cons hk] at hd
    exact (List.nodup_append.1 hd).2.2 _ hx1 _ List.mem_cons_self rfl
  · rw [List.take_succ_eq_append_getElem hk, List.map_append, List.map_cons, List.map_nil, setAll_snoc]
theorem Took.back {fr : Int} {l l' : List Bool} {xs : List Int} {r : Int} (h : Took fr l l' xs r) : turnAll fr l' xs true 6 = (setAll l' (xs.map (· - fr)) false, 0) ∧ (∀ x ∈ xs, In l' (x - fr) ∧ l'.getD (x - fr).toNat false = true) ∧ (listL (setAll l' (xs.map (· - fr)) false)).length + xs.length = (listL l').length := by
  have hin : ∀ x ∈ xs, In l' (x - fr) ∧ l'.getD (x - fr).toNat false = true := fun x hx => by
    have h1 := (h.free x hx).1
    have hi := h1
    unfold In at hi
    refine ⟨by unfold In; rw [h.len]; exact hi, ?_⟩
    rw [h.set, setAll_get true _ l _ (mapsub (P := fun y => In l y) (fun x hx => (h.free x hx).1)), if_pos]
    rw [Int.toNat_of_nonneg hi.1]
    exact List.mem_map.2 ⟨x, hx, rfl⟩
  refine ⟨?_, hin, ?_⟩
  · unfold turnAll
    rw [if_neg (fun ⟨x, hx, hn⟩ => hn (hin x hx).1), if_pos ⟨fun x hx => (hin x hx).2, h.nodup⟩]
    rfl
  · have := setAll_down (xs.map (· - fr)) l' (mapsub (P := fun y => In l' y ∧ l'.getD y.toNat false = true) hin) (nodup_sub h.nodup fr)
    rw [listL_count, listL_count]
    rw [List.length_map] at this
    exact this
end Bits
end Go.Proofs.Ythmdpmpnlphfdaa
