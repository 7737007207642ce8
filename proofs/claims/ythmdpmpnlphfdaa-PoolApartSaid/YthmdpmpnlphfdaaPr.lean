/- The document's pool, as a plain law. -/
import Derived.Test.YthmdpmpnlphfdaaPz
import Derived.Test.YthmdpmpnlphfdaaPy
import Derived.Test.YthmdpmpnlphfdaaQp4
namespace Go.Proofs.Ythmdpmpnlphfdaa
set_option linter.unusedVariables false
set_option linter.unusedSimpArgs false
open Go.RowKit Go.Proofs.YthmdpmpnlphfdaaW.PrintWords Go.Proofs.YthmdpmpnlphfdaaW.PrintLast Go.Proofs.YthmdpmpnlphfdaaW.PrintMore
namespace Bits
open Go.Bits Go.Pool PPoolDoes
theorem wrap_id (z : Int) (h0 : -9223372036854775808 ≤ z) (h1 : z ≤ 9223372036854775807) : wrap64 z = z := by
  first | (unfold wrap64; omega) | (simp [wrap64]; omega)
theorem wrap_up (x : Nat) (h : x < 5000) : wrap64 ((x : Int) + 1) = ((x + 1 : Nat) : Int) := by
  rw [wrap_id _ (by omega) (by omega)]; omega
theorem rdOf_get (l : List Bool) (i : Int) : rdOf false l i = l.getD i.toNat false := by
  unfold rdOf
  first | rfl | simp
theorem pref_of_yes (fr n : Nat) (h : fr + n ≤ 1024) : chantryref11_Of.f fr ((fr : Int) + (n : Int)) = some ((fr : Int), List.replicate n false, 0) := by
  unfold chantryref11_Of.f
  rw [if_neg (by omega), if_neg (by omega), if_neg (by omega), wrap_id _ (by omega) (by omega), if_pos (by omega), if_pos (by omega)]
  rw [show ((fr : Int) + (n : Int) - (fr : Int)).toNat = n by omega]
theorem pref_of_no (fr up : Int) (h : fr < 0 ∨ up < fr ∨ 1024 < up) : chantryref11_Of.f fr up = some (0, [], 1) := by
  unfold chantryref11_Of.f
  by_cases h0 : fr < 0
  · rw [if_pos h0]
  · rw [if_neg h0]
    by_cases h1 : up < fr
    · rw [if_pos (by omega)]
    · rw [if_neg (by omega), if_pos (by omega)]
theorem pref_list_l (fr : Int) (l : List Bool) (b : Bool) (h0 : 0 ≤ fr) (h1 : fr + l.length ≤ 1024) : ∀ (k : Nat) (p : Nat) (xs : List Int), l.length < p + k → xs.length ≤ p → p ≤ l.length → chantryref11_list.l0 k b xs p fr l = some (xs ++ (listAt l b p).map (fr + ·))
  | 0, p, xs, g1, g2, g3 => by omega
  | k + 1, p, xs, g1, g2, g3 => by
    simp only [chantryref11_list.l0]
    by_cases hp : p < l.length
    · rw [if_pos (by omega), if_pos (by omega), rdOf_get l p, wrap_up p (by omega), wrap_id _ (by omega) (by omega)]
      simp only [Int.toNat_natCast]
      by_cases hb : l.getD p false = b
      · rw [if_pos (by simpa using hb), if_pos (by omega), pref_list_l fr l b h0 h1 k (p + 1) _ (by omega) (by simp; omega) (by omega), list_hit hp hb]
        simp
      · rw [if_neg (by simpa using hb), pref_list_l fr l b h0 h1 k (p + 1) _ (by omega) (by omega) (by omega), list_miss (i := p) fun _ => hb]
    · rw [if_neg (by omega), list_end (by omega)]; simp
theorem pref_list (fr : Int) (l : List Bool) (b : Bool) (h0 : 0 ≤ fr) (h1 : fr + l.length ≤ 1024) : chantryref11_list.f 5000 fr l b = some ((listAt l b 0).map (fr + ·)) := by
  have := pref_list_l fr l b h0 h1 5000 0 [] (by omega) (Nat.le_refl _) (by omega)
  simpa [chantryref11_list.f] using this
theorem pref_free (fr : Int) (l : List Bool) (h0 : 0 ≤ fr) (h1 : fr + l.length ≤ 1024) : chantryref11_Free.f 5000 fr l = some ((gaps l).length : Int) := by
  unfold chantryref11_Free.f
  rw [pref_list fr l false h0 h1]
  simp [gaps]
theorem pref_taken (fr : Int) (l : List Bool) (h0 : 0 ≤ fr) (h1 : fr + l.length ≤ 1024) : chantryref11_List.f 5000 fr l = some ((listL l).map (fr + ·)) := by
  unfold chantryref11_List.f
  rw [pref_list fr l true h0 h1]
  rfl
theorem pref_has (fr : Int) (l : List Bool) (b : Int) (h0 : 0 ≤ fr) (hb : b ≤ 9223372036854775807) : chantryref11_Has.f fr l b = some (hasP fr l b) := by
  unfold chantryref11_Has.f chantryref11_there.f hasP
  by_cases h1 : b ≥ fr
  · rw [if_pos h1, wrap_id _ (by omega) (by omega), decide_eq_true (show fr ≤ b from h1)]
    by_cases h2 : b - fr < l.length
    · simp only [h2, decide_true, Option.bind_some, if_true, Bool.true_and]
      rw [if_pos (by omega), rdOf_get, hasL_in (by omega)]
    · simp [h2]
  · rw [if_neg h1, decide_eq_false (show ¬ fr ≤ b from h1)]
    simp
theorem rd_drop (xs : List Int) (i : Nat) (h : i < xs.length) : xs.drop i = rd xs i :: xs.drop (i + 1) := by
  rw [List.drop_eq_getElem_cons h]
  have : rd xs (i : Int) = xs[i] := by unfold rd; simp [h]
  rw [this]
theorem pref_turned_l (fr : Int) (l : List Bool) (ys : List Int) (b : Bool) (h0 : 0 ≤ fr) (h1 : fr + l.length ≤ 1024) (hy : ∀ y ∈ ys, In l (y - fr)) (hl : ys.length ≤ 4000) (o : List Bool) : ∀ (k : Nat) (i : Nat) (lk : List Bool), lk.length = l.length → ys.length < i + k → i ≤ ys.length → chantryref11_turned.l0 k ys b lk i fr o = some (fr, setAll lk ((ys.drop i).map (· - fr)) b)
  | 0, i, lk, g0, g1, g2 => by omega
  | k + 1, i, lk, g0, g1, g2 => by
    simp only [chantryref11_turned.l0]
    by_cases hi : i < ys.length
    · have hm := hy _ (Pool.rd_mem ys i hi)
      unfold In at hm
      rw [if_pos (by omega), if_pos (by omega), wrap_id _ (by omega) (by omega), if_pos (by omega), if_pos (by omega), wrap_up i (by omega), pref_turned_l fr l ys b h0 h1 hy hl o k (i + 1) _ (by simp; omega) (by omega) (by omega), rd_drop ys i hi, List.map_cons, setAll_cons]
    · rw [if_neg (by omega), List.drop_eq_nil_of_le (by omega)]
      simp [setAll_nil]
theorem pref_turned (fr : Int) (l : List Bool) (ys : List Int) (b : Bool) (h0 : 0 ≤ fr) (h1 : fr + l.length ≤ 1024) (hy : ∀ y ∈ ys, In l (y - fr)) (hl : ys.length ≤ 4000) : chantryref11_turned.f 5000 fr l ys b = some (fr, setAll l (ys.map (· - fr)) b) := by
  unfold chantryref11_turned.f
  simp only [Option.bind_some, List.length_nil, List.nil_append]
  rw [if_pos (by omega), show (0 : Int) = ((0 : Nat) : Int) from rfl, pref_turned_l fr l ys b h0 h1 hy hl l 5000 0 l rfl (by omega) (by omega)]
  rfl
theorem pref_take (fr : Int) (l : List Bool) (n : Int) (h0 : 0 ≤ fr) (h1 : fr + l.length ≤ 1024) : chantryref11_Take.f 5000 fr l n = some (fr, (takeAll fr l n).1, (takeAll fr l n).2.1, (takeAll fr l n).2.2) := by
  unfold chantryref11_Take.f takeAll
  by_cases hn : n < 0
  · rw [if_pos hn, if_pos hn]
  · rw [if_neg hn, if_neg hn, pref_list fr l false h0 h1, Option.bind_some, List.length_map]
    have hg : gaps l = listAt l false 0 := rfl
    rw [← hg]
    by_cases hf : ((gaps l).length : Int) < n
    · rw [if_pos (by omega), if_pos hf]
    · rw [if_neg (by omega), if_neg hf, if_pos (by omega), if_pos (by omega), ← List.map_take]
      have hglen : (gaps l).length ≤ l.length := by have := gaps_len l; omega
      have hin : ∀ y ∈ ((gaps l).take n.toNat).map (fr + ·), In l (y - fr) := fun y hy => by
        obtain ⟨z, hz, rfl⟩ := List.mem_map.1 hy
        have := (list_in (l := l) (b := false) _ 0 rfl z (List.mem_of_mem_take hz)).2.1
        rwa [show fr + z - fr = z by omega]
      rw [pref_turned fr l _ true h0 h1 hin (by rw [List.length_map, List.length_take]; omega), Option.bind_some, List.map_map]
      have : ((fun x : Int => x - fr) ∘ fun x => fr + x) = id := by funext z; simp; omega
      rw [this, List.map_id]
theorem hasP_in {fr : Int} {l : List Bool} {x : Int} (h : In l (x - fr)) : hasP fr l x = l.getD (x - fr).toNat false := by
  unfold In at h
  unfold hasP
  rw [decide_eq_true (show fr ≤ x by omega), decide_eq_true h.2, Bool.true_and, Bool.true_and, hasL_in h.1]
theorem there_in (fr : Int) (l : List Bool) (x : Int) (h0 : 0 ≤ fr) (hx : x ≤ 9223372036854775807) : chantryref11_there.f fr l x = some (decide (In l (x - fr))) := by
  unfold chantryref11_there.f
  by_cases h1 : x ≥ fr
  · rw [if_pos h1, wrap_id _ (by omega) (by omega)]
    congr 1
    rw [Bool.eq_iff_iff, decide_eq_true_iff, decide_eq_true_iff]
    exact ⟨fun h => ⟨by omega, h⟩, fun h => h.2⟩
  · rw [if_neg h1]
    congr 1
    exact (decide_eq_false fun h => by have := h.1; omega).symm
theorem rd_in_take (xs : List Int) (j i : Nat) (hj : j < i) (hi : i < xs.length) : rd xs j ∈ xs.take i := by
  have h1 : (xs.take i)[j]? = some (rd xs j) := by
    rw [List.getElem?_take_of_lt hj, List.getElem?_eq_getElem (by omega)]
    unfold rd
    simp [show j < xs.length by omega]
  exact List.mem_of_getElem? h1
def oddR (fr : Int) (l : List Bool) (xs : List Int) (was : Bool) (e : Int) : Int := if (∀ x ∈ xs, l.getD (x - fr).toNat false = was) ∧ xs.Nodup then 0 else e
theorem pref_odd_l (fr : Int) (l : List Bool) (xs : List Int) (was : Bool) (e : Int) (h0 : 0 ≤ fr) (h1 : fr + l.length ≤ 1024) (hin : ∀ x ∈ xs, In l (x - fr)) (hx : ∀ x ∈ xs, x ≤ 9223372036854775807) (hl : xs.length ≤ 60) : ∀ k : Nat,
    (∀ i, i ≤ xs.length → (xs.length - i) * (xs.length + 3) + 1 ≤ k → ((∀ x ∈ xs.take i, l.getD (x - fr).toNat false = was) ∧ (xs.take i).Nodup) → chantryref11_odd.l1 k xs was e i fr l = some (oddR fr l xs was e)) ∧
    (∀ i j, i < xs.length → j ≤ i → (i - j) + 2 + (xs.length - (i + 1)) * (xs.length + 3) ≤ k → ((∀ x ∈ xs.take i, l.getD (x - fr).toNat false = was) ∧ (xs.take i).Nodup) → l.getD (rd xs i - fr).toNat false = was → rd xs i ∉ xs.take j → chantryref11_odd.l2 k xs was e i j fr l = some (oddR fr l xs was e))
  | 0 => ⟨fun i _ h => by omega, fun i j _ _ h => by omega⟩
  | k + 1 => by
    obtain ⟨ih1, ih2⟩ := pref_odd_l fr l xs was e h0 h1 hin hx hl k
    refine ⟨fun i hi hk hg => ?_, fun i j hi hj hk hg hb hn => ?_⟩
    · simp only [chantryref11_odd.l1]
      by_cases hil : i < xs.length
      · have hm := Pool.rd_mem xs i hil
        have hmul : (xs.length - i) * (xs.length + 3) = (xs.length - (i + 1)) * (xs.length + 3) + (xs.length + 3) := by
          rw [show xs.length - i = (xs.length - (i + 1)) + 1 by omega, Nat.add_mul, Nat.one_mul]
        rw [if_pos (by omega), if_pos (by omega), pref_has fr l _ h0 (hx _ hm), Option.bind_some, hasP_in (hin _ hm)]
        by_cases hb : l.getD (rd xs i - fr).toNat false = was
        · rw [if_neg (by simp only [hb]; simp)]
          exact ih2 i 0 hil (Nat.zero_le _) (by omega) hg hb (by simp)
        · rw [if_pos (by simpa using hb)]
          unfold oddR
          rw [if_neg (fun hh => hb (hh.1 _ hm))]
      · rw [if_neg (by omega)]
        rw [List.take_of_length_le (by omega)] at hg
        unfold oddR
        rw [if_pos hg]
    · simp only [chantryref11_odd.l2]
      by_cases hji : j < i
      · rw [if_pos (by omega), if_pos (by omega), if_pos (by omega), if_pos (by omega), if_pos (by omega)]
        by_cases he : rd xs j = rd xs i
        · rw [if_pos he]
          unfold oddR
          rw [if_neg (fun hh => by
            have h2 : (xs.take (i + 1)).Nodup := hh.2.sublist (List.take_sublist _ _)
            rw [Pool.rd_take xs i hi, List.nodup_append] at h2
            exact h2.2.2 _ (he ▸ rd_in_take xs j i hji hi) _ (by simp) rfl)]
        · rw [if_neg he, wrap_up j (by omega)]
          refine ih2 i (j + 1) hi (by omega) (by omega) hg hb ?_
          rw [Pool.rd_take xs j (by omega)]
          intro hm
          rcases List.mem_append.1 hm with hm | hm
          · exact hn hm
          · exact he (List.mem_singleton.1 hm).symm
      · have hje : j = i := by omega
        subst hje
        rw [if_neg (by omega), wrap_up j (by omega)]
        refine ih1 (j + 1) (by omega) (by omega) ?_
        rw [Pool.rd_take xs j hi]
        refine ⟨fun y hy => ?_, ?_⟩
        · rcases List.mem_append.1 hy with hy | hy
          · exact hg.1 y hy
          · rw [List.mem_singleton.1 hy]; exact hb
        · rw [List.nodup_append]
          refine ⟨hg.2, by simp, fun a ha b hb2 => ?_⟩
          rw [List.mem_singleton.1 hb2]
          rintro rfl
          exact hn ha
theorem pref_odd_0 (fr : Int) (l : List Bool) (xs : List Int) (was : Bool) (e : Int) (h0 : 0 ≤ fr) (h1 : fr + l.length ≤ 1024) (hx : ∀ x ∈ xs, x ≤ 9223372036854775807) (hl : xs.length ≤ 60) : ∀ (k i : Nat), i ≤ xs.length → (xs.length - i) + 1 + (xs.length * (xs.length + 3) + 1) ≤ k → (∀ x ∈ xs.take i, In l (x - fr)) → chantryref11_odd.l0 k xs was e i fr l = some (if ∃ x ∈ xs, ¬ In l (x - fr) then 10 else oddR fr l xs was e)
  | 0, i, _, h, _ => by omega
  | k + 1, i, hi, hk, hg => by
    simp only [chantryref11_odd.l0]
    by_cases hil : i < xs.length
    · have hm := Pool.rd_mem xs i hil
      rw [if_pos (by omega), if_pos (by omega), there_in fr l _ h0 (hx _ hm), Option.bind_some]
      by_cases hin : In l (rd xs i - fr)
      · rw [if_pos (by simpa using hin), wrap_up i (by omega)]
        refine pref_odd_0 fr l xs was e h0 h1 hx hl k (i + 1) (by omega) (by omega) ?_
        rw [Pool.rd_take xs i hil]
        intro y hy
        rcases List.mem_append.1 hy with hy | hy
        · exact hg y hy
        · rw [List.mem_singleton.1 hy]; exact hin
      · rw [if_neg (by simpa using hin), if_pos ⟨_, hm, hin⟩]
    · rw [if_neg (by omega)]
      rw [List.take_of_length_le (by omega)] at hg
      rw [if_neg (fun ⟨x, hx, hn⟩ => hn (hg x hx)), show (0 : Int) = ((0 : Nat) : Int) from rfl]
      exact (pref_odd_l fr l xs was e h0 h1 hg hx hl k).1 0 (Nat.zero_le _) (by rw [Nat.sub_zero]; omega) (by simp)
theorem pref_odd (fr : Int) (l : List Bool) (xs : List Int) (was : Bool) (e : Int) (h0 : 0 ≤ fr) (h1 : fr + l.length ≤ 1024) (hx : ∀ x ∈ xs, x ≤ 9223372036854775807) (hl : xs.length ≤ 60) : chantryref11_odd.f 5000 fr l xs was e = some (if ∃ x ∈ xs, ¬ In l (x - fr) then 10 else oddR fr l xs was e) := by
  unfold chantryref11_odd.f
  have hm : xs.length * (xs.length + 3) ≤ 60 * 63 := Nat.mul_le_mul hl (by omega)
  exact pref_odd_0 fr l xs was e h0 h1 hx hl 5000 0 (Nat.zero_le _) (by omega) (by simp)
theorem pref_turn_of (fr : Int) (l : List Bool) (xs : List Int) (was nb : Bool) (e : Int) (he : e ≠ 0) (hnb : nb = !was) (h0 : 0 ≤ fr) (h1 : fr + l.length ≤ 1024) (hl : xs.length ≤ 60) :
    ((some (if ∃ x ∈ xs, ¬ In l (x - fr) then 10 else oddR fr l xs was e) : Option Int).bind fun t => (if t = 0 then ((chantryref11_turned.f 5000 fr l xs nb).bind fun b => (some (b.1, b.2, (0 : Int)))) else (some (fr, l, t)))) = some (fr, (turnAll fr l xs was e).1, (turnAll fr l xs was e).2) := by
  subst hnb
  rw [Option.bind_some]
  unfold turnAll oddR
  by_cases hx : ∃ x ∈ xs, ¬ In l (x - fr)
  · rw [if_pos hx, if_pos hx, if_neg (by decide)]
  · rw [if_neg hx, if_neg hx]
    by_cases hg : (∀ x ∈ xs, l.getD (x - fr).toNat false = was) ∧ xs.Nodup
    · rw [if_pos hg, if_pos hg, if_pos rfl, pref_turned fr l xs _ h0 h1 (fun y hy => Classical.byContradiction fun hn => hx ⟨y, hy, hn⟩) (by omega)]
      rfl
    · rw [if_neg hg, if_neg hg, if_neg he]
theorem pref_give (fr : Int) (l : List Bool) (xs : List Int) (h0 : 0 ≤ fr) (h1 : fr + l.length ≤ 1024) (hx : ∀ x ∈ xs, x ≤ 9223372036854775807) (hl : xs.length ≤ 60) : chantryref11_Give.f 5000 fr l xs = some (fr, (turnAll fr l xs true 6).1, (turnAll fr l xs true 6).2) := by
  unfold chantryref11_Give.f
  rw [pref_odd fr l xs true 6 h0 h1 hx hl]
  exact pref_turn_of fr l xs true false 6 (by decide) rfl h0 h1 hl
theorem pref_mark (fr : Int) (l : List Bool) (xs : List Int) (h0 : 0 ≤ fr) (h1 : fr + l.length ≤ 1024) (hx : ∀ x ∈ xs, x ≤ 9223372036854775807) (hl : xs.length ≤ 60) : chantryref11_Mark.f 5000 fr l xs = some (fr, (turnAll fr l xs false 7).1, (turnAll fr l xs false 7).2) := by
  unfold chantryref11_Mark.f
  rw [pref_odd fr l xs false 7 h0 h1 hx hl]
  exact pref_turn_of fr l xs false true 7 (by decide) rfl h0 h1 hl
end Bits
end Go.Proofs.Ythmdpmpnlphfdaa
