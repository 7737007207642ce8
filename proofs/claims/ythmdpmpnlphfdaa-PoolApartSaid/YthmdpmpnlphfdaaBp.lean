/- Sets of numbers as words of bits, and as a list of yes and no: the plain law. -/
import Derived.Laws.BitsAllLaws
namespace Go.Bits
/-- Is number i in the words? -/
def mem (ws : List Nat) (i : Nat) : Bool := (ws.getD (i / 64) 0).testBit (i % 64)
/-- The words say what the list says. -/
def Says (ws : List Nat) (l : List Bool) : Prop := ws.length = 64 ∧ (∀ x ∈ ws, x < 18446744073709551616) ∧ l.length ≤ 4096 ∧ ∀ i, i < 4096 → mem ws i = l.getD i false

def hasL (l : List Bool) (i : Int) : Bool := decide (0 ≤ i) && l.getD i.toNat false
def addL (l : List Bool) (i : Int) : List Bool × Int := if i < 0 ∨ l.length ≤ i then (l, 10) else if l.getD i.toNat false = true then (l, 7) else (l.set i.toNat true, 0)
def dropL (l : List Bool) (i : Int) : List Bool × Int := if i < 0 ∨ l.length ≤ i then (l, 10) else if l.getD i.toNat false = false then (l, 6) else (l.set i.toNat false, 0)
/-- A number turned, if it is as it should be. -/
def turnL (l : List Bool) (i : Int) (was : Bool) (e : Int) : List Bool × Int := if i < 0 ∨ l.length ≤ i then (l, 10) else if l.getD i.toNat false ≠ was then (l, e) else (l.set i.toNat (!was), 0)
theorem addL_turn (l : List Bool) (i : Int) : addL l i = turnL l i false 7 := by
  unfold addL turnL
  split
  · rfl
  · cases l.getD i.toNat false <;> rfl
theorem dropL_turn (l : List Bool) (i : Int) : dropL l i = turnL l i true 6 := by
  unfold dropL turnL
  split
  · rfl
  · cases l.getD i.toNat false <;> rfl
theorem turnL_len (l : List Bool) (i : Int) (was : Bool) (e : Int) : (turnL l i was e).1.length = l.length := by
  unfold turnL
  split
  · rfl
  · split
    · rfl
    · simp

/-- The least number from i on that is there (or is not); -1: none. -/
def firstAt (l : List Bool) (b : Bool) (i : Nat) : Int := if i < l.length then if l.getD i false = b then i else firstAt l b (i + 1) else -1
termination_by l.length - i
def firstL (l : List Bool) (i : Int) (b : Bool) : Int := firstAt l b i.toNat
theorem first_hit {l : List Bool} {b : Bool} {i : Nat} (h : i < l.length) (hb : l.getD i false = b) : firstAt l b i = i := by rw [firstAt, if_pos h, if_pos hb]
theorem first_miss {l : List Bool} {b : Bool} {i : Nat} (hb : i < l.length → l.getD i false ≠ b) : firstAt l b i = firstAt l b (i + 1) := by
  rw [firstAt]
  split
  · rename_i h; rw [if_neg (hb h)]
  · rename_i h
    rw [firstAt, if_neg (by omega)]
theorem first_end {l : List Bool} {b : Bool} {i : Nat} (h : l.length ≤ i) : firstAt l b i = -1 := by rw [firstAt, if_neg (by omega)]
theorem first_skip {l : List Bool} {b : Bool} {i : Nat} : ∀ k, (∀ j, j < k → i + j < l.length → l.getD (i + j) false ≠ b) → firstAt l b i = firstAt l b (i + k)
  | 0, _ => rfl
  | k + 1, h => by
    rw [first_skip k fun j hj => h j (by omega), first_miss (i := i + k) (h k (by omega))]
    rfl
theorem first_cases (l : List Bool) (b : Bool) (n : Nat) : ∀ i, l.length - i = n → (firstAt l b i = -1 ∧ ∀ j, i ≤ j → j < l.length → l.getD j false ≠ b) ∨ ∃ k : Nat, firstAt l b i = k ∧ i ≤ k ∧ k < l.length ∧ l.getD k false = b ∧ ∀ j, i ≤ j → j < k → l.getD j false ≠ b := by
  induction n with
  | zero =>
    intro i hi
    exact .inl ⟨first_end (by omega), fun j h1 h2 => by omega⟩
  | succ n ih =>
    intro i hi
    by_cases hb : l.getD i false = b
    · exact .inr ⟨i, first_hit (by omega) hb, Nat.le_refl _, by omega, hb, fun j h1 h2 => by omega⟩
    · rw [first_miss fun _ => hb]
      rcases ih (i + 1) (by omega) with ⟨h1, h2⟩ | ⟨k, h1, h2, h3, h4, h5⟩
      · refine .inl ⟨h1, fun j hj hl => ?_⟩
        by_cases hji : j = i
        · subst hji; exact hb
        · exact h2 j (by omega) hl
      · refine .inr ⟨k, h1, by omega, h3, h4, fun j hj hk => ?_⟩
        by_cases hji : j = i
        · subst hji; exact hb
        · exact h5 j (by omega) hk
theorem first_bd (l : List Bool) (b : Bool) (i : Nat) : -1 ≤ firstAt l b i ∧ firstAt l b i < l.length ∧ (firstAt l b i = -1 ∨ (i : Int) ≤ firstAt l b i) := by
  rcases first_cases l b _ i rfl with ⟨h1, _⟩ | ⟨k, h1, h2, h3, _⟩
  · rw [h1]; exact ⟨by omega, by omega, .inl rfl⟩
  · rw [h1]; exact ⟨by omega, by omega, .inr (by omega)⟩

/-- All that are there, from i on. -/
def listAt (l : List Bool) (b : Bool) (i : Nat) : List Int := if i < l.length then if l.getD i false = b then (i : Int) :: listAt l b (i + 1) else listAt l b (i + 1) else []
termination_by l.length - i
def listL (l : List Bool) : List Int := listAt l true 0
theorem list_end {l : List Bool} {b : Bool} {i : Nat} (h : l.length ≤ i) : listAt l b i = [] := by rw [listAt, if_neg (by omega)]
theorem list_hit {l : List Bool} {b : Bool} {i : Nat} (h : i < l.length) (hb : l.getD i false = b) : listAt l b i = (i : Int) :: listAt l b (i + 1) := by rw [listAt, if_pos h, if_pos hb]
theorem list_miss {l : List Bool} {b : Bool} {i : Nat} (hb : i < l.length → l.getD i false ≠ b) : listAt l b i = listAt l b (i + 1) := by
  rw [listAt]
  split
  · rename_i h; rw [if_neg (hb h)]
  · rename_i h
    rw [listAt, if_neg (by omega)]
theorem list_skip {l : List Bool} {b : Bool} {i : Nat} : ∀ k, (∀ j, j < k → i + j < l.length → l.getD (i + j) false ≠ b) → listAt l b i = listAt l b (i + k)
  | 0, _ => rfl
  | k + 1, h => by
    rw [list_skip k fun j hj => h j (by omega), list_miss (i := i + k) (h k (by omega))]
    rfl
/-- One by one. -/
theorem list_first (l : List Bool) (b : Bool) (i : Nat) : listAt l b i = if firstAt l b i = -1 then [] else firstAt l b i :: listAt l b ((firstAt l b i).toNat + 1) := by
  rcases first_cases l b _ i rfl with ⟨h1, h2⟩ | ⟨k, h1, h2, h3, h4, h5⟩
  · rw [h1, if_pos rfl]
    rw [list_skip (i := i) (l.length - i) fun j _ hl => h2 _ (by omega) hl, list_end (by omega)]
  · rw [h1, if_neg (by omega)]
    rw [list_skip (i := i) (k - i) fun j hj hl => h5 _ (by omega) (by omega), show i + (k - i) = k by omega, list_hit h3 h4]
    rfl
theorem list_len (l : List Bool) (b : Bool) (n : Nat) : ∀ i, l.length - i = n → (listAt l b i).length ≤ n := by
  induction n with
  | zero => intro i hi; rw [list_end (by omega)]; exact Nat.le_refl _
  | succ n ih =>
    intro i hi
    by_cases hb : l.getD i false = b
    · rw [list_hit (by omega) hb, List.length_cons]
      have := ih (i + 1) (by omega)
      omega
    · rw [list_miss fun _ => hb]
      have := ih (i + 1) (by omega)
      omega

/-! one bit -/
theorem bit_shift (x : Nat) (j : Nat) : (x / 2 ^ j % 2 = 1) ↔ x.testBit j = true := by
  rw [Nat.testBit_eq_decide_div_mod_eq]
  simp
theorem and_one (x : Nat) (hx : x < 18446744073709551616) (j : Nat) : (bits .and .u64 ((x : Int) / 2 ^ j) 1 == 1) = x.testBit j := by
  have h1 : ((x : Int) / 2 ^ j) = ((x / 2 ^ j : Nat) : Int) := by
    rw [Int.natCast_ediv]
    simp
  rw [h1]
  have h2 := u64_and_nat (x / 2 ^ j) 1 (Nat.lt_of_le_of_lt (Nat.div_le_self _ _) hx) (by omega)
  have h3 : bits .and .u64 ((x / 2 ^ j : Nat) : Int) 1 = (((x / 2 ^ j) &&& 1 : Nat) : Int) := h2
  rw [h3, Nat.and_one_is_mod, Nat.testBit_eq_decide_div_mod_eq]
  rw [Bool.eq_iff_iff]
  simp
  omega

theorem getD_set_eq {α : Type} (l : List α) (i j : Nat) (v d : α) (hi : i < l.length) : (l.set i v).getD j d = if i = j then v else l.getD j d := by
  simp only [List.getD_eq_getElem?_getD, List.getElem?_set]
  split
  · rename_i h; subst h; simp
  · rfl

/-- A bit turned. -/
theorem says_turn {ws : List Nat} {l : List Bool} (h : Says ws l) {i : Nat} (hi : i < l.length) (was : Bool) (hw : l.getD i false = was) : Says (ws.set (i / 64) (ws.getD (i / 64) 0 ^^^ 2 ^ (i % 64))) (l.set i (!was)) := by
  obtain ⟨h1, h2, h3, h4⟩ := h
  have hk : i / 64 < ws.length := by omega
  have hlt : ws.getD (i / 64) 0 < 2 ^ 64 := by
    rw [List.getD_eq_getElem?_getD, List.getElem?_eq_getElem hk]
    exact h2 _ (List.getElem_mem hk)
  have hx : ws.getD (i / 64) 0 ^^^ 2 ^ (i % 64) < 2 ^ 64 := Nat.xor_lt_two_pow hlt (Nat.pow_lt_pow_right (by omega) (by omega))
  refine ⟨by simpa using h1, fun x hx' => ?_, by simpa using h3, fun j hj => ?_⟩
  · rcases List.mem_or_eq_of_mem_set hx' with hm | rfl
    · exact h2 x hm
    · exact hx
  · unfold mem
    rw [getD_set_eq _ _ _ _ _ hk, getD_set_eq _ _ _ _ _ hi]
    have hj4 := h4 j hj
    unfold mem at hj4
    by_cases hd : i / 64 = j / 64
    · rw [if_pos hd, Nat.testBit_xor, hd, hj4, Nat.testBit_two_pow]
      by_cases hij : i = j
      · subst hij
        rw [if_pos rfl, hw]
        cases was <;> simp
      · rw [if_neg hij]
        have : ¬ i % 64 = j % 64 := by omega
        simp [this]
    · rw [if_neg hd, if_neg (by rintro rfl; exact hd rfl)]
      exact hj4

/-! how many -/
def pop (x : Nat) : Nat := if x = 0 then 0 else x % 2 + pop (x / 2)
termination_by x
decreasing_by omega
theorem pop_zero : pop 0 = 0 := by rw [pop]; rfl
theorem pop_step (x : Nat) : pop x = x % 2 + pop (x / 2) := by
  by_cases h : x = 0
  · subst h; simp [pop_zero]
  · rw [pop, if_neg h]
theorem pop_drop (n : Nat) : ∀ x, x ≤ n → 0 < x → pop (x &&& (x - 1)) + 1 = pop x := by
  induction n with
  | zero => intro x h1 h2; omega
  | succ n ih =>
    intro x h1 h2
    have hm : (x &&& (x - 1)) % 2 = (x % 2) &&& ((x - 1) % 2) := by
      have := Nat.and_mod_two_pow (a := x) (b := x - 1) (n := 1)
      simpa using this
    rw [pop_step x, pop_step (x &&& (x - 1)), Nat.and_div_two, hm]
    rcases Nat.mod_two_eq_zero_or_one x with h | h
    · have e1 : (x - 1) / 2 = x / 2 - 1 := by omega
      have e2 : (x - 1) % 2 = 1 := by omega
      have := ih (x / 2) (by omega) (by omega)
      rw [e1, e2, h]
      simp
      omega
    · have e1 : (x - 1) / 2 = x / 2 := by omega
      have e2 : (x - 1) % 2 = 0 := by omega
      rw [e1, e2, h, Nat.and_self]
      simp
      omega
theorem pop_le (n : Nat) : ∀ x, x < 2 ^ n → pop x ≤ n := by
  induction n with
  | zero => intro x h; have : x = 0 := by omega
            subst this; rw [pop_zero]; exact Nat.le_refl _
  | succ n ih =>
    intro x h
    rw [pop_step]
    have := ih (x / 2) (by rw [Nat.pow_succ] at h; omega)
    omega
/-- How many numbers below n have the property. -/
def cnt (p : Nat → Bool) : Nat → Nat
  | 0 => 0
  | n + 1 => cnt p n + if p n then 1 else 0
theorem cnt_shift (p : Nat → Bool) (n : Nat) : cnt p (n + 1) = (if p 0 then 1 else 0) + cnt (fun i => p (i + 1)) n := by
  induction n with
  | zero => simp [cnt]
  | succ n ih => rw [cnt, ih, cnt]; omega
theorem cnt_congr (p q : Nat → Bool) (n : Nat) (h : ∀ i, i < n → p i = q i) : cnt p n = cnt q n := by
  induction n with
  | zero => rfl
  | succ n ih => rw [cnt, cnt, ih fun i hi => h i (by omega), h n (by omega)]
theorem cnt_add (p : Nat → Bool) (m n : Nat) : cnt p (m + n) = cnt p m + cnt (fun i => p (m + i)) n := by
  induction n with
  | zero => rfl
  | succ n ih => rw [← Nat.add_assoc, cnt, ih, cnt]; omega
theorem pop_cnt (n : Nat) : ∀ x, x < 2 ^ n → pop x = cnt (fun j => x.testBit j) n := by
  induction n with
  | zero => intro x h; have : x = 0 := by omega
            subst this; rw [pop_zero]; rfl
  | succ n ih =>
    intro x h
    rw [pop_step, cnt_shift, ih (x / 2) (by rw [Nat.pow_succ] at h; omega)]
    have e0 : (x % 2) = if x.testBit 0 then 1 else 0 := by
      rw [Nat.testBit_zero]
      rcases Nat.mod_two_eq_zero_or_one x with h | h <;> simp [h]
    rw [e0]
    congr 1
    exact cnt_congr _ _ _ fun i _ => by rw [Nat.testBit_div_two]
def popAll (ws : List Nat) : Nat := (ws.map pop).sum
theorem says_tail (ws : List Nat) (p : Nat → Bool) (h : ∀ x ∈ ws, x < 18446744073709551616) (hp : ∀ i, i < 64 * ws.length → mem ws i = p i) : popAll ws = cnt p (64 * ws.length) := by
  induction ws generalizing p with
  | nil => rfl
  | cons x xs ih =>
    have e : 64 * (x :: xs).length = 64 + 64 * xs.length := by simp only [List.length_cons]; omega
    rw [e, cnt_add]
    have h1 := ih (fun i => p (64 + i)) (fun y hy => h y (List.mem_cons_of_mem _ hy)) (fun i hi => by
      rw [← hp (64 + i) (by rw [e]; omega)]
      unfold mem
      rw [show (64 + i) / 64 = i / 64 + 1 by omega, show (64 + i) % 64 = i % 64 by omega]
      rfl)
    unfold popAll at h1 ⊢
    rw [List.map_cons, List.sum_cons, h1, pop_cnt 64 x (h x List.mem_cons_self)]
    congr 1
    refine cnt_congr _ _ _ fun i hi => ?_
    rw [← hp i (by rw [e]; omega)]
    unfold mem
    rw [show i / 64 = 0 by omega, show i % 64 = i by omega]
    rfl
theorem cnt_list (l : List Bool) : cnt (fun i => l.getD i false) l.length = (listL l).length := by
  have key : ∀ n i, l.length - i = n → i ≤ l.length → (listAt l true i).length = cnt (fun j => l.getD (i + j) false) n := by
    intro n
    induction n with
    | zero => intro i h hi; rw [list_end (by omega)]; rfl
    | succ n ih =>
      intro i h hi
      rw [cnt_shift]
      have := ih (i + 1) (by omega) (by omega)
      rw [show (fun j => l.getD (i + (j + 1)) false) = fun j => l.getD (i + 1 + j) false from funext fun j => by rw [Nat.add_right_comm, Nat.add_assoc]]
      rw [← this]
      by_cases hb : l.getD i false = true
      · rw [list_hit (by omega) hb, List.length_cons]; show _ = (if l.getD i false = true then 1 else 0) + _; rw [if_pos hb]; omega
      · rw [list_miss fun _ => hb]; show _ = (if l.getD i false = true then 1 else 0) + _; rw [if_neg hb]; omega
  have := key l.length 0 (by omega) (by omega)
  simp only [Nat.zero_add] at this
  exact this.symm
theorem says_count {ws : List Nat} {l : List Bool} (h : Says ws l) : popAll ws = (listL l).length := by
  obtain ⟨h1, h2, h3, h4⟩ := h
  rw [says_tail ws (fun i => l.getD i false) h2 (fun i hi => h4 i (by omega)), h1, ← cnt_list]
  rw [show 64 * 64 = l.length + (4096 - l.length) by omega, cnt_add]
  have : cnt (fun i => l.getD (l.length + i) false) (4096 - l.length) = 0 := by
    have z : ∀ n, cnt (fun i => l.getD (l.length + i) false) n = 0 := by
      intro n
      induction n with
      | zero => rfl
      | succ n ih =>
        rw [cnt, ih]
        have : l.getD (l.length + n) false = false := by
          rw [List.getD_eq_getElem?_getD, List.getElem?_eq_none (by omega)]; rfl
        rw [this]; rfl
    exact z _
  omega
end Go.Bits
