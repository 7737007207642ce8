/- Sums of bytes: bytes turned within four in a row are found. -/
import Derived.Test.YtkfbegmfepehiaaKp
namespace Go.Crc
open Go.Num
abbrev b32 (x : Int) : BitVec 32 := BitVec.ofInt 32 x
theorem b32_nat (n : Nat) (h : n < 4294967296) : (b32 (n : Int)).toNat = n := by
  unfold b32
  rw [BitVec.ofInt_natCast, BitVec.toNat_ofNat, Nat.mod_eq_of_lt h]
theorem b32_toNat (x : Int) (h0 : 0 ≤ x) (h1 : x < 4294967296) : ((b32 x).toNat : Int) = x := by
  obtain ⟨n, rfl⟩ := Int.eq_ofNat_of_zero_le h0
  rw [b32_nat n (by omega)]
theorem b32_inj {x y : Int} (h0 : 0 ≤ x) (h1 : x < 4294967296) (k0 : 0 ≤ y) (k1 : y < 4294967296) (h : b32 x = b32 y) : x = y := by
  rw [← b32_toNat x h0 h1, ← b32_toNat y k0 k1, h]
theorem b32_toInt (c : BitVec 32) : b32 (c.toNat : Int) = c := by
  unfold b32
  rw [BitVec.ofInt_natCast]
  simp
/-- A byte turned by another. -/
def xb (x t : Int) : Int := ((b32 x ^^^ b32 t).toNat : Int)
theorem b32_xb (x t : Int) : b32 (xb x t) = b32 x ^^^ b32 t := b32_toInt _
theorem xb_zero (x : Int) (h0 : 0 ≤ x) (h1 : x < 4294967296) : xb x 0 = x := by
  unfold xb
  rw [show b32 0 = 0#32 from rfl, BitVec.xor_zero, b32_toNat x h0 h1]
theorem xb_byte (x t : Int) (hx : 0 ≤ x ∧ x ≤ 255) (ht : 0 ≤ t ∧ t ≤ 255) : 0 ≤ xb x t ∧ xb x t ≤ 255 := by
  obtain ⟨n, rfl⟩ := Int.eq_ofNat_of_zero_le hx.1
  obtain ⟨m, rfl⟩ := Int.eq_ofNat_of_zero_le ht.1
  unfold xb
  rw [BitVec.toNat_xor, b32_nat n (by omega), b32_nat m (by omega)]
  have := @Nat.xor_lt_two_pow n m 8 (by omega) (by omega)
  omega
def dif (d : BitVec 32) (ts : List Int) : BitVec 32 := ts.foldl (fun d t => steps 8 (d ^^^ b32 t)) d
theorem dif_append (d : BitVec 32) (a b : List Int) : dif d (a ++ b) = dif (dif d a) b := List.foldl_append
theorem run_dif : ∀ (l D : List Int) (c d : BitVec 32), l.length = D.length → run (c ^^^ d) (List.zipWith xb l D) = run c l ^^^ dif d D
  | [], [], c, d, _ => rfl
  | x :: l, t :: D, c, d, h => by
    show run (byte (c ^^^ d) (xb x t)) (List.zipWith xb l D) = run (byte c x) l ^^^ dif (steps 8 (d ^^^ b32 t)) D
    have : byte (c ^^^ d) (xb x t) = byte c x ^^^ steps 8 (d ^^^ b32 t) := by
      unfold byte
      rw [← steps_xor]
      congr 1
      show c ^^^ d ^^^ b32 (xb x t) = c ^^^ b32 x ^^^ (d ^^^ b32 t)
      rw [b32_xb]
      simp only [BitVec.xor_assoc]
      congr 1
      rw [← BitVec.xor_assoc, BitVec.xor_comm d, BitVec.xor_assoc]
    rw [this]
    exact run_dif l D _ _ (by simpa using h)
theorem dif_zeros (n : Nat) (d : BitVec 32) : dif d (List.replicate n 0) = steps (8 * n) d := by
  induction n generalizing d with
  | zero => rfl
  | succ n ih =>
    rw [List.replicate_succ]
    show dif (steps 8 (d ^^^ b32 0)) _ = _
    rw [ih, show b32 0 = 0#32 from rfl, BitVec.xor_zero, ← steps_add]
    congr 1
    omega
/-- Bytes as one word. -/
def word : List Int → BitVec 32
  | [] => 0#32
  | t :: ts => b32 t ^^^ word ts <<< 8
theorem b32_low (t : Int) (h : 0 ≤ t ∧ t ≤ 255) (i : Nat) (hi : 8 ≤ i) : (b32 t).getLsbD i = false := by
  obtain ⟨n, rfl⟩ := Int.eq_ofNat_of_zero_le h.1
  unfold b32
  rw [BitVec.ofInt_natCast, BitVec.getLsbD_ofNat]
  have : n.testBit i = false := Nat.testBit_lt_two_pow (Nat.lt_of_lt_of_le (show n < 2 ^ 8 by omega) (Nat.pow_le_pow_right (by omega) hi))
  rw [this, Bool.and_false]
theorem word_get : ∀ (ts : List Int) (i : Nat), (∀ t ∈ ts, 0 ≤ t ∧ t ≤ 255) → 8 * ts.length ≤ i → (word ts).getLsbD i = false
  | [], i, _, _ => by simp [word]
  | t :: ts, i, h, hi => by
    rw [List.length_cons] at hi
    show (b32 t ^^^ word ts <<< 8).getLsbD i = false
    rw [BitVec.getLsbD_xor, BitVec.getLsbD_shiftLeft, b32_low t (h t List.mem_cons_self) i (by omega), word_get ts (i - 8) (fun q hq => h q (List.mem_cons_of_mem _ hq)) (by omega)]
    simp
theorem shift_back (x : BitVec 32) (h : ∀ i, 24 ≤ i → x.getLsbD i = false) : steps 8 (x <<< 8) = x := by
  rw [steps_shift 8 _ (fun i hi => by rw [BitVec.getLsbD_shiftLeft]; simp [hi])]
  apply BitVec.eq_of_getLsbD_eq
  intro i hi
  rw [BitVec.getLsbD_ushiftRight, BitVec.getLsbD_shiftLeft]
  by_cases h2 : 8 + i < 32
  · simp [h2, show ¬ (8 + i < 8) by omega, show 8 + i - 8 = i by omega]
  · rw [h i (by omega)]
    simp [h2]
theorem dif_word : ∀ (ts : List Int) (d : BitVec 32), (∀ t ∈ ts, 0 ≤ t ∧ t ≤ 255) → ts.length ≤ 4 → dif d ts = steps (8 * ts.length) (d ^^^ word ts)
  | [], d, _, _ => by simp [dif, steps, word]
  | t :: ts, d, h, hl => by
    rw [List.length_cons] at hl
    have h' : ∀ q ∈ ts, 0 ≤ q ∧ q ≤ 255 := fun q hq => h q (List.mem_cons_of_mem _ hq)
    show dif (steps 8 (d ^^^ b32 t)) ts = steps (8 * (ts.length + 1)) (d ^^^ (b32 t ^^^ word ts <<< 8))
    rw [dif_word ts _ h' (by omega)]
    rw [show 8 * (ts.length + 1) = 8 + 8 * ts.length by omega, steps_add, ← BitVec.xor_assoc, steps_xor 8 _ (word ts <<< 8), shift_back (word ts) (fun i hi => word_get ts i h' (by omega))]
theorem word_zero : ∀ (ts : List Int), (∀ t ∈ ts, 0 ≤ t ∧ t ≤ 255) → ts.length ≤ 4 → word ts = 0#32 → ∀ t ∈ ts, t = 0
  | [], _, _, _ => fun t ht => by cases ht
  | t :: ts, h, hl, hw => by
    rw [List.length_cons] at hl
    have h' : ∀ q ∈ ts, 0 ≤ q ∧ q ≤ 255 := fun q hq => h q (List.mem_cons_of_mem _ hq)
    have hb : ∀ i, (b32 t ^^^ word ts <<< 8).getLsbD i = false := fun i => by
      show (word (t :: ts)).getLsbD i = false
      rw [hw]; simp
    have ht := h t List.mem_cons_self
    have h0 : b32 t = 0#32 := by
      apply BitVec.eq_of_getLsbD_eq
      intro i hi
      by_cases h8 : 8 ≤ i
      · rw [b32_low t ht i h8]; simp
      · have := hb i
        rw [BitVec.getLsbD_xor, BitVec.getLsbD_shiftLeft] at this
        simp [show i < 8 by omega] at this
        rw [this]; simp
    have hz : word ts = 0#32 := by
      apply BitVec.eq_of_getLsbD_eq
      intro i hi
      by_cases h24 : 24 ≤ i
      · rw [word_get ts i h' (by omega)]; simp
      · have := hb (i + 8)
        rw [BitVec.getLsbD_xor, h0, BitVec.getLsbD_shiftLeft] at this
        simp [show i + 8 < 32 by omega] at this
        rw [this]; simp
    have h0' : t = 0 := b32_inj ht.1 (by omega) (by omega) (by omega) (h0.trans rfl)
    intro q hq
    rcases List.mem_cons.1 hq with hq | hq
    · rw [hq]; exact h0'
    · exact word_zero ts h' (by omega) hz q hq
theorem word_xb : ∀ (a b : List Int), a.length = b.length → word (List.zipWith xb a b) = word a ^^^ word b
  | [], [], _ => by simp [word]
  | x :: a, t :: b, h => by
    show b32 (xb x t) ^^^ word (List.zipWith xb a b) <<< 8 = (b32 x ^^^ word a <<< 8) ^^^ (b32 t ^^^ word b <<< 8)
    rw [b32_xb, word_xb a b (by simpa using h), BitVec.shiftLeft_xor_distrib]
    simp only [BitVec.xor_assoc]
    congr 1
    rw [← BitVec.xor_assoc, ← BitVec.xor_assoc, BitVec.xor_comm (b32 t)]
theorem b32_split (s : Int) (h0 : 0 ≤ s) : b32 s = b32 (s % 256) ^^^ b32 (s / 256) <<< 8 := by
  obtain ⟨n, rfl⟩ := Int.eq_ofNat_of_zero_le h0
  rw [show (n : Int) % 256 = ((n % 256 : Nat) : Int) by omega, show (n : Int) / 256 = ((n / 256 : Nat) : Int) by omega]
  apply BitVec.eq_of_getLsbD_eq
  intro i hi
  unfold b32
  rw [BitVec.getLsbD_xor, BitVec.getLsbD_shiftLeft, BitVec.ofInt_natCast, BitVec.ofInt_natCast, BitVec.ofInt_natCast, BitVec.getLsbD_ofNat, BitVec.getLsbD_ofNat, BitVec.getLsbD_ofNat]
  rw [show n % 256 = n % 2 ^ 8 from rfl, show n / 256 = n / 2 ^ 8 from rfl, Nat.testBit_mod_two_pow, Nat.testBit_div_two_pow]
  by_cases h8 : i < 8
  · simp [h8, hi]
  · simp [h8, hi, show i - 8 + 8 = i by omega, show i - 8 < 32 by omega]
theorem word_leB : ∀ (k : Nat) (s : Int), 0 ≤ s → s < 256 ^ k → k ≤ 4 → word (leB s k) = b32 s
  | 0, s, h0, h1, _ => by
    have : s = 0 := by simp at h1; omega
    subst this
    rfl
  | k + 1, s, h0, h1, hk => by
    show b32 (s % 256) ^^^ word (leB (s / 256) k) <<< 8 = b32 s
    rw [word_leB k (s / 256) (by omega) (by rw [Int.pow_succ] at h1; omega) (by omega), ← b32_split s h0]
theorem sum_b32 (l : List Int) : b32 (sum l) = run ones l ^^^ ones := by
  unfold sum more
  rw [b32_toInt, show BitVec.ofInt 32 0 ^^^ ones = ones from rfl]
/-- What was sealed, and turned within four bytes in a row, is sealed no more. -/
theorem turned (l D : List Int) (hl : D.length = l.length + 4) (hs : leB (sum (List.zipWith xb l (D.take l.length))) 4 = List.zipWith xb (leB (sum l) 4) (D.drop l.length)) (hb : ∀ t ∈ D, 0 ≤ t ∧ t ≤ 255) : dif 0#32 D = 0#32 := by
  have h1 := congrArg word hs
  have r1 := sum_range (List.zipWith xb l (D.take l.length))
  have r2 := sum_range l
  rw [word_xb _ _ (by rw [leB_len, List.length_drop]; omega), word_leB 4 _ r1.1 r1.2 (by omega), word_leB 4 _ r2.1 r2.2 (by omega), sum_b32, sum_b32] at h1
  have h2 := run_dif l (D.take l.length) ones 0#32 (by rw [List.length_take]; omega)
  rw [BitVec.xor_zero] at h2
  rw [h2] at h1
  have h3 : dif 0#32 (D.take l.length) = word (D.drop l.length) := by
    have h4 := congrArg (· ^^^ (run ones l ^^^ ones)) h1
    have e1 : (run ones l ^^^ dif 0#32 (D.take l.length) ^^^ ones) ^^^ (run ones l ^^^ ones) = dif 0#32 (D.take l.length) := by
      rw [BitVec.xor_comm (run ones l) (dif _ _), BitVec.xor_assoc (dif _ _), BitVec.xor_assoc, BitVec.xor_self, BitVec.xor_zero]
    have e2 : ((run ones l ^^^ ones) ^^^ word (D.drop l.length)) ^^^ (run ones l ^^^ ones) = word (D.drop l.length) := by
      rw [BitVec.xor_comm (run ones l ^^^ ones) (word _), BitVec.xor_assoc, BitVec.xor_self, BitVec.xor_zero]
    exact e1.symm.trans (h4.trans e2)
  have hd : D = D.take l.length ++ D.drop l.length := (List.take_append_drop ..).symm
  rw [hd, dif_append, dif_word _ _ (fun t ht => hb t (List.mem_of_mem_drop ht)) (by rw [List.length_drop]; omega), h3, BitVec.xor_self, steps_zero]
theorem burst (a b : Nat) (ts : List Int) (ht : ts.length = 4) (hb : ∀ t ∈ ts, 0 ≤ t ∧ t ≤ 255) (h : dif 0#32 (List.replicate a 0 ++ (ts ++ List.replicate b 0)) = 0#32) : ∀ t ∈ ts, t = 0 := by
  rw [dif_append, dif_append, dif_zeros, dif_zeros, steps_zero, dif_word _ _ hb (by omega)] at h
  have h1 := steps_inj0 _ _ (steps_inj0 _ _ h)
  rw [BitVec.zero_xor] at h1
  exact word_zero ts hb (by omega) h1
end Go.Crc
