/- The disk's plain law. -/
namespace Go.Disk
/-- A disk: what is safe, block by block; what waits; deeds until the power goes; whether it is off; counts. -/
structure Dk where
  safe : List (List Int)
  waits : List (Int × List Int)
  left : Int
  off : Bool
  reads : Int
  writes : Int
  flushes : Int
/-- What holds of all disks that are made. -/
structure Ok (D : Dk) : Prop where
  few : 16 ≤ D.safe.length ∧ D.safe.length ≤ 1024
  len : ∀ b ∈ D.safe, b.length = 256
  byte : ∀ b ∈ D.safe, ∀ x ∈ b, 0 ≤ x ∧ x ≤ 255
  at_ : ∀ p ∈ D.waits, 0 ≤ p.1 ∧ p.1 < D.safe.length ∧ p.2.length = 256 ∧ ∀ x ∈ p.2, 0 ≤ x ∧ x ≤ 255
  left : -1 ≤ D.left ∧ D.left ≤ 9223372036854775807
def rep (n : Nat) (x : Int) : List Int := List.replicate n x
theorem rep_len (n : Nat) (x : Int) : (rep n x).length = n := List.length_replicate
theorem rep_mem {n : Nat} {x y : Int} (h : y ∈ rep n x) : y = x := (List.mem_replicate.1 h).2
def zblock : List Int := rep 256 0
theorem zblock_len : zblock.length = 256 := rep_len 256 0
theorem zblock_mem {x : Int} (h : x ∈ zblock) : x = 0 := rep_mem h
def zeros (n : Nat) : List (List Int) := List.replicate n zblock
def blankD (n : Nat) : Dk := ⟨zeros n, [], -1, false, 0, 0, 0⟩
theorem zeros_len (n : Nat) : ∀ b ∈ zeros n, b.length = 256 := fun b hb => by
  rw [(List.mem_replicate.1 hb).2]
  exact zblock_len
theorem zeros_size (n : Nat) : (zeros n).length = n := List.length_replicate
theorem zeros_mem {n : Nat} {x : Int} (h : x ∈ (zeros n).flatten) : x = 0 := by
  obtain ⟨l, hl, hx⟩ := List.mem_flatten.1 h
  rw [(List.mem_replicate.1 hl).2] at hx
  exact zblock_mem hx
theorem blank_ok (n : Nat) (h : 16 ≤ n ∧ n ≤ 1024) : Ok (blankD n) := by
  refine ⟨by show 16 ≤ (zeros n).length ∧ (zeros n).length ≤ 1024; rw [zeros_size]; exact h, zeros_len n, fun b hb x hx => ?_, fun p hp => by simp [blankD] at hp, by simp [blankD]⟩
  rw [(List.mem_replicate.1 hb).2] at hx
  rw [zblock_mem hx]
  omega
/-- Why a block can't be read or written. -/
def ready (D : Dk) (n : Int) : Int := if D.off then 9 else if n < 0 ∨ (D.safe.length : Int) ≤ n then 10 else 0
theorem flat_len {l : List (List Int)} (h : ∀ b ∈ l, b.length = 256) : l.flatten.length = l.length * 256 := by
  induction l with
  | nil => rfl
  | cons b l ih =>
    rw [List.flatten_cons, List.length_append, ih (fun c hc => h c (List.mem_cons_of_mem _ hc)), h b List.mem_cons_self, List.length_cons]
    omega
theorem flat_block {l : List (List Int)} (h : ∀ b ∈ l, b.length = 256) (n : Nat) (hn : n < l.length) : (l.flatten.drop (n * 256)).take 256 = l[n] := by
  induction l generalizing n with
  | nil => simp at hn
  | cons b l ih =>
    have hb := h b List.mem_cons_self
    cases n with
    | zero =>
      rw [List.flatten_cons, Nat.zero_mul, List.drop_zero, List.take_append_of_le_length (by omega), ← hb, List.take_length]
      rfl
    | succ n =>
      rw [List.flatten_cons, show (n + 1) * 256 = b.length + n * 256 by omega, List.drop_append, List.getElem_cons_succ]
      rw [show b.length + n * 256 - b.length = n * 256 by omega, List.drop_eq_nil_of_le (by omega), List.nil_append]
      exact ih (fun c hc => h c (List.mem_cons_of_mem _ hc)) n (by simpa using hn)
theorem flat_set {l : List (List Int)} (h : ∀ b ∈ l, b.length = 256) (n : Nat) (hn : n < l.length) (c : List Int) (hc : c.length = 256) : (l.set n c).flatten = l.flatten.take (n * 256) ++ c ++ l.flatten.drop (n * 256 + 256) := by
  induction l generalizing n with
  | nil => simp at hn
  | cons b l ih =>
    have hb := h b List.mem_cons_self
    cases n with
    | zero =>
      rw [List.set_cons_zero, List.flatten_cons, List.flatten_cons, Nat.zero_mul, List.take_zero, List.nil_append, Nat.zero_add, List.drop_append, List.drop_eq_nil_of_le (by omega), List.nil_append, hb]
      rfl
    | succ n =>
      rw [List.set_cons_succ, List.flatten_cons, List.flatten_cons, ih (fun c hc => h c (List.mem_cons_of_mem _ hc)) n (by simpa using hn)]
      rw [show (n + 1) * 256 = b.length + n * 256 by omega, List.take_length_add_append, show b.length + n * 256 + 256 = b.length + (n * 256 + 256) by omega, List.drop_length_add_append]
      simp
/-- A block's first k sectors torn. -/
def tornTo (on : Nat → Bool) (was bs : List Int) : Nat → List Int
  | 0 => was
  | k + 1 => if on k then (tornTo on was bs k).take (64 * k) ++ ((bs.drop (64 * k)).take 64 ++ (tornTo on was bs k).drop (64 * k + 64)) else tornTo on was bs k
theorem tornTo_len (on : Nat → Bool) (was bs : List Int) (hw : was.length = 256) (hb : bs.length = 256) : ∀ k, k ≤ 4 → (tornTo on was bs k).length = 256
  | 0, _ => hw
  | k + 1, h => by
    have ih := tornTo_len on was bs hw hb k (by omega)
    unfold tornTo
    split
    · simp only [List.length_append, List.length_take, List.length_drop]
      omega
    · exact ih
/-- A piece laid into a row. -/
def lay (l : List Int) (o : Nat) (xs : List Int) : List Int := l.take o ++ (xs ++ l.drop (o + xs.length))
theorem lay_len (l : List Int) (o : Nat) (xs : List Int) (h : o + xs.length ≤ l.length) : (lay l o xs).length = l.length := by
  simp only [lay, List.length_append, List.length_take, List.length_drop]
  omega
theorem lay_mid (A c B xs : List Int) (o : Nat) (ho : o + xs.length ≤ c.length) : lay (A ++ c ++ B) (A.length + o) xs = A ++ lay c o xs ++ B := by
  unfold lay
  rw [show A.length + o + xs.length = A.length + (o + xs.length) by omega, List.append_assoc, List.take_length_add_append, List.drop_length_add_append, List.take_append_of_le_length (by omega), List.drop_append_of_le_length (by omega)]
  simp
theorem lay_block {l : List (List Int)} (h : ∀ b ∈ l, b.length = 256) (n : Nat) (hn : n < l.length) (c xs : List Int) (hc : c.length = 256) (o : Nat) (ho : o + xs.length ≤ 256) :
    lay (l.set n c).flatten (n * 256 + o) xs = (l.set n (lay c o xs)).flatten := by
  have hl := flat_len h
  have hA : (l.flatten.take (n * 256)).length = n * 256 := by rw [List.length_take, hl]; omega
  have h1 := flat_set h n hn c hc
  have h2 := flat_set h n hn (lay c o xs) (by rw [lay_len c o xs (by omega)]; exact hc)
  have h3 := lay_mid (l.flatten.take (n * 256)) c (l.flatten.drop (n * 256 + 256)) xs o (by omega)
  rw [hA] at h3
  rw [h1, h2, h3]
end Go.Disk
