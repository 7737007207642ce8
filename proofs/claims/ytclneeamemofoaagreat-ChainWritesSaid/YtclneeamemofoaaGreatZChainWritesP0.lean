/- Part 1 of the proof of ChainWrites: lemmas alone. -/
import Derived.Laws.Entries
section
namespace Go.Num
def leB (n : Int) : Nat → List Int
  | 0 => []
  | k + 1 => n % 256 :: leB (n / 256) k
def unB : List Int → Int
  | [] => 0
  | x :: l => x + 256 * unB l
theorem leB_len (n : Int) (k : Nat) : (leB n k).length = k := by
  induction k generalizing n with
  | zero => rfl
  | succ k ih => simp [leB, ih]
theorem leB_byte (n : Int) (k : Nat) : ∀ x ∈ leB n k, 0 ≤ x ∧ x ≤ 255 := by
  induction k generalizing n with
  | zero => intro x hx; cases hx
  | succ k ih =>
    intro x hx
    rcases List.mem_cons.1 hx with h | h
    · subst h; omega
    · exact ih _ x h
theorem unB_leB (n : Int) (k : Nat) (h : 0 ≤ n) : unB (leB n k) = n % 256 ^ k := by
  induction k generalizing n with
  | zero => simp [leB, unB, Int.emod_one]
  | succ k ih =>
    show n % 256 + 256 * unB (leB (n / 256) k) = _
    rw [ih (n / 256) (by omega), Int.pow_succ, Int.mul_comm (256 ^ k) 256]
    have h1 := Int.emod_add_mul_ediv n 256
    have h3 : n % (256 * 256 ^ k) = n % 256 + 256 * (n / 256 % 256 ^ k) := by
      rw [Int.emod_def n (256 * 256 ^ k), ← Int.ediv_ediv_of_nonneg (by omega), Int.emod_def (n / 256) (256 ^ k), Int.mul_sub, Int.mul_assoc]
      omega
    omega
theorem unB_lt : ∀ l : List Int, (∀ x ∈ l, 0 ≤ x ∧ x ≤ 255) → 0 ≤ unB l ∧ unB l < 256 ^ l.length
  | [], _ => by simp [unB]
  | x :: l, h => by
    have h1 := h x List.mem_cons_self
    have h2 := unB_lt l (fun y hy => h y (List.mem_cons_of_mem _ hy))
    show 0 ≤ x + 256 * unB l ∧ x + 256 * unB l < 256 ^ (l.length + 1)
    rw [Int.pow_succ]
    omega
theorem unB_leB_small (n : Int) (k : Nat) (h0 : 0 ≤ n) (h1 : n < 256 ^ k) : unB (leB n k) = n := by
  rw [unB_leB n k h0, Int.emod_eq_of_lt h0 h1]
def fixP (n w : Int) : List Int × Int := if w < 1 ∨ 4 < w ∨ n < 0 ∨ 2147483647 < n ∨ 256 ^ w.toNat ≤ n then ([], 1) else (leB n w.toNat, 0)
def unfixP (l : List Int) : Int × Int := if l.length < 1 ∨ 4 < l.length then (0, 1) else if 2147483647 < unB l then (0, 5) else (unB l, 0)
end Go.Num
namespace Go.Crc
def poly : BitVec 32 := 0x82f63b78#32
def step (c : BitVec 32) : BitVec 32 := c >>> 1 ^^^ (if c.getLsbD 0 = true then poly else 0#32)
def steps : Nat → BitVec 32 → BitVec 32
  | 0, c => c
  | k + 1, c => steps k (step c)
theorem steps_add (j k : Nat) (c : BitVec 32) : steps (j + k) c = steps k (steps j c) := by
  induction j generalizing c with
  | zero => rw [Nat.zero_add]; rfl
  | succ j ih => rw [Nat.succ_add]; exact ih (step c)
def byte (c : BitVec 32) (x : Int) : BitVec 32 := steps 8 (c ^^^ BitVec.ofInt 32 x)
def run (c : BitVec 32) (l : List Int) : BitVec 32 := l.foldl byte c
def ones : BitVec 32 := 0xffffffff#32
def more (s : Int) (l : List Int) : Int := ((run (BitVec.ofInt 32 s ^^^ ones) l ^^^ ones).toNat : Int)
def sum (l : List Int) : Int := more 0 l
theorem sum_range (l : List Int) : 0 ≤ sum l ∧ sum l < 4294967296 := by
  unfold sum more
  have := (run (BitVec.ofInt 32 0 ^^^ ones) l ^^^ ones).isLt
  omega
theorem run_append (c : BitVec 32) (l m : List Int) : run c (l ++ m) = run (run c l) m := List.foldl_append
end Go.Crc
end
section
namespace Go.Crc
open Go.Num
abbrev b32 (x : Int) : BitVec 32 := BitVec.ofInt 32 x
theorem b32_nat (n : Nat) (h : n < 4294967296) : (b32 (n : Int)).toNat = n := by
  unfold b32
  rw [BitVec.ofInt_natCast, BitVec.toNat_ofNat, Nat.mod_eq_of_lt h]
theorem b32_toInt (c : BitVec 32) : b32 (c.toNat : Int) = c := by
  unfold b32
  rw [BitVec.ofInt_natCast]
  simp
def xb (x t : Int) : Int := ((b32 x ^^^ b32 t).toNat : Int)
end Go.Crc
end
