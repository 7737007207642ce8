import Derived.Test.YtkfbegmfepehiaaZKp
namespace Go.Crc
open Go.Num
abbrev b32 (x : Int) : BitVec 32 := BitVec.ofInt 32 x
theorem b32_nat (n : Nat) (h : n < 4294967296) : (b32 (n : Int)).toNat = n := by
  unfold b32
  rw [BitVec.ofInt_natCast, BitVec.toNat_ofNat, Nat.mod_eq_of_lt h]
theorem b32_toInt (c : BitVec 32) : b32 (c.toNat : Int) = c := by
  unfold b32
  rw [BitVec.ofInt_natCast]
  simp
def xb (x t : Int) : Int := ((b32 x ^^^ b32 t).toNat : Int)
end Go.Crc
