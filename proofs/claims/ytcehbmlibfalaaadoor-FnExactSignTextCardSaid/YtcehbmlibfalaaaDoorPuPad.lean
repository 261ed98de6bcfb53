/-
  Plain law: the padding of a text. No program in sight.
-/
import Derived.Test.YtcehbmlibfalaaaDoorKit3
import Derived.Test.YtcehbmlibfalaaaDoorPuNames
namespace Go.Proofs.YtcehbmlibfalaaaDoor

/-- How many zeros. -/
def padZ (n : Nat) : Nat := (119 - n % 64) % 64
theorem padZ_lt (n : Nat) : padZ n < 64 := by unfold padZ; omega
theorem padZ_end (n : Nat) : (n + 1 + padZ n) % 64 = 56 := by unfold padZ; omega
theorem padZ_not (n j : Nat) (h : j < padZ n) : (n + 1 + j) % 64 ≠ 56 := by unfold padZ at h; omega

/-- A number in eight bytes, the highest first. -/
def be64 (n : Nat) : List UInt8 := [UInt8.ofNat (n / 72057594037927936), UInt8.ofNat (n / 281474976710656), UInt8.ofNat (n / 1099511627776), UInt8.ofNat (n / 4294967296), UInt8.ofNat (n / 16777216), UInt8.ofNat (n / 65536), UInt8.ofNat (n / 256), UInt8.ofNat n]
theorem be64_length (n : Nat) : (be64 n).length = 8 := rfl

/-- The padded text. -/
def padL (l : List UInt8) : List UInt8 := l ++ [128] ++ List.replicate (padZ l.length) 0 ++ be64 (8 * l.length)
theorem padL_length (l : List UInt8) : (padL l).length = l.length + 9 + padZ l.length := by
  simp [padL, be64_length]; omega
theorem padL_mod (l : List UInt8) : (padL l).length % 64 = 0 := by
  rw [padL_length]; have := padZ_end l.length; omega

theorem ofNat_mod (n : Nat) : ((UInt8.ofNat n).toNat : Int) = (n : Int) % 256 := by
  rw [UInt8.toNat_ofNat']; rfl

end Go.Proofs.YtcehbmlibfalaaaDoor
