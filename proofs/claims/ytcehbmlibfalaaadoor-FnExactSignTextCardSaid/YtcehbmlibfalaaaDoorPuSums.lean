/-
  Plain law: the checksum, bit by bit, as a function on numbers. No program in sight.
-/
import Derived.Test.YtcehbmlibfalaaaDoorKit2
import Derived.Test.YtcehbmlibfalaaaDoorPuNames
namespace Go.Proofs.YtcehbmlibfalaaaDoor

/-- One bit of the checksum. -/
def crcBit (x : Nat) : Nat := if x % 2 = 1 then x / 2 ^^^ 3558460437 else x / 2
/-- k bits. -/
def crcBits : Nat → Nat → Nat
  | 0, x => x
  | k + 1, x => crcBits k (crcBit x)
/-- A byte. -/
def crcByte (x : Nat) (b : UInt8) : Nat := crcBits 8 (x ^^^ b.toNat)
/-- A text. -/
def sumL (x : Nat) (l : List UInt8) : Nat := l.foldl crcByte x

theorem crcBit_lt {x : Nat} (h : x < 4294967296) : crcBit x < 4294967296 := by
  unfold crcBit
  split
  · exact Nat.xor_lt_two_pow (n := 32) (by omega) (by decide)
  · omega
theorem crcBits_snoc (k x : Nat) : crcBits (k + 1) x = crcBit (crcBits k x) := by
  induction k generalizing x with
  | zero => rfl
  | succ k ih => rw [crcBits, ih, crcBits]
theorem crcBits_lt (k : Nat) {x : Nat} (h : x < 4294967296) : crcBits k x < 4294967296 := by
  induction k generalizing x with
  | zero => exact h
  | succ k ih => exact ih (crcBit_lt h)
theorem crcByte_lt {x : Nat} (h : x < 4294967296) (b : UInt8) : crcByte x b < 4294967296 :=
  crcBits_lt 8 (Nat.xor_lt_two_pow (n := 32) h (by have := b.toNat_lt; omega))
theorem sumL_lt (l : List UInt8) {x : Nat} (h : x < 4294967296) : sumL x l < 4294967296 := by
  induction l generalizing x with
  | nil => exact h
  | cons b r ih => exact ih (crcByte_lt h b)
theorem sumL_snoc (x : Nat) (l : List UInt8) (b : UInt8) : sumL x (l ++ [b]) = crcByte (sumL x l) b := by simp [sumL]
theorem sumL_append (x : Nat) (l m : List UInt8) : sumL x (l ++ m) = sumL (sumL x l) m := by simp [sumL]

end Go.Proofs.YtcehbmlibfalaaaDoor
