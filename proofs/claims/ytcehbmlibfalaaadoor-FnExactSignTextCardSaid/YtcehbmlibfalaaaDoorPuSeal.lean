/-
  Plain law: a checksum behind a text; a framed record. No program in sight.
-/
import Derived.Test.YtcehbmlibfalaaaDoorPuSums
import Derived.Test.YtcehbmlibfalaaaDoorPuPad
namespace Go.Proofs.YtcehbmlibfalaaaDoor

/-- A number of 32 bits in four bytes, the highest first. -/
def be32 (n : Nat) : List UInt8 := [UInt8.ofNat (n / 16777216), UInt8.ofNat (n / 65536), UInt8.ofNat (n / 256), UInt8.ofNat n]
theorem be32_length (n : Nat) : (be32 n).length = 4 := rfl

/-- The checksum of a text. -/
def crc (l : List UInt8) : Nat := sumL 4294967295 l
theorem crc_lt (l : List UInt8) : crc l < 4294967296 := sumL_lt l (by decide)

/-- The checksum's four bytes. -/
def crc4 (l : List UInt8) : List UInt8 := be32 (crc l)
theorem crc4_length (l : List UInt8) : (crc4 l).length = 4 := rfl

def sealL (l : List UInt8) : List UInt8 := l ++ crc4 l

/-- What stands ahead of a right checksum. -/
def unsealL (l : List UInt8) : Option (List UInt8) :=
  if 4 ≤ l.length ∧ l.length ≤ 20004 ∧ l.drop (l.length - 4) = crc4 (l.take (l.length - 4)) then some (l.take (l.length - 4)) else none

/-- The two results. -/
def optTxt : Option (List UInt8) → Value
  | none => .tuple #[.string ⟨#[]⟩, .bool false]
  | some l => .tuple #[.string (txt l), .bool true]

end Go.Proofs.YtcehbmlibfalaaaDoor
