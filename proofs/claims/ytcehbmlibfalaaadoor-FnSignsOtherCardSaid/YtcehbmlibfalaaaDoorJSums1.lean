/-
  The walks of the checksum, on both sides.
-/
import Derived.Test.YtcehbmlibfalaaaDoorChecked
import Derived.Test.YtcehbmlibfalaaaDoorBase2
namespace Go.Proofs.YtcehbmlibfalaaaDoor
open Go.RowKit

theorem xor_byte (x : Nat) (b : UInt8) (hx : x < 4294967296) : bits BinOp.xor IntKind.u32 (x : Int) (b.toNat : Int) = ((x ^^^ b.toNat : Nat) : Int) := by
  have hb := b.toNat_lt
  exact u32_xor_nat x b.toNat hx (by omega)

theorem xor_half (y : Nat) (hy : y < 4294967296) : bits BinOp.xor IntKind.u32 ((y : Int) / 2) 3558460437 = ((y / 2 ^^^ 3558460437 : Nat) : Int) := by
  have := u32_xor_nat (y / 2) 3558460437 (by omega) (by decide)
  rw [← this]; rfl

theorem and_bit (y : Nat) (hy : y < 4294967296) : bits BinOp.and IntKind.u32 (y : Int) 1 = (y : Int) % 2 := by
  have := u32_and_nat y 1 hy (by decide)
  rw [show (1 : Int) = ((1 : Nat) : Int) from rfl, this, Nat.and_one_is_mod]; rfl

end Go.Proofs.YtcehbmlibfalaaaDoor
