/-
  Plain law: hexadecimal digits. No program in sight.
-/
import Derived.Test.YtcehbmlibfalaaaDoorKit2
import Derived.Test.YtcehbmlibfalaaaDoorPuNames
namespace Go.Proofs.YtcehbmlibfalaaaDoor

/-- The digit of a number below 16. -/
def fig (n : Nat) : UInt8 := if n < 10 then UInt8.ofNat (48 + n) else UInt8.ofNat (87 + n)
theorem fig_lo {n : Nat} (h : n < 10) : ((fig n).toNat : Int) = 48 + n := by
  rw [fig, if_pos h, UInt8.toNat_ofNat_of_lt' (by show _ < 256; omega)]; omega
theorem fig_hi {n : Nat} (h : ¬ n < 10) (h' : n < 16) : ((fig n).toNat : Int) = 87 + n := by
  rw [fig, if_neg h, UInt8.toNat_ofNat_of_lt' (by show _ < 256; omega)]; omega

/-- The two digits of a byte. -/
def hex2 (b : UInt8) : List UInt8 := [fig (b.toNat / 16), fig (b.toNat % 16)]
def hexL (l : List UInt8) : List UInt8 := l.flatMap hex2
theorem hexL_length (l : List UInt8) : (hexL l).length = 2 * l.length := by
  induction l with
  | nil => rfl
  | cons b r ih => simp [hexL, hex2] at ih ⊢; omega
theorem hexL_snoc (s : ByteArray) (k : Nat) (h : k < s.size) : hexL (s.data.toList.take (k + 1)) = hexL (s.data.toList.take k) ++ hex2 s[k] := by
  rw [take_snoc s k h, hexL, hexL, List.flatMap_append]; simp
theorem hexL_take (s : ByteArray) (k : Nat) (hk : k ≤ s.size) : (hexL (s.data.toList.take k)).length = 2 * k := by
  rw [hexL_length, List.length_take, Array.length_toList]
  show 2 * min k s.size = _
  omega

end Go.Proofs.YtcehbmlibfalaaaDoor
