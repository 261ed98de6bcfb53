/-
  The walks of the checksum, on both sides.
-/
import Derived.Test.YtdecehecjlbbiaaChecked
import Derived.Test.YtdecehecjlbbiaaBase2
namespace Go.Proofs.Ytdecehecjlbbiaa
open Go.RowKit

theorem xor_byte (x : Nat) (b : UInt8) (hx : x < 4294967296) : bits BinOp.xor IntKind.u32 (x : Int) (b.toNat : Int) = ((x ^^^ b.toNat : Nat) : Int) := by
  have hb := b.toNat_lt
  exact u32_xor_nat x b.toNat hx (by omega)

theorem xor_half (y : Nat) (hy : y < 4294967296) : bits BinOp.xor IntKind.u32 ((y : Int) / 2) 3558460437 = ((y / 2 ^^^ 3558460437 : Nat) : Int) := by
  have := u32_xor_nat (y / 2) 3558460437 (by omega) (by decide)
  rw [← this]; rfl

theorem and_bit (y : Nat) (hy : y < 4294967296) : bits BinOp.and IntKind.u32 (y : Int) 1 = (y : Int) % 2 := by
  have := u32_and_nat y 1 hy (by decide)
  rw [show (1 : Int) = ((1 : Nat) : Int) from rfl, this, Nat.and_one_is_mod]; rfl

set_option maxHeartbeats 1000000 in
theorem iSumMore_any (X : Nat) (hX : X < 4294967296) (s : ByteArray) (hs : s.size ≤ 1099511627776) (w : World) :
    Calls Try.prog 120 #[.int .u32 X, .string s] w fun e w' => e = .returned (.int .u32 (sumL X s.data.toList : Nat)) ∧ w = w' := by
  go_enter Try.func120, Try.ntmps120
  go_wp2_with fail
  go_loop [0, 5] (fun a i => ∃ x k : Nat, k ≤ s.size ∧ x < 4294967296 ∧ a = .int .u32 x ∧ i = .int .i64 k ∧ Hid (sumL X (s.data.toList.take k) = x)) (fun _ i => s.size - (intOf i).toNat)
  case atStart => exact ⟨X, 0, Nat.zero_le _, hX, rfl, rfl, rfl⟩
  case round =>
    obtain ⟨x, k, hk, hx, rfl, rfl, H⟩ := hrel
    by_cases hlt : k < s.size
    · have hb256 : (s[k].toNat : Int) < 256 := by have := s[k].toNat_lt; omega
      go_wp2_with fail
      go_loop [0, 19] (fun a j => ∃ y j' : Nat, j' ≤ 8 ∧ y < 4294967296 ∧ a = .int .u32 y ∧ j = .int .i64 j' ∧ Hid (crcBits j' (x ^^^ s[k].toNat) = y)) (fun _ j => 8 - (intOf j).toNat)
      case atStart => exact ⟨x ^^^ s[k].toNat, 0, Nat.zero_le _, Nat.xor_lt_two_pow (n := 32) hx (by omega), by rw [xor_byte x s[k] hx], rfl, rfl⟩
      case round =>
        obtain ⟨y, j, hj, hy, rfl, rfl, HJ⟩ := hrel
        clear hb256
        by_cases hj8 : j < 8
        · by_cases hodd : y % 2 = 1
          · have e1 : (bits BinOp.and IntKind.u32 (y : Int) 1 == 1) = true := by rw [and_bit y hy, beq_iff_eq]; omega
            have Ho := Lib.hid hodd
            clear hodd
            go_wp2_with fail
            exact ⟨⟨y / 2 ^^^ 3558460437, j + 1, by omega, Nat.xor_lt_two_pow (n := 32) (by omega) (by decide), by rw [xor_half y hy], by go_num, by rw [crcBits_snoc, HJ.out, crcBit, if_pos Ho.out]; rfl⟩, by simp [intOf]; omega⟩
          · have e1 : (bits BinOp.and IntKind.u32 (y : Int) 1 == 1) = false := by rw [and_bit y hy, beq_eq_false_iff_ne]; omega
            have Ho := Lib.hid hodd
            clear hodd
            go_wp2_with fail
            exact ⟨⟨y / 2, j + 1, by omega, by omega, by go_num, by go_num, by rw [crcBits_snoc, HJ.out, crcBit, if_neg Ho.out]; rfl⟩, by simp [intOf]; omega⟩
        · obtain rfl : j = 8 := by omega
          have HB : Hid (sumL X (s.data.toList.take (k + 1)) = y) := by rw [take_snoc s k hlt, sumL_snoc, H.out]; exact HJ.out
          clear H HJ
          go_wp2_with fail
          exact ⟨⟨y, k + 1, by omega, hy, rfl, by go_num, HB⟩, by simp [intOf]; omega⟩
    · go_wp2_with fail
      go_ret
      exact ⟨by rw [← H.out, List.take_of_length_le (by simp; omega)]; rfl, rfl⟩

set_option maxHeartbeats 1000000 in
theorem sSumMore_any (X : Nat) (hX : X < 4294967296) (s : ByteArray) (hs : s.size ≤ 1099511627776) (w : World) :
    Calls Try.prog 119 #[.int .u32 X, .string s] w fun e w' => e = .returned (.int .u32 (sumL X s.data.toList : Nat)) ∧ w = w' := by
  go_enter Try.func119, Try.ntmps119
  go_wp2_with fail
  go_loop [0, 5] (fun a i => ∃ x k : Nat, k ≤ s.size ∧ x < 4294967296 ∧ a = .int .u32 x ∧ i = .int .i64 k ∧ Hid (sumL X (s.data.toList.take k) = x)) (fun _ i => s.size - (intOf i).toNat)
  case atStart => exact ⟨X, 0, Nat.zero_le _, hX, rfl, rfl, rfl⟩
  case round =>
    obtain ⟨x, k, hk, hx, rfl, rfl, H⟩ := hrel
    by_cases hlt : k < s.size
    · have hb256 : (s[k].toNat : Int) < 256 := by have := s[k].toNat_lt; omega
      go_wp2_with fail
      go_loop [0, 6] (fun a j => ∃ y j' : Nat, j' ≤ 8 ∧ y < 4294967296 ∧ a = .int .u32 y ∧ j = .int .i64 j' ∧ Hid (crcBits j' (x ^^^ s[k].toNat) = y)) (fun _ j => 8 - (intOf j).toNat)
      case atStart => exact ⟨x ^^^ s[k].toNat, 0, Nat.zero_le _, Nat.xor_lt_two_pow (n := 32) hx (by omega), by rw [xor_byte x s[k] hx], rfl, rfl⟩
      case round =>
        obtain ⟨y, j, hj, hy, rfl, rfl, HJ⟩ := hrel
        clear hb256
        by_cases hj8 : j < 8
        · by_cases hodd : y % 2 = 1
          · have e1 : ((y : Int) % 2 == 1) = true := by rw [beq_iff_eq]; omega
            have Ho := Lib.hid hodd
            clear hodd
            go_wp2_with fail
            exact ⟨⟨y / 2 ^^^ 3558460437, j + 1, by omega, Nat.xor_lt_two_pow (n := 32) (by omega) (by decide), by rw [xor_half y hy], by go_num, by rw [crcBits_snoc, HJ.out, crcBit, if_pos Ho.out]; rfl⟩, by simp [intOf]; omega⟩
          · have e1 : ((y : Int) % 2 == 1) = false := by rw [beq_eq_false_iff_ne]; omega
            have Ho := Lib.hid hodd
            clear hodd
            go_wp2_with fail
            exact ⟨⟨y / 2, j + 1, by omega, by omega, by go_num, by go_num, by rw [crcBits_snoc, HJ.out, crcBit, if_neg Ho.out]; rfl⟩, by simp [intOf]; omega⟩
        · obtain rfl : j = 8 := by omega
          have HB : Hid (sumL X (s.data.toList.take (k + 1)) = y) := by rw [take_snoc s k hlt, sumL_snoc, H.out]; exact HJ.out
          clear H HJ
          go_wp2_with fail
          exact ⟨⟨y, k + 1, by omega, hy, rfl, by go_num, HB⟩, by simp [intOf]; omega⟩
    · go_wp2_with fail
      go_ret
      exact ⟨by rw [← H.out, List.take_of_length_le (by simp; omega)]; rfl, rfl⟩

theorem iSumOf_any (s : ByteArray) (hs : s.size ≤ 1099511627776) (w : World) :
    Calls Try.prog 106 #[.string s] w fun e w' => e = .returned (.int .u32 (sumL 4294967295 s.data.toList : Nat)) ∧ w = w' := by
  go_enter Try.func106, Try.ntmps106
  go_wp2_with (go_at_call 120; refine (iSumMore_any 4294967295 (by decide) s hs _).mono ?_; rintro e w' ⟨rfl, rfl⟩)
  go_ret
  exact ⟨rfl, rfl⟩

theorem sSumOf_any (s : ByteArray) (hs : s.size ≤ 1099511627776) (w : World) :
    Calls Try.prog 103 #[.string s] w fun e w' => e = .returned (.int .u32 (sumL 4294967295 s.data.toList : Nat)) ∧ w = w' := by
  go_enter Try.func103, Try.ntmps103
  go_wp2_with (go_at_call 119; refine (sSumMore_any 4294967295 (by decide) s hs _).mono ?_; rintro e w' ⟨rfl, rfl⟩)
  go_ret
  exact ⟨rfl, rfl⟩

end Go.Proofs.Ytdecehecjlbbiaa
