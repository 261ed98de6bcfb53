/-
  The walks of the turn of a word, on both sides.
-/
import Derived.Test.YtcehbmlibfalaaaDoorChecked
import Derived.Test.YtcehbmlibfalaaaDoorBase5
namespace Go.Proofs.YtcehbmlibfalaaaDoor
open Go.RowKit

theorem l03Turn_any (x n : Nat) (hx : x < 4294967296) (hn : 1 ≤ n ∧ n ≤ 31) (w : World) : Calls Tryd.prog 92 #[.int .u32 x, .int .u64 n] w fun e w' => e = .returned (.int .u32 (rot x n : Nat)) ∧ w' = w := by
  have q := rot_eq x n hx
  go_enter Tryd.func92, Tryd.ntmps92
  go_wp2_with fail
  go_ret
  exact ⟨rfl, rfl⟩

theorem l03Turn_2 (x : Nat) (hx : x < 4294967296) (w : World) : Calls Tryd.prog 92 #[.int .u32 x, .int .u64 2] w fun e w' => e = .returned (.int .u32 (rot x 2 : Nat)) ∧ w' = w := l03Turn_any x 2 hx (by decide) w
theorem l03Turn_6 (x : Nat) (hx : x < 4294967296) (w : World) : Calls Tryd.prog 92 #[.int .u32 x, .int .u64 6] w fun e w' => e = .returned (.int .u32 (rot x 6 : Nat)) ∧ w' = w := l03Turn_any x 6 hx (by decide) w
theorem l03Turn_7 (x : Nat) (hx : x < 4294967296) (w : World) : Calls Tryd.prog 92 #[.int .u32 x, .int .u64 7] w fun e w' => e = .returned (.int .u32 (rot x 7 : Nat)) ∧ w' = w := l03Turn_any x 7 hx (by decide) w
theorem l03Turn_11 (x : Nat) (hx : x < 4294967296) (w : World) : Calls Tryd.prog 92 #[.int .u32 x, .int .u64 11] w fun e w' => e = .returned (.int .u32 (rot x 11 : Nat)) ∧ w' = w := l03Turn_any x 11 hx (by decide) w
theorem l03Turn_13 (x : Nat) (hx : x < 4294967296) (w : World) : Calls Tryd.prog 92 #[.int .u32 x, .int .u64 13] w fun e w' => e = .returned (.int .u32 (rot x 13 : Nat)) ∧ w' = w := l03Turn_any x 13 hx (by decide) w
theorem l03Turn_17 (x : Nat) (hx : x < 4294967296) (w : World) : Calls Tryd.prog 92 #[.int .u32 x, .int .u64 17] w fun e w' => e = .returned (.int .u32 (rot x 17 : Nat)) ∧ w' = w := l03Turn_any x 17 hx (by decide) w
theorem l03Turn_18 (x : Nat) (hx : x < 4294967296) (w : World) : Calls Tryd.prog 92 #[.int .u32 x, .int .u64 18] w fun e w' => e = .returned (.int .u32 (rot x 18 : Nat)) ∧ w' = w := l03Turn_any x 18 hx (by decide) w
theorem l03Turn_19 (x : Nat) (hx : x < 4294967296) (w : World) : Calls Tryd.prog 92 #[.int .u32 x, .int .u64 19] w fun e w' => e = .returned (.int .u32 (rot x 19 : Nat)) ∧ w' = w := l03Turn_any x 19 hx (by decide) w
theorem l03Turn_22 (x : Nat) (hx : x < 4294967296) (w : World) : Calls Tryd.prog 92 #[.int .u32 x, .int .u64 22] w fun e w' => e = .returned (.int .u32 (rot x 22 : Nat)) ∧ w' = w := l03Turn_any x 22 hx (by decide) w
theorem l03Turn_25 (x : Nat) (hx : x < 4294967296) (w : World) : Calls Tryd.prog 92 #[.int .u32 x, .int .u64 25] w fun e w' => e = .returned (.int .u32 (rot x 25 : Nat)) ∧ w' = w := l03Turn_any x 25 hx (by decide) w

theorem rotl32_any (x n : Nat) (hx : x < 4294967296) (hn : 1 ≤ n ∧ n ≤ 31) (w : World) : Calls Tryd.prog 91 #[.int .u32 x, .int .i64 (-(n : Int))] w fun e w' => e = .returned (.int .u32 (rot x n : Nat)) ∧ w' = w := by
  have q := Lib.hid (rot_eq' x n hn hx)
  have e1 := sh_and n hn
  have e2 := wrap_neg n hn
  go_enter Tryd.func91, Tryd.ntmps91
  go_wp2_with fail
  rw [q.out]
  go_ret
  exact ⟨rfl, rfl⟩

theorem turn_any (x n : Nat) (hx : x < 4294967296) (hn : 1 ≤ n ∧ n ≤ 31) (w : World) : Calls Tryd.prog 90 #[.int .u32 x, .int .i64 n] w fun e w' => e = .returned (.int .u32 (rot x n : Nat)) ∧ w' = w := by
  go_enter Tryd.func90, Tryd.ntmps90
  go_wp2_with (go_at_call 91; refine (rotl32_any x n hx hn _).mono ?_; rintro e w' ⟨rfl, rfl⟩)
  go_ret
  exact ⟨rfl, rfl⟩

theorem turn_2 (x : Nat) (hx : x < 4294967296) (w : World) : Calls Tryd.prog 90 #[.int .u32 x, .int .i64 2] w fun e w' => e = .returned (.int .u32 (rot x 2 : Nat)) ∧ w' = w := turn_any x 2 hx (by decide) w
theorem turn_6 (x : Nat) (hx : x < 4294967296) (w : World) : Calls Tryd.prog 90 #[.int .u32 x, .int .i64 6] w fun e w' => e = .returned (.int .u32 (rot x 6 : Nat)) ∧ w' = w := turn_any x 6 hx (by decide) w
theorem turn_7 (x : Nat) (hx : x < 4294967296) (w : World) : Calls Tryd.prog 90 #[.int .u32 x, .int .i64 7] w fun e w' => e = .returned (.int .u32 (rot x 7 : Nat)) ∧ w' = w := turn_any x 7 hx (by decide) w
theorem turn_11 (x : Nat) (hx : x < 4294967296) (w : World) : Calls Tryd.prog 90 #[.int .u32 x, .int .i64 11] w fun e w' => e = .returned (.int .u32 (rot x 11 : Nat)) ∧ w' = w := turn_any x 11 hx (by decide) w
theorem turn_13 (x : Nat) (hx : x < 4294967296) (w : World) : Calls Tryd.prog 90 #[.int .u32 x, .int .i64 13] w fun e w' => e = .returned (.int .u32 (rot x 13 : Nat)) ∧ w' = w := turn_any x 13 hx (by decide) w
theorem turn_17 (x : Nat) (hx : x < 4294967296) (w : World) : Calls Tryd.prog 90 #[.int .u32 x, .int .i64 17] w fun e w' => e = .returned (.int .u32 (rot x 17 : Nat)) ∧ w' = w := turn_any x 17 hx (by decide) w
theorem turn_18 (x : Nat) (hx : x < 4294967296) (w : World) : Calls Tryd.prog 90 #[.int .u32 x, .int .i64 18] w fun e w' => e = .returned (.int .u32 (rot x 18 : Nat)) ∧ w' = w := turn_any x 18 hx (by decide) w
theorem turn_19 (x : Nat) (hx : x < 4294967296) (w : World) : Calls Tryd.prog 90 #[.int .u32 x, .int .i64 19] w fun e w' => e = .returned (.int .u32 (rot x 19 : Nat)) ∧ w' = w := turn_any x 19 hx (by decide) w
theorem turn_22 (x : Nat) (hx : x < 4294967296) (w : World) : Calls Tryd.prog 90 #[.int .u32 x, .int .i64 22] w fun e w' => e = .returned (.int .u32 (rot x 22 : Nat)) ∧ w' = w := turn_any x 22 hx (by decide) w
theorem turn_25 (x : Nat) (hx : x < 4294967296) (w : World) : Calls Tryd.prog 90 #[.int .u32 x, .int .i64 25] w fun e w' => e = .returned (.int .u32 (rot x 25 : Nat)) ∧ w' = w := turn_any x 25 hx (by decide) w

end Go.Proofs.YtcehbmlibfalaaaDoor
