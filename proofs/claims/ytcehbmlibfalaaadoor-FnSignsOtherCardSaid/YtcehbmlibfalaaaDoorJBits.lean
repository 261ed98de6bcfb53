/-
  The walks of the smallest functions: ranges, a bit of an index, names and values.
-/
import Derived.Test.YtcehbmlibfalaaaDoorChecked
import Derived.Test.YtcehbmlibfalaaaDoorBase1
namespace Go.Proofs.YtcehbmlibfalaaaDoor
open Go.RowKit

theorem in_any (n lo hi : Int) (w : World) : Calls Tryd.prog 59 #[.int .i64 n, .int .i64 lo, .int .i64 hi] w fun e w' => e = .returned (.bool (within n lo hi)) ∧ w = w' := by
  by_cases h : lo ≤ n
  · go_enter Tryd.func59, Tryd.ntmps59
    go_wp2
    go_ret
    exact ⟨by rw [within_lo h]; rfl, rfl⟩
  · have h' : n < lo := by omega
    clear h
    go_enter Tryd.func59, Tryd.ntmps59
    go_wp2
    go_ret
    exact ⟨by rw [within_no h']; rfl, rfl⟩

theorem in_yes (n lo hi : Int) (h : lo ≤ n ∧ n ≤ hi) (w : World) : Calls Tryd.prog 59 #[.int .i64 n, .int .i64 lo, .int .i64 hi] w fun e w' => e = .returned (.bool true) ∧ w = w' :=
  (in_any n lo hi w).mono fun _ _ ⟨he, hw⟩ => ⟨by rw [he, within_yes h], hw⟩

theorem in_no (n lo hi : Int) (h : ¬ (lo ≤ n ∧ n ≤ hi)) (w : World) : Calls Tryd.prog 59 #[.int .i64 n, .int .i64 lo, .int .i64 hi] w fun e w' => e = .returned (.bool false) ∧ w = w' :=
  (in_any n lo hi w).mono fun _ _ ⟨he, hw⟩ => ⟨by rw [he, within_not h], hw⟩

theorem l01In_any (n lo hi : Int) (w : World) : Calls Tryd.prog 61 #[.int .i64 n, .int .i64 lo, .int .i64 hi] w fun e w' => e = .returned (.bool (within n lo hi)) ∧ w = w' := by
  by_cases h : lo ≤ n
  · go_enter Tryd.func61, Tryd.ntmps61
    go_wp2
    go_ret
    exact ⟨by rw [within_lo h]; rfl, rfl⟩
  · have h' : n < lo := by omega
    clear h
    go_enter Tryd.func61, Tryd.ntmps61
    go_wp2
    go_ret
    exact ⟨by rw [within_no h']; rfl, rfl⟩

theorem l01In_yes (n lo hi : Int) (h : lo ≤ n ∧ n ≤ hi) (w : World) : Calls Tryd.prog 61 #[.int .i64 n, .int .i64 lo, .int .i64 hi] w fun e w' => e = .returned (.bool true) ∧ w = w' :=
  (l01In_any n lo hi w).mono fun _ _ ⟨he, hw⟩ => ⟨by rw [he, within_yes h], hw⟩

theorem l01In_no (n lo hi : Int) (h : ¬ (lo ≤ n ∧ n ≤ hi)) (w : World) : Calls Tryd.prog 61 #[.int .i64 n, .int .i64 lo, .int .i64 hi] w fun e w' => e = .returned (.bool false) ∧ w = w' :=
  (l01In_any n lo hi w).mono fun _ _ ⟨he, hw⟩ => ⟨by rw [he, within_not h], hw⟩

theorem iBitOf_any (i l : Int) (w : World) : Calls Tryd.prog 71 #[.int .i64 i, .int .i64 l] w fun e w' => e = .returned (.int .i64 (bitOf i l)) ∧ w = w' := by
  by_cases h : 0 ≤ l ∧ l ≤ 7
  · obtain ⟨h0, h1⟩ := h
    go_enter Tryd.func71, Tryd.ntmps71
    go_wp2_with (go_at_call 59; refine (in_yes _ _ _ ⟨h0, h1⟩ _).mono ?_; rintro e w' ⟨rfl, rfl⟩)
    go_ret
    exact ⟨by rw [bitOf_in h0 h1]; rfl, rfl⟩
  · have Hh := Lib.hid h
    clear h
    go_enter Tryd.func71, Tryd.ntmps71
    go_wp2_with (go_at_call 59; refine (in_no _ _ _ Hh.out _).mono ?_; rintro e w' ⟨rfl, rfl⟩)
    go_ret
    exact ⟨by rw [bitOf_out Hh.out]; rfl, rfl⟩

theorem sBitOf_any (i l : Int) (w : World) : Calls Tryd.prog 68 #[.int .i64 i, .int .i64 l] w fun e w' => e = .returned (.int .i64 (bitOf i l)) ∧ w = w' := by
  by_cases h : 0 ≤ l ∧ l ≤ 7
  · obtain ⟨h0, h1⟩ := h
    go_enter Tryd.func68, Tryd.ntmps68
    go_wp2_with (go_at_call 61; refine (l01In_yes _ _ _ ⟨h0, h1⟩ _).mono ?_; rintro e w' ⟨rfl, rfl⟩)
    go_ret
    exact ⟨by rw [bitOf_in h0 h1]; rfl, rfl⟩
  · have Hh := Lib.hid h
    clear h
    go_enter Tryd.func68, Tryd.ntmps68
    go_wp2_with (go_at_call 61; refine (l01In_no _ _ _ Hh.out _).mono ?_; rintro e w' ⟨rfl, rfl⟩)
    go_ret
    exact ⟨by rw [bitOf_out Hh.out]; rfl, rfl⟩

end Go.Proofs.YtcehbmlibfalaaaDoor
