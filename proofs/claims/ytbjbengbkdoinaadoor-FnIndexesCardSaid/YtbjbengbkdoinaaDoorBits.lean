/-
  The walks of the smallest functions: ranges, a bit of an index, names and values.
-/
import Derived.Test.YtbjbengbkdoinaaDoorChecked
import Derived.Test.YtbjbengbkdoinaaDoorPuNames
namespace Go.Proofs.YtbjbengbkdoinaaDoor
open Go.RowKit

theorem in_any (n lo hi : Int) (w : World) : Calls Tryd.prog 58 #[.int .i64 n, .int .i64 lo, .int .i64 hi] w fun e w' => e = .returned (.bool (within n lo hi)) ∧ w = w' := by
  by_cases h : lo ≤ n
  · go_enter Tryd.func58, Tryd.ntmps58
    go_wp2
    go_ret
    exact ⟨by rw [within_lo h]; rfl, rfl⟩
  · have h' : n < lo := by omega
    clear h
    go_enter Tryd.func58, Tryd.ntmps58
    go_wp2
    go_ret
    exact ⟨by rw [within_no h']; rfl, rfl⟩

theorem in_yes (n lo hi : Int) (h : lo ≤ n ∧ n ≤ hi) (w : World) : Calls Tryd.prog 58 #[.int .i64 n, .int .i64 lo, .int .i64 hi] w fun e w' => e = .returned (.bool true) ∧ w = w' :=
  (in_any n lo hi w).mono fun _ _ ⟨he, hw⟩ => ⟨by rw [he, within_yes h], hw⟩

theorem in_no (n lo hi : Int) (h : ¬ (lo ≤ n ∧ n ≤ hi)) (w : World) : Calls Tryd.prog 58 #[.int .i64 n, .int .i64 lo, .int .i64 hi] w fun e w' => e = .returned (.bool false) ∧ w = w' :=
  (in_any n lo hi w).mono fun _ _ ⟨he, hw⟩ => ⟨by rw [he, within_not h], hw⟩

theorem l01In_any (n lo hi : Int) (w : World) : Calls Tryd.prog 55 #[.int .i64 n, .int .i64 lo, .int .i64 hi] w fun e w' => e = .returned (.bool (within n lo hi)) ∧ w = w' := by
  by_cases h : lo ≤ n
  · go_enter Tryd.func55, Tryd.ntmps55
    go_wp2
    go_ret
    exact ⟨by rw [within_lo h]; rfl, rfl⟩
  · have h' : n < lo := by omega
    clear h
    go_enter Tryd.func55, Tryd.ntmps55
    go_wp2
    go_ret
    exact ⟨by rw [within_no h']; rfl, rfl⟩

theorem l01In_yes (n lo hi : Int) (h : lo ≤ n ∧ n ≤ hi) (w : World) : Calls Tryd.prog 55 #[.int .i64 n, .int .i64 lo, .int .i64 hi] w fun e w' => e = .returned (.bool true) ∧ w = w' :=
  (l01In_any n lo hi w).mono fun _ _ ⟨he, hw⟩ => ⟨by rw [he, within_yes h], hw⟩

theorem l01In_no (n lo hi : Int) (h : ¬ (lo ≤ n ∧ n ≤ hi)) (w : World) : Calls Tryd.prog 55 #[.int .i64 n, .int .i64 lo, .int .i64 hi] w fun e w' => e = .returned (.bool false) ∧ w = w' :=
  (l01In_any n lo hi w).mono fun _ _ ⟨he, hw⟩ => ⟨by rw [he, within_not h], hw⟩

theorem iBitOf_any (i l : Int) (w : World) : Calls Tryd.prog 46 #[.int .i64 i, .int .i64 l] w fun e w' => e = .returned (.int .i64 (bitOf i l)) ∧ w = w' := by
  by_cases h : 0 ≤ l ∧ l ≤ 7
  · obtain ⟨h0, h1⟩ := h
    go_enter Tryd.func46, Tryd.ntmps46
    go_wp2_with (go_at_call 58; refine (in_yes _ _ _ ⟨h0, h1⟩ _).mono ?_; rintro e w' ⟨rfl, rfl⟩)
    go_ret
    exact ⟨by rw [bitOf_in h0 h1]; rfl, rfl⟩
  · have Hh := Lib.hid h
    clear h
    go_enter Tryd.func46, Tryd.ntmps46
    go_wp2_with (go_at_call 58; refine (in_no _ _ _ Hh.out _).mono ?_; rintro e w' ⟨rfl, rfl⟩)
    go_ret
    exact ⟨by rw [bitOf_out Hh.out]; rfl, rfl⟩

theorem sBitOf_any (i l : Int) (w : World) : Calls Tryd.prog 50 #[.int .i64 i, .int .i64 l] w fun e w' => e = .returned (.int .i64 (bitOf i l)) ∧ w = w' := by
  by_cases h : 0 ≤ l ∧ l ≤ 7
  · obtain ⟨h0, h1⟩ := h
    go_enter Tryd.func50, Tryd.ntmps50
    go_wp2_with (go_at_call 55; refine (l01In_yes _ _ _ ⟨h0, h1⟩ _).mono ?_; rintro e w' ⟨rfl, rfl⟩)
    go_ret
    exact ⟨by rw [bitOf_in h0 h1]; rfl, rfl⟩
  · have Hh := Lib.hid h
    clear h
    go_enter Tryd.func50, Tryd.ntmps50
    go_wp2_with (go_at_call 55; refine (l01In_no _ _ _ Hh.out _).mono ?_; rintro e w' ⟨rfl, rfl⟩)
    go_ret
    exact ⟨by rw [bitOf_out Hh.out]; rfl, rfl⟩

set_option maxHeartbeats 1000000 in
theorem sValueOk_any (s : ByteArray) (hs : s.size ≤ 1048576) (w : World) : Calls Tryd.prog 54 #[.string s] w fun e w' => e = .returned (.bool (okBy vByte s.data.toList)) ∧ w = w' := by
  go_enter Tryd.func54, Tryd.ntmps54
  go_wp2_with fail
  go_loop [3] (fun i => ∃ k : Nat, k ≤ s.size ∧ i = .int .i64 k ∧ Hid ((s.data.toList.take k).all vByte = true)) (fun i => s.size - (intOf i).toNat)
  case atStart => exact ⟨0, Nat.zero_le _, rfl, rfl⟩
  case round =>
    obtain ⟨k, hk, rfl, H⟩ := hrel
    by_cases hlt : k < s.size
    · rcases (show (s[k].toNat : Int) < 33 ∨ (126 : Int) < s[k].toNat ∨ ((33 : Int) ≤ s[k].toNat ∧ (s[k].toNat : Int) ≤ 126) from by omega) with h | h | ⟨h, h'⟩
      · go_wp2_with fail
        go_ret
        exact ⟨by rw [okBy_bad hlt (vByte_no _ (by omega))]; rfl, rfl⟩
      · go_wp2_with fail
        go_ret
        exact ⟨by rw [okBy_bad hlt (vByte_no _ (by omega))]; rfl, rfl⟩
      · go_wp2_with fail
        go_round
        case rel => exact ⟨k + 1, by omega, by go_num, all_snoc _ s k hlt H.out (vByte_yes _ (by omega))⟩
        case measure => simp [intOf]; omega
    · go_wp2_with (go_at_call 55; refine (l01In_any _ _ _ _).mono ?_; rintro e w' ⟨rfl, rfl⟩)
      go_ret
      exact ⟨by rw [okBy_end hlt H.out]; rfl, rfl⟩

set_option maxHeartbeats 1000000 in
theorem iValueOk_any (s : ByteArray) (hs : s.size ≤ 1048576) (w : World) : Calls Tryd.prog 53 #[.string s] w fun e w' => e = .returned (.bool (okBy vByte s.data.toList)) ∧ w = w' := by
  go_enter Tryd.func53, Tryd.ntmps53
  go_wp2_with fail
  go_loop [3] (fun i => ∃ k : Nat, k ≤ s.size ∧ i = .int .i64 k ∧ Hid ((s.data.toList.take k).all vByte = true)) (fun i => s.size - (intOf i).toNat)
  case atStart => exact ⟨0, Nat.zero_le _, rfl, rfl⟩
  case round =>
    obtain ⟨k, hk, rfl, H⟩ := hrel
    by_cases hlt : k < s.size
    · by_cases h12 : k ≤ 12
      · by_cases h : (33 : Int) ≤ s[k].toNat ∧ (s[k].toNat : Int) ≤ 126
        · have Hh := Lib.hid h
          clear h
          go_wp2_with (go_at_call 58; rw [wrap64_byte]; refine (in_yes _ _ _ Hh.out _).mono ?_; rintro e w' ⟨rfl, rfl⟩)
          go_round
          case rel => exact ⟨k + 1, by omega, by go_num, all_snoc _ s k hlt H.out (vByte_yes _ Hh.out)⟩
          case measure => simp [intOf]; omega
        · have Hh := Lib.hid h
          clear h
          go_wp2_with (go_at_call 58; rw [wrap64_byte]; refine (in_no _ _ _ Hh.out _).mono ?_; rintro e w' ⟨rfl, rfl⟩)
          go_ret
          exact ⟨by rw [okBy_bad hlt (vByte_no _ Hh.out)]; rfl, rfl⟩
      · go_wp2_with (go_at_call 58; refine (in_any _ _ _ _).mono ?_; rintro e w' ⟨rfl, rfl⟩)
        go_ret
        exact ⟨by rw [okBy_long (by omega)]; rfl, rfl⟩
    · go_wp2_with (go_at_call 58; refine (in_any _ _ _ _).mono ?_; rintro e w' ⟨rfl, rfl⟩)
      go_ret
      exact ⟨by rw [okBy_end hlt H.out]; rfl, rfl⟩

set_option maxHeartbeats 1000000 in
theorem sNameOk_any (s : ByteArray) (hs : s.size ≤ 1048576) (w : World) : Calls Tryd.prog 52 #[.string s] w fun e w' => e = .returned (.bool (okBy nByte s.data.toList)) ∧ w = w' := by
  go_enter Tryd.func52, Tryd.ntmps52
  go_wp2_with fail
  go_loop [3] (fun i => ∃ k : Nat, k ≤ s.size ∧ i = .int .i64 k ∧ Hid ((s.data.toList.take k).all nByte = true)) (fun i => s.size - (intOf i).toNat)
  case atStart => exact ⟨0, Nat.zero_le _, rfl, rfl⟩
  case round =>
    obtain ⟨k, hk, rfl, H⟩ := hrel
    by_cases hlt : k < s.size
    · rcases ranges9 (s[k].toNat : Int) with h | ⟨h, h'⟩ | ⟨h, h'⟩ | ⟨h, h'⟩ | ⟨h, h'⟩ | ⟨h, h'⟩ | ⟨h, h'⟩ | ⟨h, h'⟩ | h
      · have e64 : ((s[k].toNat : Int) != 64) = true := by rw [bne_iff_ne]; omega
        have e46 : ((s[k].toNat : Int) != 46) = true := by rw [bne_iff_ne]; omega
        go_wp2_with fail
        go_ret
        exact ⟨by rw [okBy_bad hlt (nByte_no _ (by omega))]; rfl, rfl⟩
      · have e64 : ((s[k].toNat : Int) != 64) = true := by rw [bne_iff_ne]; omega
        have e46 : ((s[k].toNat : Int) != 46) = false := by rw [bne_eq_false_iff_eq]; omega
        go_wp2_with fail
        go_round
        case rel => exact ⟨k + 1, by omega, by go_num, all_snoc _ s k hlt H.out (nByte_yes _ (by omega))⟩
        case measure => simp [intOf]; omega
      · have e64 : ((s[k].toNat : Int) != 64) = true := by rw [bne_iff_ne]; omega
        have e46 : ((s[k].toNat : Int) != 46) = true := by rw [bne_iff_ne]; omega
        go_wp2_with fail
        go_ret
        exact ⟨by rw [okBy_bad hlt (nByte_no _ (by omega))]; rfl, rfl⟩
      · have e64 : ((s[k].toNat : Int) != 64) = true := by rw [bne_iff_ne]; omega
        have e46 : ((s[k].toNat : Int) != 46) = true := by rw [bne_iff_ne]; omega
        go_wp2_with fail
        go_round
        case rel => exact ⟨k + 1, by omega, by go_num, all_snoc _ s k hlt H.out (nByte_yes _ (by omega))⟩
        case measure => simp [intOf]; omega
      · have e64 : ((s[k].toNat : Int) != 64) = true := by rw [bne_iff_ne]; omega
        have e46 : ((s[k].toNat : Int) != 46) = true := by rw [bne_iff_ne]; omega
        go_wp2_with fail
        go_ret
        exact ⟨by rw [okBy_bad hlt (nByte_no _ (by omega))]; rfl, rfl⟩
      · have e64 : ((s[k].toNat : Int) != 64) = false := by rw [bne_eq_false_iff_eq]; omega
        have e46 : ((s[k].toNat : Int) != 46) = true := by rw [bne_iff_ne]; omega
        go_wp2_with fail
        go_round
        case rel => exact ⟨k + 1, by omega, by go_num, all_snoc _ s k hlt H.out (nByte_yes _ (by omega))⟩
        case measure => simp [intOf]; omega
      · have e64 : ((s[k].toNat : Int) != 64) = true := by rw [bne_iff_ne]; omega
        have e46 : ((s[k].toNat : Int) != 46) = true := by rw [bne_iff_ne]; omega
        go_wp2_with fail
        go_ret
        exact ⟨by rw [okBy_bad hlt (nByte_no _ (by omega))]; rfl, rfl⟩
      · have e64 : ((s[k].toNat : Int) != 64) = true := by rw [bne_iff_ne]; omega
        have e46 : ((s[k].toNat : Int) != 46) = true := by rw [bne_iff_ne]; omega
        go_wp2_with fail
        go_round
        case rel => exact ⟨k + 1, by omega, by go_num, all_snoc _ s k hlt H.out (nByte_yes _ (by omega))⟩
        case measure => simp [intOf]; omega
      · have e64 : ((s[k].toNat : Int) != 64) = true := by rw [bne_iff_ne]; omega
        have e46 : ((s[k].toNat : Int) != 46) = true := by rw [bne_iff_ne]; omega
        go_wp2_with fail
        go_ret
        exact ⟨by rw [okBy_bad hlt (nByte_no _ (by omega))]; rfl, rfl⟩
    · go_wp2_with (go_at_call 55; refine (l01In_any _ _ _ _).mono ?_; rintro e w' ⟨rfl, rfl⟩)
      go_ret
      exact ⟨by rw [okBy_end hlt H.out]; rfl, rfl⟩

set_option maxHeartbeats 1000000 in
theorem iNameOk_any (s : ByteArray) (hs : s.size ≤ 1048576) (w : World) : Calls Tryd.prog 51 #[.string s] w fun e w' => e = .returned (.bool (okBy nByte s.data.toList)) ∧ w = w' := by
  go_enter Tryd.func51, Tryd.ntmps51
  go_wp2_with fail
  go_loop [3] (fun i => ∃ k : Nat, k ≤ s.size ∧ i = .int .i64 k ∧ Hid ((s.data.toList.take k).all nByte = true)) (fun i => s.size - (intOf i).toNat)
  case atStart => exact ⟨0, Nat.zero_le _, rfl, rfl⟩
  case round =>
    obtain ⟨k, hk, rfl, H⟩ := hrel
    by_cases hlt : k < s.size
    · by_cases h12 : k ≤ 12
      · rcases ranges9 (s[k].toNat : Int) with h | ⟨h, h'⟩ | ⟨h, h'⟩ | ⟨h, h'⟩ | ⟨h, h'⟩ | ⟨h, h'⟩ | ⟨h, h'⟩ | ⟨h, h'⟩ | h
        · have e64 : ((s[k].toNat : Int) != 64) = true := by rw [bne_iff_ne]; omega
          have e46 : ((s[k].toNat : Int) != 46) = true := by rw [bne_iff_ne]; omega
          go_wp2_with fail
          go_ret
          exact ⟨by rw [okBy_bad hlt (nByte_no _ (by omega))]; rfl, rfl⟩
        · have e64 : ((s[k].toNat : Int) != 64) = true := by rw [bne_iff_ne]; omega
          have e46 : ((s[k].toNat : Int) != 46) = false := by rw [bne_eq_false_iff_eq]; omega
          go_wp2_with fail
          go_round
          case rel => exact ⟨k + 1, by omega, by go_num, all_snoc _ s k hlt H.out (nByte_yes _ (by omega))⟩
          case measure => simp [intOf]; omega
        · have e64 : ((s[k].toNat : Int) != 64) = true := by rw [bne_iff_ne]; omega
          have e46 : ((s[k].toNat : Int) != 46) = true := by rw [bne_iff_ne]; omega
          go_wp2_with fail
          go_ret
          exact ⟨by rw [okBy_bad hlt (nByte_no _ (by omega))]; rfl, rfl⟩
        · have e64 : ((s[k].toNat : Int) != 64) = true := by rw [bne_iff_ne]; omega
          have e46 : ((s[k].toNat : Int) != 46) = true := by rw [bne_iff_ne]; omega
          go_wp2_with fail
          go_round
          case rel => exact ⟨k + 1, by omega, by go_num, all_snoc _ s k hlt H.out (nByte_yes _ (by omega))⟩
          case measure => simp [intOf]; omega
        · have e64 : ((s[k].toNat : Int) != 64) = true := by rw [bne_iff_ne]; omega
          have e46 : ((s[k].toNat : Int) != 46) = true := by rw [bne_iff_ne]; omega
          go_wp2_with fail
          go_ret
          exact ⟨by rw [okBy_bad hlt (nByte_no _ (by omega))]; rfl, rfl⟩
        · have e64 : ((s[k].toNat : Int) != 64) = false := by rw [bne_eq_false_iff_eq]; omega
          have e46 : ((s[k].toNat : Int) != 46) = true := by rw [bne_iff_ne]; omega
          go_wp2_with fail
          go_round
          case rel => exact ⟨k + 1, by omega, by go_num, all_snoc _ s k hlt H.out (nByte_yes _ (by omega))⟩
          case measure => simp [intOf]; omega
        · have e64 : ((s[k].toNat : Int) != 64) = true := by rw [bne_iff_ne]; omega
          have e46 : ((s[k].toNat : Int) != 46) = true := by rw [bne_iff_ne]; omega
          go_wp2_with fail
          go_ret
          exact ⟨by rw [okBy_bad hlt (nByte_no _ (by omega))]; rfl, rfl⟩
        · have e64 : ((s[k].toNat : Int) != 64) = true := by rw [bne_iff_ne]; omega
          have e46 : ((s[k].toNat : Int) != 46) = true := by rw [bne_iff_ne]; omega
          go_wp2_with fail
          go_round
          case rel => exact ⟨k + 1, by omega, by go_num, all_snoc _ s k hlt H.out (nByte_yes _ (by omega))⟩
          case measure => simp [intOf]; omega
        · have e64 : ((s[k].toNat : Int) != 64) = true := by rw [bne_iff_ne]; omega
          have e46 : ((s[k].toNat : Int) != 46) = true := by rw [bne_iff_ne]; omega
          go_wp2_with fail
          go_ret
          exact ⟨by rw [okBy_bad hlt (nByte_no _ (by omega))]; rfl, rfl⟩
      · go_wp2_with (go_at_call 58; refine (in_any _ _ _ _).mono ?_; rintro e w' ⟨rfl, rfl⟩)
        go_ret
        exact ⟨by rw [okBy_long (by omega)]; rfl, rfl⟩
    · go_wp2_with (go_at_call 58; refine (in_any _ _ _ _).mono ?_; rintro e w' ⟨rfl, rfl⟩)
      go_ret
      exact ⟨by rw [okBy_end hlt H.out]; rfl, rfl⟩

end Go.Proofs.YtbjbengbkdoinaaDoor
