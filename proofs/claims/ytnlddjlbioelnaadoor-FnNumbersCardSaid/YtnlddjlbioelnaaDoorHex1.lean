/-
  The walks of hexadecimal digits, on both sides.
-/
import Derived.Test.YtnlddjlbioelnaaDoorChecked
import Derived.Test.YtnlddjlbioelnaaDoorPuHex
namespace Go.Proofs.YtnlddjlbioelnaaDoor
open Go.RowKit

theorem Tryd.infoU8h : (Tryd.prog.info? 5).map (fun i => (i.zero, i.size, i.bytes)) = some (some (.int .u8 0), 1, 1) := by kernel_rfl

theorem l01Figure_any (n : Int) (h0 : 0 ≤ n) (h1 : n < 16) (w : World) :
    Calls Tryd.prog 19 #[.int .i64 n] w fun e w' => e = .returned (.int .u8 ((fig n.toNat).toNat : Int)) ∧ w' = w := by
  obtain ⟨m, rfl⟩ := Int.eq_ofNat_of_zero_le h0
  rw [Int.toNat_natCast]
  by_cases h : m < 10
  · have H := Lib.hid (fig_lo h)
    have h' : (m : Int) < 10 := by omega
    go_enter Tryd.func19, Tryd.ntmps19
    go_wp2_with fail
    go_ret
    exact ⟨by rw [H.out]; rfl, rfl⟩
  · have H := Lib.hid (fig_hi h (by omega))
    have h' : (10 : Int) ≤ m := by omega
    go_enter Tryd.func19, Tryd.ntmps19
    go_wp2_with fail
    go_ret
    exact ⟨by rw [H.out, show (87 : Int) + m = 97 + m - 10 by omega]; rfl, rfl⟩

theorem tbl_index (m : Nat) (hm : m < 16) (w : World) : (Instr.index 9 (.string ⟨#[48, 49, 50, 51, 52, 53, 54, 55, 56, 57, 97, 98, 99, 100, 101, 102]⟩) (.int .u8 (m : Int))).run Tryd.prog w = .ok (.int .u8 ((fig m).toNat : Int)) w := by
  rcases (show m = 0 ∨ m = 1 ∨ m = 2 ∨ m = 3 ∨ m = 4 ∨ m = 5 ∨ m = 6 ∨ m = 7 ∨ m = 8 ∨ m = 9 ∨ m = 10 ∨ m = 11 ∨ m = 12 ∨ m = 13 ∨ m = 14 ∨ m = 15 from by omega) with rfl | rfl | rfl | rfl | rfl | rfl | rfl | rfl | rfl | rfl | rfl | rfl | rfl | rfl | rfl | rfl <;> kernel_rfl

theorem tbl_at (n : Int) (m : Nat) (h : n = m) (hm : m < 16) (w : World) : (Instr.index 9 (.string ⟨#[48, 49, 50, 51, 52, 53, 54, 55, 56, 57, 97, 98, 99, 100, 101, 102]⟩) (.int .u8 n)).run Tryd.prog w = .ok (.int .u8 ((fig m).toNat : Int)) w := by
  subst h; exact tbl_index m hm w

set_option maxHeartbeats 1000000 in
theorem hex_any (s : ByteArray) (hs : s.size ≤ 20000) (w : World) :
    Calls Tryd.prog 31 #[.string s] w fun e w' => e = .returned (.string (txt (hexL s.data.toList))) ∧ Below w.heap.size w w' := by
  go_enter Tryd.func31, Tryd.ntmps31
  go_wp2_with fail
  go_loopw [3, 4] (fun v i wr => ∃ k : Nat, k ≤ s.size ∧ i = .int .i64 k ∧ OwnB wr w.heap.size v (hexL (s.data.toList.take k)) ∧ Below w.heap.size w wr) (fun _ i _ => s.size - (intOf i).toNat)
  case atStart => exact ⟨0, Nat.zero_le _, rfl, OwnB.nil _ _, Below.refl _ _⟩
  case round =>
    obtain ⟨k, hk, rfl, hown, hb⟩ := hrel
    have hbs := hb.size
    have hlen := hexL_take s k hk
    by_cases hlt : k < s.size
    · have hb256 : (s[k].toNat : Int) < 256 := by have := s[k].toNat_lt; omega
      have hownd := hown.drew
      go_wp2_with fail
      have q3 : bits BinOp.and IntKind.u8 (s[k].toNat : Int) 15 = (s[k].toNat : Int) % 16 := u8_and15 _ (by omega) (by omega)
      have q4 : ((s[k].toNat : Int) / 16).toNat = s[k].toNat / 16 := by omega
      have q5 : ((s[k].toNat : Int) % 16).toNat = s[k].toNat % 16 := by omega
      have q6 := fun wx => tbl_at ((s[k].toNat : Int) / 16) (s[k].toNat / 16) (by omega) (by omega) wx
      have q7 := fun wx => tbl_at ((s[k].toNat : Int) % 16) (s[k].toNat % 16) (by omega) (by omega) wx
      have Hx : Hid ([Value.int .u8 ((fig (s[k].toNat / 16)).toNat : Int), Value.int .u8 ((fig (s[k].toNat % 16)).toNat : Int)] = u8s (hex2 s[k])) := rfl
      go_region_law (refine step_push_u8 _ _ rfl _ _ 27 rfl 5 Tryd.underlying27 Tryd.infoU8h _ _ _ rfl hownd _ (hex2 s[k]) Hx.out 2 2 rfl rfl (by omega) hbs rfl ?_; intro v1 w1 hown1 hg1 hb1)
      all_goals
        clear q3 q4 q5 q6 q7
        go_wp2_with fail
        refine ⟨⟨k + 1, by omega, by go_num, by rw [hexL_snoc s k hlt]; exact hown1, ?_⟩, by simp [intOf]; omega⟩
        exact hb.drew.trans hb1
    · have hdone : s.data.toList.take k = s.data.toList := List.take_of_length_le (by simp; omega)
      rw [hdone] at hown
      have hc := hown.text 27 9 5 Tryd.underlying27 Tryd.underlying5 Tryd.underlying9
      clear hdone
      go_wp2_with fail
      go_ret
      exact ⟨rfl, hb⟩

theorem iHex_yes (s : ByteArray) (hs : s.size ≤ 20000) (w : World) :
    Calls Tryd.prog 17 #[.string s] w fun e w' => e = .returned (.tuple #[.string (txt (hexL s.data.toList)), .bool true]) ∧ Below w.heap.size w w' := by
  go_enter Tryd.func17, Tryd.ntmps17
  go_wp2_with (go_at_call 31; refine (hex_any s hs _).mono ?_; rintro e w1 ⟨rfl, hb1⟩)
  go_ret2
  exact ⟨rfl, hb1⟩
theorem iHex_no (s : ByteArray) (hs : ¬ s.size ≤ 20000) (hs' : s.size ≤ 1048576) (w : World) :
    Calls Tryd.prog 17 #[.string s] w fun e w' => e = .returned (.tuple #[.string ⟨#[]⟩, .bool false]) ∧ w = w' := by
  go_enter Tryd.func17, Tryd.ntmps17
  go_wp2_with fail
  go_ret2
  exact ⟨rfl, rfl⟩

end Go.Proofs.YtnlddjlbioelnaaDoor
