/-
  The walks of the words: numbers in base 128, on both sides.
-/
import Derived.Test.YtcehbmlibfalaaaDoorChecked
import Derived.Test.YtcehbmlibfalaaaDoorBase1
import Derived.Test.YtcehbmlibfalaaaDoorJBits
namespace Go.Proofs.YtcehbmlibfalaaaDoor
open Go.RowKit

theorem Tryd.infoU8 : (Tryd.prog.info? 5).map (fun i => (i.zero, i.size, i.bytes)) = some (some (.int .u8 0), 1, 1) := by kernel_rfl

theorem ofNat_u8 (n : Nat) (h : n < 256) : ((UInt8.ofNat n).toNat : Int) = n := by
  rw [UInt8.toNat_ofNat_of_lt' h]

set_option maxHeartbeats 400000 in
theorem varText_any (N : Nat) (hN : N ≤ 4294967296) (w : World) :
    Calls Tryd.prog 75 #[.int .i64 N] w fun e w' => e = .returned (.string (txt (varL N))) ∧ Below w.heap.size w w' := by
  go_enter Tryd.func75, Tryd.ntmps75
  go_wp2_with fail
  go_loopw [0, 3] (fun x v wr => ∃ (n : Nat) (l : List UInt8), n ≤ N ∧ x = .int .i64 n ∧ l.length + n ≤ N ∧ Hid (l ++ varL n = varL N) ∧ OwnB wr w.heap.size v l ∧ Below w.heap.size w wr) (fun x _ _ => (intOf x).toNat)
  case atStart => exact ⟨N, [], Nat.le_refl _, rfl, by simp, rfl, OwnB.nil _ _, Below.refl _ _⟩
  case round =>
    obtain ⟨n, l, hn, rfl, hl, H, hown, hb⟩ := hrel
    have hbs := hb.size
    by_cases hlt : 127 < n
    · have Hx : Hid ([Value.int .u8 (128 + (n : Int) % 128)] = u8s [UInt8.ofNat (128 + n % 128)]) := u8_cell (by rw [ofNat_u8 _ (by omega)]; omega)
      go_wp2_with (at_builtin; refine wpList_push_u8 _ rfl _ _ 32 rfl 5 Tryd.underlying32 Tryd.infoU8 _ _ l rfl hown _ _ Hx.out 1 1 rfl rfl (by omega) hbs ?_; intro v1 w1 hown1 hg1 hb1)
      refine ⟨⟨n / 128, _, by omega, by go_num, by simp; omega, ?_, hown1, hb.trans hb1⟩, by simp [intOf]; omega⟩
      rw [List.append_assoc, List.singleton_append, ← varL_big hlt]
      exact H
    · have Hx : Hid ([Value.int .u8 (n : Int)] = u8s [UInt8.ofNat n]) := u8_cell (by rw [ofNat_u8 _ (by omega)])
      go_wp2_with (at_builtin; refine wpList_push_u8 _ rfl _ _ 32 rfl 5 Tryd.underlying32 Tryd.infoU8 _ _ l rfl hown _ _ Hx.out 1 1 rfl rfl (by omega) hbs ?_; intro v1 w1 hown1 hg1 hb1; have hc := hown1.text 32 9 5 Tryd.underlying32 Tryd.underlying5 Tryd.underlying9)
      go_ret
      exact ⟨by rw [← H.out, varL_small (by omega)]; rfl, hb.trans hb1⟩

set_option maxHeartbeats 400000 in
theorem l01Var_any (N : Nat) (hN : N ≤ 4294967296) (w : World) :
    Calls Tryd.prog 62 #[.int .i64 N] w fun e w' => e = .returned (.string (txt (varL N))) ∧ Below w.heap.size w w' := by
  go_enter Tryd.func62, Tryd.ntmps62
  go_wp2_with fail
  go_loopw [0, 3] (fun x v wr => ∃ (n : Nat) (l : List UInt8), n ≤ N ∧ x = .int .i64 n ∧ l.length + n ≤ N ∧ Hid (l ++ varL n = varL N) ∧ OwnB wr w.heap.size v l ∧ Below w.heap.size w wr) (fun x _ _ => (intOf x).toNat)
  case atStart => exact ⟨N, [], Nat.le_refl _, rfl, by simp, rfl, OwnB.empty _ _ _ (Nat.le_refl _), (Below.refl _ _).alloc (Nat.le_refl _) _⟩
  case round =>
    obtain ⟨n, l, hn, rfl, hl, H, hown, hb⟩ := hrel
    have hbs := hb.size
    by_cases hlt : 127 < n
    · have Hx : Hid ([Value.int .u8 ((n : Int) % 128 + 128)] = u8s [UInt8.ofNat (128 + n % 128)]) := u8_cell (by rw [ofNat_u8 _ (by omega)]; omega)
      go_wp2_with (at_builtin; refine wpList_push_u8 _ rfl _ _ 32 rfl 5 Tryd.underlying32 Tryd.infoU8 _ _ l rfl hown _ _ Hx.out 1 1 rfl rfl (by omega) hbs ?_; intro v1 w1 hown1 hg1 hb1)
      refine ⟨⟨n / 128, _, by omega, by go_num, by simp; omega, ?_, hown1, hb.trans hb1⟩, by simp [intOf]; omega⟩
      rw [List.append_assoc, List.singleton_append, ← varL_big hlt]
      exact H
    · have Hx : Hid ([Value.int .u8 (n : Int)] = u8s [UInt8.ofNat n]) := u8_cell (by rw [ofNat_u8 _ (by omega)])
      go_wp2_with (at_builtin; refine wpList_push_u8 _ rfl _ _ 32 rfl 5 Tryd.underlying32 Tryd.infoU8 _ _ l rfl hown _ _ Hx.out 1 1 rfl rfl (by omega) hbs ?_; intro v1 w1 hown1 hg1 hb1; have hc := hown1.text 32 9 5 Tryd.underlying32 Tryd.underlying5 Tryd.underlying9)
      go_ret
      exact ⟨by rw [← H.out, varL_small (by omega)]; rfl, hb.trans hb1⟩

theorem l01Var_int (n : Int) (h0 : 0 ≤ n) (h1 : n ≤ 4294967296) (w : World) :
    Calls Tryd.prog 62 #[.int .i64 n] w fun e w' => e = .returned (.string (txt (varL n.toNat))) ∧ Below w.heap.size w w' := by
  obtain ⟨N, rfl⟩ := Int.eq_ofNat_of_zero_le h0
  rw [Int.toNat_natCast]
  exact l01Var_any N (by omega) w

theorem shortText_any (s : ByteArray) (hs : s.size ≤ 4294967296) (w : World) :
    Calls Tryd.prog 60 #[.string s] w fun e w' => e = .returned (.string (txt (varL s.size ++ s.data.toList))) ∧ Below w.heap.size w w' := by
  have hv : (txt (varL s.size)).size ≤ 5 := by rw [txt_size]; exact varL_length_le 4 _ (by omega)
  go_enter Tryd.func60, Tryd.ntmps60
  go_wp2_with (go_at_call 75; refine (varText_any _ hs _).mono ?_; rintro e w1 ⟨rfl, hb⟩)
  go_ret
  exact ⟨by rw [← txt_join]; rfl, hb⟩

end Go.Proofs.YtcehbmlibfalaaaDoor
