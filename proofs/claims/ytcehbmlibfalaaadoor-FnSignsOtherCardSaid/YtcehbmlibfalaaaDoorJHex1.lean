/-
  The walks of hexadecimal digits, on both sides.
-/
import Derived.Test.YtcehbmlibfalaaaDoorChecked
import Derived.Test.YtcehbmlibfalaaaDoorBase2
namespace Go.Proofs.YtcehbmlibfalaaaDoor
open Go.RowKit

theorem Tryd.infoU8h : (Tryd.prog.info? 5).map (fun i => (i.zero, i.size, i.bytes)) = some (some (.int .u8 0), 1, 1) := by kernel_rfl

theorem l01Figure_any (n : Int) (h0 : 0 ≤ n) (h1 : n < 16) (w : World) :
    Calls Tryd.prog 73 #[.int .i64 n] w fun e w' => e = .returned (.int .u8 ((fig n.toNat).toNat : Int)) ∧ w' = w := by
  obtain ⟨m, rfl⟩ := Int.eq_ofNat_of_zero_le h0
  rw [Int.toNat_natCast]
  by_cases h : m < 10
  · have H := Lib.hid (fig_lo h)
    have h' : (m : Int) < 10 := by omega
    go_enter Tryd.func73, Tryd.ntmps73
    go_wp2_with fail
    go_ret
    exact ⟨by rw [H.out]; rfl, rfl⟩
  · have H := Lib.hid (fig_hi h (by omega))
    have h' : (10 : Int) ≤ m := by omega
    go_enter Tryd.func73, Tryd.ntmps73
    go_wp2_with fail
    go_ret
    exact ⟨by rw [H.out, show (87 : Int) + m = 97 + m - 10 by omega]; rfl, rfl⟩

end Go.Proofs.YtcehbmlibfalaaaDoor
