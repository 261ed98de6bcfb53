/-
  The walks of reading a string behind its length, on both sides.
-/
import Derived.Test.YtdecehecjlbbiaaWords3
import Derived.Test.YtdecehecjlbbiaaPuShort
import Derived.Test.YtdecehecjlbbiaaPuSeal
namespace Go.Proofs.Ytdecehecjlbbiaa
open Go.RowKit

theorem s_rv (s : ByteArray) (p : Int) (hs : s.size ≤ 1048576) (w : World) : Calls Try.prog 107 #[.string s, .int .i64 p] w fun e w' => e = .returned (rvVal (readVar s.data.toList p)) ∧ Below w.heap.size w w' := by
  by_cases h : 0 ≤ p ∧ p ≤ s.size
  · obtain ⟨q, rfl⟩ := Int.eq_ofNat_of_zero_le h.1
    exact sReadVar_any s q hs (by omega) w
  · exact below_of_same (sReadVar_out s p h w)

theorem i_rv (s : ByteArray) (p : Int) (hs : s.size ≤ 1048576) (w : World) : Calls Try.prog 108 #[.string s, .int .i64 p] w fun e w' => e = .returned (rvVal (readVar s.data.toList p)) ∧ Below w.heap.size w w' := by
  by_cases h : 0 ≤ p ∧ p ≤ s.size
  · obtain ⟨q, rfl⟩ := Int.eq_ofNat_of_zero_le h.1
    exact below_of_same (iReadVar_any s q hs (by omega) w)
  · exact below_of_same (iReadVar_out s p h w)

end Go.Proofs.Ytdecehecjlbbiaa
