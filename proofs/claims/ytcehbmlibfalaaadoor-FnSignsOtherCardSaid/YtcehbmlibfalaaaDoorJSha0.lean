/-
  The walks of the digest's first words, on both sides.
-/
import Derived.Test.YtcehbmlibfalaaaDoorChecked
import Derived.Test.YtcehbmlibfalaaaDoorBase4
import Derived.Test.YtcehbmlibfalaaaDoorJInts1
namespace Go.Proofs.YtcehbmlibfalaaaDoor
open Go.RowKit

theorem start_at (k : Nat) (hk : k < 8) : ∃ x : Int, startL[k]? = some x ∧ 0 ≤ x ∧ x < 4294967296 ∧ startL.take (k + 1) = startL.take k ++ [x] := by
  rcases (show k = 0 ∨ k = 1 ∨ k = 2 ∨ k = 3 ∨ k = 4 ∨ k = 5 ∨ k = 6 ∨ k = 7 by omega) with rfl | rfl | rfl | rfl | rfl | rfl | rfl | rfl <;> exact ⟨_, rfl, by decide, by decide, rfl⟩

theorem l03First_any (w : World) : Calls Tryd.prog 85 #[] w fun e w' => e = .returned (.agg #[Value.int IntKind.u32 1779033703, Value.int IntKind.u32 3144134277, Value.int IntKind.u32 1013904242, Value.int IntKind.u32 2773480762, Value.int IntKind.u32 1359893119, Value.int IntKind.u32 2600822924, Value.int IntKind.u32 528734635, Value.int IntKind.u32 1541459225]) ∧ Below w.heap.size w w' := by
  go_enter Tryd.func85, Tryd.ntmps85
  go_wp2_with fail
  try simp only [Exit.inBlock, Exit.then]
  refine bodyPost_ret (results_cell_row rfl _ _ w.heap.size _ _ _ _ rfl (alloc_at _ _) Tryd.underlying87 rfl (by kernel_rfl)) rfl ?_
  exact ⟨rfl, (Below.refl _ _).alloc (Nat.le_refl _) _⟩

end Go.Proofs.YtcehbmlibfalaaaDoor
