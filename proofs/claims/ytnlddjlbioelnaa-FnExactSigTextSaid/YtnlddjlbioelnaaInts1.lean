/-
  The walks of the laws' helpers over rows of integers.
-/
import Derived.Test.YtnlddjlbioelnaaChecked
import Derived.Test.YtnlddjlbioelnaaPuCells
namespace Go.Proofs.Ytnlddjlbioelnaa
open Go.RowKit

theorem Try.infoInt : (Try.prog.info? 3).map (fun i => (i.zero, i.size, i.bytes)) = some (some (.int .i64 0), 1, 8) := by kernel_rfl

end Go.Proofs.Ytnlddjlbioelnaa
