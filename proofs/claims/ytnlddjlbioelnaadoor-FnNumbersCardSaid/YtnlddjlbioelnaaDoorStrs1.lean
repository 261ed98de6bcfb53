/-
  The walks of the laws' own helpers over slices of strings: equality, marks, sizes, copies.
-/
import Derived.Test.YtnlddjlbioelnaaDoorChecked
import Derived.Test.YtnlddjlbioelnaaDoorPuStrs
import Derived.Test.YtnlddjlbioelnaaDoorSums2
namespace Go.Proofs.YtnlddjlbioelnaaDoor
open Go.RowKit

theorem Tryd.infoStr : (Tryd.prog.info? 9).map (fun i => (i.zero, i.size, i.bytes)) = some (some (.string ⟨#[]⟩), 1, 16) := by kernel_rfl

theorem take_step {l1 l2 : List ByteArray} {k : Nat} {x y : ByteArray} (hx : l1[k]? = some x) (hy : l2[k]? = some y) (h : x = y) (ht : l1.take k = l2.take k) : l1.take (k + 1) = l2.take (k + 1) := by
  rw [List.take_add_one, List.take_add_one, hx, hy, h, ht]

end Go.Proofs.YtnlddjlbioelnaaDoor
