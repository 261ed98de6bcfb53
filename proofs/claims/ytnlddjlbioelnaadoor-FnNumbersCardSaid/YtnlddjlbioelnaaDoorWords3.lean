/-
  The walks of the words: the reference reads a number in base 128.
-/
import Derived.Test.YtnlddjlbioelnaaDoorChecked
import Derived.Test.YtnlddjlbioelnaaDoorWords2
import Derived.Test.YtnlddjlbioelnaaDoorKit2
import Derived.Test.YtnlddjlbioelnaaDoorBits
namespace Go.Proofs.YtnlddjlbioelnaaDoor
open Go.RowKit

end Go.Proofs.YtnlddjlbioelnaaDoor
