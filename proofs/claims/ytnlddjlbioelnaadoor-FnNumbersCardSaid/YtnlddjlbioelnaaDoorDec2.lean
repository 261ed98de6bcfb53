/-
  The walk of impl.Decimal: strconv's contract.
-/
import Derived.Test.YtnlddjlbioelnaaDoorDec1
import Derived.Test.YtnlddjlbioelnaaDoorShelf
import Derived.Lib.AppendIntMem
namespace Go.Proofs.YtnlddjlbioelnaaDoor
open Go.RowKit Go.Sort

/-- strconv's table of powers, at every world behind. -/
def Pows (w : World) : Prop := Lib.TabBelow Tryd.prog w.heap.size w "internal/strconv.uint64pow10" .u64 Lib.pow10Tab
theorem Pows.below {w w' : World} (h : Pows w) (hb : Below w.heap.size w w') : Pows w' :=
  fun _ hb2 => h _ (hb.trans (hb2.mono hb.size))

theorem below_grow_n (w : World) (k : Nat) (os : Array Obj) : Below w.heap.size w (grow (w.drewN k) os) := Lib.below_grow _ w (Nat.le_refl _) k os

theorem iDecimal_any (n : Int) (h0 : -9223372036854775808 ≤ n) (h1 : n ≤ 9223372036854775807) (w : World) (hP : Pows w) :
    Calls Tryd.prog 7 #[.int .i64 n] w fun e w' => e = .returned (.string (txt (Lib.itoa n))) ∧ Below w.heap.size w w' := by
  have C := Lib.hid (Tryd.strconv_Itoa n h0 h1 w hP.here)
  clear hP
  go_enter Tryd.func7, Tryd.ntmps7
  go_wp2_with (go_at_call 20; refine C.out.mono ?_; rintro e w1 ⟨rfl, k, os, rfl⟩)
  go_ret
  exact ⟨rfl, below_grow_n _ _ _⟩

end Go.Proofs.YtnlddjlbioelnaaDoor
