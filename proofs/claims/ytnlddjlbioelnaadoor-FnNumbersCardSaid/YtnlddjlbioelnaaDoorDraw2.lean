/-
  The walks of the draws of numbers, texts, names and places.
-/
import Derived.Test.YtnlddjlbioelnaaDoorDraw1
import Derived.Test.YtnlddjlbioelnaaDoorInts1
import Derived.Test.YtnlddjlbioelnaaDoorStrs1
namespace Go.Proofs.YtnlddjlbioelnaaDoor
open Go.RowKit

/-- Twelve numbers below 10000 are handed back. -/
def DrewPlaces (w : World) (e : Ending) (w' : World) : Prop := (∃ v l, e = .returned v ∧ OwnI w' w.heap.size v l ∧ l.length = 12 ∧ ∀ x ∈ l, 0 ≤ x ∧ x ≤ 9999) ∧ Below w.heap.size w w'
/-- A string is handed back. -/
def DrewS (p : ByteArray → Prop) (w : World) (e : Ending) (w' : World) : Prop := (∃ s, p s ∧ e = .returned (.string s)) ∧ Below w.heap.size w w'

theorem big_yes (ao : Option Addr) (cap n : Nat) (w : World) (h : 1048576 < n) (h' : n ≤ 9223372036854775807) : Calls Tryd.prog 10 #[.slice ao n cap] w fun e w' => e = .returned (.bool true) ∧ w = w' := by
  have h1 : decide ((1048576 : Int) < n) = true := decide_eq_true (by omega)
  go_enter Tryd.func10, Tryd.ntmps10
  go_wp2_with fail
  go_ret
  exact ⟨by simp, rfl⟩
theorem big_no (ao : Option Addr) (cap n : Nat) (w : World) (h : n ≤ 1048576) : Calls Tryd.prog 10 #[.slice ao n cap] w fun e w' => e = .returned (.bool false) ∧ w = w' := by
  have h1 : decide ((1048576 : Int) < n) = false := decide_eq_false (by omega)
  go_enter Tryd.func10, Tryd.ntmps10
  go_wp2_with fail
  go_ret
  exact ⟨by simp, rfl⟩

end Go.Proofs.YtnlddjlbioelnaaDoor
