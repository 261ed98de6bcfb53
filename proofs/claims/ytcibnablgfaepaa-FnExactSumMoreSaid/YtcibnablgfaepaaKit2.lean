/-
  The kit of this set, its second part: cuts of strings, told ahead of a walk.
-/
import Derived.Test.YtcibnablgfaepaaKit
namespace Go.Proofs.Ytcibnablgfaepaa
open Go.RowKit

section
variable {P : Program}

/-- 's[i:j]', the two places as they stand in the walk, their numbers a and b. -/
theorem cut_str {t : TypeId} (ht : P.underlying t = some .string) (s : ByteArray) (i j : Int) (a b : Nat) (hi : i = a) (hj : j = b) (h : a ≤ b) (hb : b ≤ s.size) (w : World) :
    (Instr.slice t (.string s) (some (.int .i64 i)) (some (.int .i64 j)) none).run P w = .ok (.string (s.extract a b)) w := by
  subst hi; subst hj
  have := run_slice_string (P := P) w t s .i64 .i64 (a : Int) (b : Int) ht (by omega) (by omega) (by omega)
  simpa using this

end

theorem val_int {k : IntKind} {a b : Int} (h : a = b) : Value.int k a = Value.int k b := by rw [h]
theorem ret_val {a b : Value} (h : a = b) : Ending.returned a = Ending.returned b := by rw [h]

theorem extract_list (s : ByteArray) (a b : Nat) : (s.extract a b).data.toList = (s.data.toList.drop a).take (b - a) := Lib.extract_data s a b

theorem extract_txt (s : ByteArray) (a b : Nat) : s.extract a b = txt ((s.data.toList.drop a).take (b - a)) := by
  rw [← extract_list, txt_toList]

/-- How the walk tells that two strings are one. -/
theorem same_toList (l m : List UInt8) : ((txt l).toList == (txt m).toList) = (l == m) := by
  have e : ∀ x : List UInt8, (txt x).toList = x := fun x => by rw [ByteArray.toList_eq]; simp [txt]
  rw [e, e]

end Go.Proofs.Ytcibnablgfaepaa
