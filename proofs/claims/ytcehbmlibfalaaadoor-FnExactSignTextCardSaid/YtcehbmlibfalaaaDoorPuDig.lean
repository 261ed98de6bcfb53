/-
  Plain law: eight words as 32 bytes. No program in sight.
-/
import Derived.Test.YtcehbmlibfalaaaDoorPuArr
import Derived.Test.YtcehbmlibfalaaaDoorPuTags
namespace Go.Proofs.YtcehbmlibfalaaaDoor
open Go.RowKit

theorem be32s_append (l m : List Nat) : be32s (l ++ m) = be32s l ++ be32s m := by simp [be32s]
theorem be32s_prefix (l : List Nat) (k : Nat) (hk : k ≤ l.length) : (be32s l).take (4 * k) = be32s (l.take k) := by
  have e : be32s l = be32s (l.take k) ++ be32s (l.drop k) := by rw [← be32s_append, List.take_append_drop]
  rw [e]
  exact List.take_left' (by rw [be32s_length, List.length_take]; omega)
theorem be32s_take (l : List Nat) (k : Nat) (x : Nat) (hx : l[k]? = some x) : (be32s l).take (4 * k + 4) = (be32s l).take (4 * k) ++ be32 x := by
  have hk : k < l.length := (List.getElem?_eq_some_iff.1 hx).1
  rw [show 4 * k + 4 = 4 * (k + 1) by omega, be32s_prefix l (k + 1) (by omega), be32s_prefix l k (by omega), List.take_add_one, hx, be32s_append]
  simp [be32s]

theorem set4_take {cs A : List Value} {k : Nat} {a b c d : Value} (hl : cs.length = 32) (hk : 4 * k + 4 ≤ 32) (hA : cs.take (4 * k) = A) :
    ((((cs.set (4 * k) a).set (4 * k + 1) b).set (4 * k + 2) c).set (4 * k + 3) d).take (4 * k + 4) = A ++ [a, b, c, d] := by
  subst hA
  apply List.ext_getElem?
  intro j
  have hAl : (cs.take (4 * k)).length = 4 * k := by rw [List.length_take]; omega
  by_cases h1 : j < 4 * k
  · rw [List.getElem?_append_left (by omega), List.getElem?_take, if_pos (by omega), List.getElem?_set_ne (by omega), List.getElem?_set_ne (by omega), List.getElem?_set_ne (by omega), List.getElem?_set_ne (by omega), List.getElem?_take, if_pos h1]
  · rw [List.getElem?_append_right (by omega), hAl]
    by_cases h2 : j < 4 * k + 4
    · rw [List.getElem?_take, if_pos h2]
      rcases (show j = 4 * k ∨ j = 4 * k + 1 ∨ j = 4 * k + 2 ∨ j = 4 * k + 3 by omega) with rfl | rfl | rfl | rfl
      · rw [List.getElem?_set_ne (by omega), List.getElem?_set_ne (by omega), List.getElem?_set_ne (by omega), List.getElem?_set_self (by omega), Nat.sub_self]; rfl
      · rw [List.getElem?_set_ne (by omega), List.getElem?_set_ne (by omega), List.getElem?_set_self (by simp; omega), show 4 * k + 1 - 4 * k = 1 by omega]; rfl
      · rw [List.getElem?_set_ne (by omega), List.getElem?_set_self (by simp; omega), show 4 * k + 2 - 4 * k = 2 by omega]; rfl
      · rw [List.getElem?_set_self (by simp; omega), show 4 * k + 3 - 4 * k = 3 by omega]; rfl
    · rw [List.getElem?_take, if_neg h2, List.getElem?_eq_none (by simp; omega)]

theorem W8.toL_at (s : W8) (j : Nat) (hj : j < 8) : s.toL[j]? = some (s.at_ j) := by
  rcases (show j = 0 ∨ j = 1 ∨ j = 2 ∨ j = 3 ∨ j = 4 ∨ j = 5 ∨ j = 6 ∨ j = 7 by omega) with rfl | rfl | rfl | rfl | rfl | rfl | rfl | rfl <;> rfl
theorem u8s_take (l : List UInt8) (k : Nat) : (u8s l).take k = u8s (l.take k) := by simp [u8s]

end Go.Proofs.YtcehbmlibfalaaaDoor
