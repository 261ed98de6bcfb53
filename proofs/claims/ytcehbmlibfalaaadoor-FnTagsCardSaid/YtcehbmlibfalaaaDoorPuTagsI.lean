/-
  Plain law: different parts have different encodings. No program in sight.
-/
import Derived.Test.YtcehbmlibfalaaaDoorPuTags
namespace Go.Proofs.YtcehbmlibfalaaaDoor
open Go.RowKit

def oneB : ByteArray := ⟨#[98]⟩
theorem tag_toList (l : List UInt8) : (txt l).toList = l := by rw [ByteArray.toList_eq, txt_data]
theorem tagBody_two (a b : ByteArray) : tagBody [a, b] = varL a.size ++ a.data.toList ++ (varL b.size ++ b.data.toList) := by simp [tagBody]
theorem tagBody_three (a b : ByteArray) : tagBody [a, b, ⟨#[]⟩] = tagBody [a, b] ++ [0] := by
  have e : varL 0 = [0] := varL_small (by omega)
  have h0 : (⟨#[]⟩ : ByteArray).size = 0 := rfl
  simp [tagBody, e, h0]
theorem ofNat_ne {n m : Nat} (hn : n < 256) (hm : m < 256) (h : n ≠ m) : UInt8.ofNat n ≠ UInt8.ofNat m := by
  intro e
  have := congrArg UInt8.toNat e
  simp only [UInt8.toNat_ofNat'] at this
  omega
/-- The four encodings. -/
theorem tags_four {a : ByteArray} {k : Nat} {p : Int} (ha : a.size ≤ 100) (hk : k ≤ a.size) : ∃ x y z v : ByteArray,
    optTxt (tagL (1 + p % 8) [a, oneB]) = .tuple #[.string x, .bool true] ∧
    optTxt (tagL (1 + p % 8) [a.extract 0 k, a.extract k a.size ++ oneB]) = .tuple #[.string y, .bool true] ∧
    optTxt (tagL (1 + (p + 1) % 8) [a, oneB]) = .tuple #[.string z, .bool true] ∧
    optTxt (tagL (1 + p % 8) [a, oneB, ⟨#[]⟩]) = .tuple #[.string v, .bool true] ∧
    (k ≠ a.size → (x.toList == y.toList) = false) ∧ (x.toList == z.toList) = false ∧ (x.toList == v.toList) = false := by
  have h1 : oneB.size = 1 := rfl
  have e0 : (⟨#[]⟩ : ByteArray).size = 0 := rfl
  have s1 : (a.extract 0 k).size = k := by rw [ByteArray.size_extract]; omega
  have s2 : (a.extract k a.size ++ oneB).size = a.size - k + 1 := by rw [ByteArray.size_append, ByteArray.size_extract, h1]; omega
  refine ⟨_, _, _, _, tagL_yes (by omega) (by simp) ?_, tagL_yes (by omega) (by simp) ?_, tagL_yes (by omega) (by simp) ?_, tagL_yes (by omega) (by simp) ?_, fun hne => ?_, ?_, ?_⟩
  · intro q hq
    simp only [List.mem_cons, List.not_mem_nil, or_false] at hq
    rcases hq with rfl | rfl <;> omega
  · intro q hq
    simp only [List.mem_cons, List.not_mem_nil, or_false] at hq
    rcases hq with rfl | rfl <;> omega
  · intro q hq
    simp only [List.mem_cons, List.not_mem_nil, or_false] at hq
    rcases hq with rfl | rfl <;> omega
  · intro q hq
    simp only [List.mem_cons, List.not_mem_nil, or_false] at hq
    rcases hq with rfl | rfl | rfl <;> omega
  · rw [beq_eq_false_iff_ne, tag_toList, tag_toList]
    intro e
    rw [tagBody_two, tagBody_two, varL_small (n := a.size) (by omega), s1, varL_small (n := k) (by omega)] at e
    simp only [List.cons_append, List.nil_append, List.cons.injEq, true_and] at e
    exact ofNat_ne (by omega) (by omega) (fun h => hne h.symm) e.1
  · rw [beq_eq_false_iff_ne, tag_toList, tag_toList]
    intro e
    simp only [List.cons.injEq] at e
    exact ofNat_ne (by omega) (by omega) (by omega) e.1
  · rw [beq_eq_false_iff_ne, tag_toList, tag_toList]
    intro e
    have := congrArg List.length e
    rw [tagBody_three] at this
    simp at this

end Go.Proofs.YtcehbmlibfalaaaDoor
