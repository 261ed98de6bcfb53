/-
  The walk of the laws' copy of integers; a slice of integers that came in, as a row that is read.
-/
import Derived.Test.YtcehbmlibfalaaaDoorJInts1
import Derived.Test.YtcehbmlibfalaaaDoorJFrameS
namespace Go.Proofs.YtcehbmlibfalaaaDoor
open Go.RowKit

theorem intC_of {cs : List Value} {l : List Int} (hl : cs.length = l.length) (h : ∀ j, j < l.length → cs[j]? = (l[j]?).map (Value.int .i64)) : cs = intC l := by
  apply List.ext_getElem?
  intro j
  rw [intC_get]
  by_cases hj : j < l.length
  · exact h j hj
  · rw [List.getElem?_eq_none (by omega), List.getElem?_eq_none (by omega)]; rfl

/-- What came in, as a row that is read. -/
theorem rdI_of_row {w : World} {a : Option Addr} {len cap : Nat} {zs : List Int} (h : IsRow .i64 w a len cap zs) : ∃ l, l.length = len ∧ len ≤ maxLen ∧ RdI w a l := by
  rcases h with ⟨rfl, rfl, _, _⟩ | ⟨x, rfl, hlc, hcm, hz, hcell, _⟩
  · exact ⟨[], rfl, Nat.zero_le _, fun j u h => by simp [intC] at h⟩
  · refine ⟨zs.take len, by rw [List.length_take]; omega, by omega, fun j u hu => ?_⟩
    rw [intC_get] at hu
    obtain ⟨y, hy, rfl⟩ := Option.map_eq_some_iff.1 hu
    have hj : j < len := by
      have := (List.getElem?_eq_some_iff.1 hy).1
      rw [List.length_take] at this
      omega
    have h0 := add_spot (hcell 0 (by omega))
    have hc := hcell j (by omega)
    obtain ⟨b, off, sp⟩ := x
    simp only at h0
    subst h0
    refine ⟨b, off, rfl, ?_⟩
    have e1 : (⟨b, off, none⟩ : Addr).add j = ⟨b, off + j, none⟩ := by
      unfold Addr.add; split
      · next h => rw [h]; rfl
      · rfl
    rw [e1] at hc
    rw [hc]
    rw [List.getElem?_take, if_pos hj] at hy
    rw [List.getD_eq_getElem?_getD, hy]
    rfl

theorem OwnI.kept {w w' : World} {B : Nat} {v : Value} {l : List Int} {row : Option Nat} (h : OwnI w B v l) (hg : w.grownBy w' row) (hne : v.ownBlock = none ∨ v.ownBlock ≠ row) : OwnI w' B v l := Own.kept h hg hne
theorem OwnI.block {w : World} {B : Nat} {v : Value} {l : List Int} (h : OwnI w B v l) : ∀ k, v.ownBlock = some k → B ≤ k ∧ k < w.heap.size := Own.block h
/-- Two rows of which one was there when the other was made are apart. -/
theorem apart_of {u v : Value} {C : Nat} (hu : ∀ k, u.ownBlock = some k → k < C) (hv : ∀ k, v.ownBlock = some k → C ≤ k) : v.ownBlock = none ∨ v.ownBlock ≠ u.ownBlock := by
  cases h : v.ownBlock with
  | none => exact .inl rfl
  | some k => exact .inr (fun e => by have := hu k e.symm; have := hv k h; omega)

end Go.Proofs.YtcehbmlibfalaaaDoor
