/-
  A slice of strings that came in, told to a walk.
-/
import Derived.Test.YtcehbmlibfalaaaDoorJFrame
import Derived.Test.YtcehbmlibfalaaaDoorBase4
import Derived.SliceStrings
namespace Go.Proofs.YtcehbmlibfalaaaDoor
open Go.ChangeShapes Go.WideShapes Go.ChangeAt Go.RowKit

/-- A slice of strings that came in: it reads as l. -/
structure IsStrs (w : World) (a : Option Addr) (len cap : Nat) (l : List ByteArray) : Prop where
  size : l.length = len
  most : len ≤ maxLen
  each : ∀ x ∈ l, x.size ≤ maxLen
  rd : RdS w a l

theorem add_spot {w : World} {a : Addr} {v : Value} (h : w.cell? (a.add 0) = some v) : a.spot = none := by
  unfold Addr.add at h
  rw [if_pos rfl] at h
  unfold World.cell? at h
  split at h
  · split at h
    · cases h
    · rename_i hs; simpa using hs
  · cases h

theorem isStrs_of {H : Type} {enc : TypeId × Value → H} {P : Program} {t e : TypeId} (ht : P.underlying t = some (.slice e)) (he : P.underlying e = some .string) (hce : P.cellsOf e = 1)
    {W : World} {a : Option Addr} {len cap : Nat} {d : DataW H} {p : List MemPlace} (h : DataW.Trod enc P W 0 (fun _ => true) true t (.slice a len cap) d p) : ∃ l, IsStrs W a len cap l := by
  obtain ⟨fuel, hf⟩ := h
  rcases open_strings ht he hce hf with ⟨hcs, _⟩ | ⟨x, l, c, zs, hcs, _, hl, hm, hz, _, hcell, hwz⟩
  · simp [Value.cells] at hcs
    obtain ⟨rfl, rfl, rfl⟩ := hcs
    exact ⟨[], rfl, Nat.zero_le _, fun x h => by simp at h, RdS.nil _ _⟩
  · simp [Value.cells] at hcs
    obtain ⟨rfl, rfl, rfl⟩ := hcs
    have hz' : zs.length = cap := by simpa using hz
    refine ⟨zs.take len, by rw [List.length_take]; omega, by omega, fun y hy => hwz y (List.mem_of_mem_take hy), fun j y hy => ?_⟩
    have hj : j < len := by have := (List.getElem?_eq_some_iff.1 hy).1; rw [List.length_take] at this; omega
    have h0 := add_spot (hcell 0 (by omega))
    have hc := hcell j (by omega)
    obtain ⟨b, off, sp⟩ := x
    simp only at h0
    subst h0
    refine ⟨b, off, rfl, ?_⟩
    have e1 : (⟨b, off, none⟩ : Addr).add j = ⟨b, off + j, none⟩ := by
      unfold Addr.add; split
      · next h => rw [h]; rfl
      · rfl
    rw [e1] at hc
    rw [hc]
    rw [List.getElem?_take, if_pos hj] at hy
    rw [List.getD_eq_getElem?_getD, hy]
    rfl

end Go.Proofs.YtcehbmlibfalaaaDoor
