/-
  What a slice of strings that came in yields to append. No program in sight.
-/
import Derived.Test.YtcehbmlibfalaaaDoorPuStrs
namespace Go.Proofs.YtcehbmlibfalaaaDoor
open Go.RowKit

theorem RdS.src {P : Program} {t e' : TypeId} (ht : P.underlying t = some (.slice e')) {w : World} {ao : Option Addr} {l : List ByteArray} (h : RdS w ao l) (c : Nat) :
    Src P 1 t (.slice ao l.length c) l.length (strC l) w := by
  cases ao with
  | none =>
    cases l with
    | nil => exact Src.ofNil w ht c
    | cons x r => obtain ⟨b, off, he, _⟩ := h 0 x rfl; cases he
  | some a =>
    refine Src.ofSlice _ ht _ _ _ _ (by rw [strC_length, Nat.mul_one]) (fun j u hu => ?_) (strC_one _)
    rw [strC_get] at hu
    obtain ⟨x, hx, rfl⟩ := Option.map_eq_some_iff.1 hu
    obtain ⟨b, off, he, hc⟩ := h j x hx
    cases he
    rw [Addr.add_lit]
    exact hc

end Go.Proofs.YtcehbmlibfalaaaDoor
