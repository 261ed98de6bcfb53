/-
  Bytes that came in, as a draw's bytes.
-/
import Derived.Test.YtcehbmlibfalaaaDoorJFrameS
import Derived.Test.YtcehbmlibfalaaaDoorBase7
namespace Go.Proofs.YtcehbmlibfalaaaDoor
open Go.RowKit

theorem bytes_of_row {w : World} {a : Option Addr} {len cap : Nat} {zs : List Int} (h : IsRow .u8 w a len cap zs) : len ≤ maxLen ∧ Bytes w a len := by
  rcases h with ⟨rfl, rfl, _, _⟩ | ⟨x, rfl, hlc, hcm, hz, hcell, hwf⟩
  · exact ⟨Nat.zero_le _, fun j hj => by omega⟩
  · refine ⟨by omega, fun j hj => ?_⟩
    have h0 := add_spot (hcell 0 (by omega))
    have hc := hcell j (by omega)
    obtain ⟨b, off, sp⟩ := x
    simp only at h0
    subst h0
    have e1 : (⟨b, off, none⟩ : Addr).add j = ⟨b, off + j, none⟩ := by
      unfold Addr.add; split
      · next h => rw [h]; rfl
      · rfl
    rw [e1] at hc
    have hm : zs.getD j 0 ∈ zs := by
      rw [List.getD_eq_getElem?_getD, List.getElem?_eq_getElem (by omega : j < zs.length)]
      exact List.getElem_mem _
    have hw := hwf _ hm
    have hx : 0 ≤ zs.getD j 0 ∧ zs.getD j 0 ≤ 255 := by simpa [Lit.wf, IntKind.min, IntKind.max, IntKind.signed, IntKind.bits] using hw
    exact ⟨b, off, _, rfl, hx.1, hx.2, hc⟩

end Go.Proofs.YtcehbmlibfalaaaDoor
