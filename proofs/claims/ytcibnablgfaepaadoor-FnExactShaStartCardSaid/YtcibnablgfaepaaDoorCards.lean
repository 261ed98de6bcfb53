/-
  DERIVED. GIVEN WITH THE SEED: THE CARDS: each row of YtcibnablgfaepaaDoorRows.lean that lists a variable, with what it lists TIED to the program's text (the seventh form; the later family's looks); each row that meets fmt, with fmt's text TOLD by the authors' own Lean function (tested against real Go, not proved from fmt's source: count such statements apart). THE CARD IS WHAT COUNTS. Prove the row's statement (the work); the ties are given (YtcibnablgfaepaaDoorTie.lean); close each card by the builder's one call (the guide's Derived/Test/ToyasCard.lean, 'card_holds'). Laid BY PROGRAM, IN A SANDBOX (cutbox-door.mjs). By AI agents, Wed Nov 11 2026. No macro, syntax, notation, axiom, sorry.
-/
import Derived.Test.YtcibnablgfaepaaDoorRows
import GoSem.ClaimSeven
namespace Go.Proofs.YtcibnablgfaepaaDoor
namespace Rows

/-- THE TIED CARD OF 'laws.FnExactShaStart'. -/
def fnExactShaStartCard : Claim7 := { stood := { row := fnExactShaStartRow, standIns := [], harness := (true, "1a5d079be50096bd9ed244af4c86a4239790b18d4c507c5da66ca3aa88225ee9"), looks := false }, kinds := [], alts := [], laidByText := true, laidKinds := [.data], laidTests := true, laidLooks := .later }
def FnExactShaStartCardSaid : Prop := Claim7.holds Tryd.pinned (.plain (OpenSpec.ofChange fnExactShaStartSpec)) fnExactShaStartCard

/-- THE SECOND FORM's CARD OF 'laws.FnExactShaStart'. -/
def fnExactShaStartUptoCard : Claim7 := { stood := { row := fnExactShaStartUptoRow, standIns := [], harness := (true, "1a5d079be50096bd9ed244af4c86a4239790b18d4c507c5da66ca3aa88225ee9"), looks := false }, kinds := [], alts := [], laidByText := true, laidKinds := [.data], laidTests := true, laidLooks := .later }
def FnExactShaStartUptoCardSaid : Prop := Claim7.holds Tryd.pinned (.plain (OpenSpec.upto fnExactShaStartSpec)) fnExactShaStartUptoCard
end Rows
end Go.Proofs.YtcibnablgfaepaaDoor
