/-
  DERIVED. GIVEN WITH THE SEED: THE CARDS: each row of YtbjbengbkdoinaaDoorRows.lean that lists a variable, with what it lists TIED to the program's text (the seventh form; the later family's looks); each row that meets fmt, with fmt's text TOLD by the authors' own Lean function (tested against real Go, not proved from fmt's source: count such statements apart). THE CARD IS WHAT COUNTS. Prove the row's statement (the work); the ties are given (YtbjbengbkdoinaaDoorTie.lean); close each card by the builder's one call (the guide's Derived/Test/ToyasCard.lean, 'card_holds'). Laid BY PROGRAM, IN A SANDBOX (cutbox-door.mjs). By AI agents, Wed Nov 11 2026. No macro, syntax, notation, axiom, sorry.
-/
import Derived.Test.YtbjbengbkdoinaaDoorRows
import GoSem.ClaimSeven
namespace Go.Proofs.YtbjbengbkdoinaaDoor
namespace Rows

/-- THE TIED CARD OF 'laws.FnExactShaBlock'. -/
def fnExactShaBlockCard : Claim7 := { stood := { row := fnExactShaBlockRow, standIns := [], harness := (true, "68d717f51018c5d0e16aa5f755723f26ed7cbbad74d27af04dfabd3170476b04"), looks := false }, kinds := [], alts := [], laidByText := true, laidKinds := [.data], laidTests := true, laidLooks := .later }
def FnExactShaBlockCardSaid : Prop := Claim7.holds Tryd.pinned (.plain (OpenSpec.ofChange fnExactShaBlockSpec)) fnExactShaBlockCard

/-- THE TIED CARD OF 'laws.FnExactDigest'. -/
def fnExactDigestCard : Claim7 := { stood := { row := fnExactDigestRow, standIns := [], harness := (true, "68d717f51018c5d0e16aa5f755723f26ed7cbbad74d27af04dfabd3170476b04"), looks := false }, kinds := [], alts := [], laidByText := true, laidKinds := [.data, .data], laidTests := true, laidLooks := .later }
def FnExactDigestCardSaid : Prop := Claim7.holds Tryd.pinned (.plain (OpenSpec.ofChange fnExactDigestSpec)) fnExactDigestCard

/-- THE TIED CARD OF 'laws.FnExactCutDigest'. -/
def fnExactCutDigestCard : Claim7 := { stood := { row := fnExactCutDigestRow, standIns := [], harness := (true, "68d717f51018c5d0e16aa5f755723f26ed7cbbad74d27af04dfabd3170476b04"), looks := false }, kinds := [], alts := [], laidByText := true, laidKinds := [.data, .data], laidTests := true, laidLooks := .later }
def FnExactCutDigestCardSaid : Prop := Claim7.holds Tryd.pinned (.plain (OpenSpec.ofChange fnExactCutDigestSpec)) fnExactCutDigestCard

/-- THE TIED CARD OF 'laws.FnExactDigestHex'. -/
def fnExactDigestHexCard : Claim7 := { stood := { row := fnExactDigestHexRow, standIns := [], harness := (true, "68d717f51018c5d0e16aa5f755723f26ed7cbbad74d27af04dfabd3170476b04"), looks := false }, kinds := [], alts := [], laidByText := true, laidKinds := [.data, .data], laidTests := true, laidLooks := .later }
def FnExactDigestHexCardSaid : Prop := Claim7.holds Tryd.pinned (.plain (OpenSpec.ofChange fnExactDigestHexSpec)) fnExactDigestHexCard

/-- THE TIED CARD OF 'laws.FnExactIndexOf'. -/
def fnExactIndexOfCard : Claim7 := { stood := { row := fnExactIndexOfRow, standIns := [], harness := (true, "68d717f51018c5d0e16aa5f755723f26ed7cbbad74d27af04dfabd3170476b04"), looks := false }, kinds := [], alts := [], laidByText := true, laidKinds := [.data, .data], laidTests := true, laidLooks := .later }
def FnExactIndexOfCardSaid : Prop := Claim7.holds Tryd.pinned (.plain (OpenSpec.ofChange fnExactIndexOfSpec)) fnExactIndexOfCard

/-- THE TIED CARD OF 'laws.FnKnown'. -/
def fnKnownCard : Claim7 := { stood := { row := fnKnownRow, standIns := [], harness := (true, "68d717f51018c5d0e16aa5f755723f26ed7cbbad74d27af04dfabd3170476b04"), looks := false }, kinds := [], alts := [], laidByText := true, laidKinds := [.data, .data], laidTests := true, laidLooks := .later }
def FnKnownCardSaid : Prop := Claim7.holds Tryd.pinned (.plain (OpenSpec.ofChange fnKnownSpec)) fnKnownCard

/-- THE TIED CARD OF 'laws.FnDigestTurned'. -/
def fnDigestTurnedCard : Claim7 := { stood := { row := fnDigestTurnedRow, standIns := [], harness := (true, "68d717f51018c5d0e16aa5f755723f26ed7cbbad74d27af04dfabd3170476b04"), looks := false }, kinds := [], alts := [], laidByText := true, laidKinds := [.data, .data], laidTests := true, laidLooks := .later }
def FnDigestTurnedCardSaid : Prop := Claim7.holds Tryd.pinned (.plain (OpenSpec.ofChange fnDigestTurnedSpec)) fnDigestTurnedCard

/-- THE TIED CARD OF 'laws.FnExactTagHash'. -/
def fnExactTagHashCard : Claim7 := { stood := { row := fnExactTagHashRow, standIns := [], harness := (true, "68d717f51018c5d0e16aa5f755723f26ed7cbbad74d27af04dfabd3170476b04"), looks := false }, kinds := [], alts := [], laidByText := true, laidKinds := [.data, .data], laidTests := true, laidLooks := .later }
def FnExactTagHashCardSaid : Prop := Claim7.holds Tryd.pinned (.plain (OpenSpec.ofChange fnExactTagHashSpec)) fnExactTagHashCard

/-- THE TIED CARD OF 'laws.FnExactLockOf'. -/
def fnExactLockOfCard : Claim7 := { stood := { row := fnExactLockOfRow, standIns := [], harness := (true, "68d717f51018c5d0e16aa5f755723f26ed7cbbad74d27af04dfabd3170476b04"), looks := false }, kinds := [], alts := [], laidByText := true, laidKinds := [.data, .data], laidTests := true, laidLooks := .later }
def FnExactLockOfCardSaid : Prop := Claim7.holds Tryd.pinned (.plain (OpenSpec.ofChange fnExactLockOfSpec)) fnExactLockOfCard

/-- THE TIED CARD OF 'laws.FnExactSecretOf'. -/
def fnExactSecretOfCard : Claim7 := { stood := { row := fnExactSecretOfRow, standIns := [], harness := (true, "68d717f51018c5d0e16aa5f755723f26ed7cbbad74d27af04dfabd3170476b04"), looks := false }, kinds := [], alts := [], laidByText := true, laidKinds := [.data, .data], laidTests := true, laidLooks := .later }
def FnExactSecretOfCardSaid : Prop := Claim7.holds Tryd.pinned (.plain (OpenSpec.ofChange fnExactSecretOfSpec)) fnExactSecretOfCard

/-- THE TIED CARD OF 'laws.FnExactSignBitsOf'. -/
def fnExactSignBitsOfCard : Claim7 := { stood := { row := fnExactSignBitsOfRow, standIns := [], harness := (true, "68d717f51018c5d0e16aa5f755723f26ed7cbbad74d27af04dfabd3170476b04"), looks := false }, kinds := [], alts := [], laidByText := true, laidKinds := [.data, .data], laidTests := true, laidLooks := .later }
def FnExactSignBitsOfCardSaid : Prop := Claim7.holds Tryd.pinned (.plain (OpenSpec.ofChange fnExactSignBitsOfSpec)) fnExactSignBitsOfCard

/-- THE TIED CARD OF 'laws.FnIndexes'. -/
def fnIndexesCard : Claim7 := { stood := { row := fnIndexesRow, standIns := [], harness := (true, "68d717f51018c5d0e16aa5f755723f26ed7cbbad74d27af04dfabd3170476b04"), looks := false }, kinds := [], alts := [], laidByText := true, laidKinds := [.data, .data], laidTests := true, laidLooks := .later }
def FnIndexesCardSaid : Prop := Claim7.holds Tryd.pinned (.plain (OpenSpec.ofChange fnIndexesSpec)) fnIndexesCard

/-- THE SECOND FORM's CARD OF 'laws.FnExactShaBlock'. -/
def fnExactShaBlockUptoCard : Claim7 := { stood := { row := fnExactShaBlockUptoRow, standIns := [], harness := (true, "68d717f51018c5d0e16aa5f755723f26ed7cbbad74d27af04dfabd3170476b04"), looks := false }, kinds := [], alts := [], laidByText := true, laidKinds := [.data], laidTests := true, laidLooks := .later }
def FnExactShaBlockUptoCardSaid : Prop := Claim7.holds Tryd.pinned (.plain (OpenSpec.upto fnExactShaBlockSpec)) fnExactShaBlockUptoCard

/-- THE SECOND FORM's CARD OF 'laws.FnExactDigest'. -/
def fnExactDigestUptoCard : Claim7 := { stood := { row := fnExactDigestUptoRow, standIns := [], harness := (true, "68d717f51018c5d0e16aa5f755723f26ed7cbbad74d27af04dfabd3170476b04"), looks := false }, kinds := [], alts := [], laidByText := true, laidKinds := [.data, .data], laidTests := true, laidLooks := .later }
def FnExactDigestUptoCardSaid : Prop := Claim7.holds Tryd.pinned (.plain (OpenSpec.upto fnExactDigestSpec)) fnExactDigestUptoCard

/-- THE SECOND FORM's CARD OF 'laws.FnExactCutDigest'. -/
def fnExactCutDigestUptoCard : Claim7 := { stood := { row := fnExactCutDigestUptoRow, standIns := [], harness := (true, "68d717f51018c5d0e16aa5f755723f26ed7cbbad74d27af04dfabd3170476b04"), looks := false }, kinds := [], alts := [], laidByText := true, laidKinds := [.data, .data], laidTests := true, laidLooks := .later }
def FnExactCutDigestUptoCardSaid : Prop := Claim7.holds Tryd.pinned (.plain (OpenSpec.upto fnExactCutDigestSpec)) fnExactCutDigestUptoCard

/-- THE SECOND FORM's CARD OF 'laws.FnExactDigestHex'. -/
def fnExactDigestHexUptoCard : Claim7 := { stood := { row := fnExactDigestHexUptoRow, standIns := [], harness := (true, "68d717f51018c5d0e16aa5f755723f26ed7cbbad74d27af04dfabd3170476b04"), looks := false }, kinds := [], alts := [], laidByText := true, laidKinds := [.data, .data], laidTests := true, laidLooks := .later }
def FnExactDigestHexUptoCardSaid : Prop := Claim7.holds Tryd.pinned (.plain (OpenSpec.upto fnExactDigestHexSpec)) fnExactDigestHexUptoCard

/-- THE SECOND FORM's CARD OF 'laws.FnExactIndexOf'. -/
def fnExactIndexOfUptoCard : Claim7 := { stood := { row := fnExactIndexOfUptoRow, standIns := [], harness := (true, "68d717f51018c5d0e16aa5f755723f26ed7cbbad74d27af04dfabd3170476b04"), looks := false }, kinds := [], alts := [], laidByText := true, laidKinds := [.data, .data], laidTests := true, laidLooks := .later }
def FnExactIndexOfUptoCardSaid : Prop := Claim7.holds Tryd.pinned (.plain (OpenSpec.upto fnExactIndexOfSpec)) fnExactIndexOfUptoCard

/-- THE SECOND FORM's CARD OF 'laws.FnKnown'. -/
def fnKnownUptoCard : Claim7 := { stood := { row := fnKnownUptoRow, standIns := [], harness := (true, "68d717f51018c5d0e16aa5f755723f26ed7cbbad74d27af04dfabd3170476b04"), looks := false }, kinds := [], alts := [], laidByText := true, laidKinds := [.data, .data], laidTests := true, laidLooks := .later }
def FnKnownUptoCardSaid : Prop := Claim7.holds Tryd.pinned (.plain (OpenSpec.upto fnKnownSpec)) fnKnownUptoCard

/-- THE SECOND FORM's CARD OF 'laws.FnDigestTurned'. -/
def fnDigestTurnedUptoCard : Claim7 := { stood := { row := fnDigestTurnedUptoRow, standIns := [], harness := (true, "68d717f51018c5d0e16aa5f755723f26ed7cbbad74d27af04dfabd3170476b04"), looks := false }, kinds := [], alts := [], laidByText := true, laidKinds := [.data, .data], laidTests := true, laidLooks := .later }
def FnDigestTurnedUptoCardSaid : Prop := Claim7.holds Tryd.pinned (.plain (OpenSpec.upto fnDigestTurnedSpec)) fnDigestTurnedUptoCard

/-- THE SECOND FORM's CARD OF 'laws.FnExactTagHash'. -/
def fnExactTagHashUptoCard : Claim7 := { stood := { row := fnExactTagHashUptoRow, standIns := [], harness := (true, "68d717f51018c5d0e16aa5f755723f26ed7cbbad74d27af04dfabd3170476b04"), looks := false }, kinds := [], alts := [], laidByText := true, laidKinds := [.data, .data], laidTests := true, laidLooks := .later }
def FnExactTagHashUptoCardSaid : Prop := Claim7.holds Tryd.pinned (.plain (OpenSpec.upto fnExactTagHashSpec)) fnExactTagHashUptoCard

/-- THE SECOND FORM's CARD OF 'laws.FnExactLockOf'. -/
def fnExactLockOfUptoCard : Claim7 := { stood := { row := fnExactLockOfUptoRow, standIns := [], harness := (true, "68d717f51018c5d0e16aa5f755723f26ed7cbbad74d27af04dfabd3170476b04"), looks := false }, kinds := [], alts := [], laidByText := true, laidKinds := [.data, .data], laidTests := true, laidLooks := .later }
def FnExactLockOfUptoCardSaid : Prop := Claim7.holds Tryd.pinned (.plain (OpenSpec.upto fnExactLockOfSpec)) fnExactLockOfUptoCard

/-- THE SECOND FORM's CARD OF 'laws.FnExactSecretOf'. -/
def fnExactSecretOfUptoCard : Claim7 := { stood := { row := fnExactSecretOfUptoRow, standIns := [], harness := (true, "68d717f51018c5d0e16aa5f755723f26ed7cbbad74d27af04dfabd3170476b04"), looks := false }, kinds := [], alts := [], laidByText := true, laidKinds := [.data, .data], laidTests := true, laidLooks := .later }
def FnExactSecretOfUptoCardSaid : Prop := Claim7.holds Tryd.pinned (.plain (OpenSpec.upto fnExactSecretOfSpec)) fnExactSecretOfUptoCard

/-- THE SECOND FORM's CARD OF 'laws.FnExactSignBitsOf'. -/
def fnExactSignBitsOfUptoCard : Claim7 := { stood := { row := fnExactSignBitsOfUptoRow, standIns := [], harness := (true, "68d717f51018c5d0e16aa5f755723f26ed7cbbad74d27af04dfabd3170476b04"), looks := false }, kinds := [], alts := [], laidByText := true, laidKinds := [.data, .data], laidTests := true, laidLooks := .later }
def FnExactSignBitsOfUptoCardSaid : Prop := Claim7.holds Tryd.pinned (.plain (OpenSpec.upto fnExactSignBitsOfSpec)) fnExactSignBitsOfUptoCard

/-- THE SECOND FORM's CARD OF 'laws.FnIndexes'. -/
def fnIndexesUptoCard : Claim7 := { stood := { row := fnIndexesUptoRow, standIns := [], harness := (true, "68d717f51018c5d0e16aa5f755723f26ed7cbbad74d27af04dfabd3170476b04"), looks := false }, kinds := [], alts := [], laidByText := true, laidKinds := [.data, .data], laidTests := true, laidLooks := .later }
def FnIndexesUptoCardSaid : Prop := Claim7.holds Tryd.pinned (.plain (OpenSpec.upto fnIndexesSpec)) fnIndexesUptoCard
end Rows
end Go.Proofs.YtbjbengbkdoinaaDoor
