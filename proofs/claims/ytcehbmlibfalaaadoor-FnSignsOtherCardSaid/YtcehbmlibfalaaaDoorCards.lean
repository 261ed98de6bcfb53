/-
  DERIVED. GIVEN WITH THE SEED: THE CARDS: each row of YtcehbmlibfalaaaDoorRows.lean that lists a variable, with what it lists TIED to the program's text (the seventh form; the later family's looks); each row that meets fmt, with fmt's text TOLD by the authors' own Lean function (tested against real Go, not proved from fmt's source: count such statements apart). THE CARD IS WHAT COUNTS. Prove the row's statement (the work); the ties are given (YtcehbmlibfalaaaDoorTie.lean); close each card by the builder's one call (the guide's Derived/Test/ToyasCard.lean, 'card_holds'). Laid BY PROGRAM, IN A SANDBOX (cutbox-door.mjs). By AI agents, Wed Nov 11 2026. No macro, syntax, notation, axiom, sorry.
-/
import Derived.Test.YtcehbmlibfalaaaDoorRows
import GoSem.ClaimSeven
namespace Go.Proofs.YtcehbmlibfalaaaDoor
namespace Rows

/-- THE TIED CARD OF 'laws.FnExactPublicOf'. -/
def fnExactPublicOfCard : Claim7 := { stood := { row := fnExactPublicOfRow, standIns := [], harness := (true, "666cb4f4428aff5c31f6678701d5110acce2318c22e2455880366a0fb6b7c068"), looks := false }, kinds := [], alts := [], laidByText := true, laidKinds := [.data, .data], laidTests := true, laidLooks := .later }
def FnExactPublicOfCardSaid : Prop := Claim7.holds Tryd.pinned (.plain (OpenSpec.ofChange fnExactPublicOfSpec)) fnExactPublicOfCard

/-- THE TIED CARD OF 'laws.FnExactPoolRoot'. -/
def fnExactPoolRootCard : Claim7 := { stood := { row := fnExactPoolRootRow, standIns := [], harness := (true, "666cb4f4428aff5c31f6678701d5110acce2318c22e2455880366a0fb6b7c068"), looks := false }, kinds := [], alts := [], laidByText := true, laidKinds := [.data, .data], laidTests := true, laidLooks := .later }
def FnExactPoolRootCardSaid : Prop := Claim7.holds Tryd.pinned (.plain (OpenSpec.ofChange fnExactPoolRootSpec)) fnExactPoolRootCard

/-- THE TIED CARD OF 'laws.FnExactPoolOf'. -/
def fnExactPoolOfCard : Claim7 := { stood := { row := fnExactPoolOfRow, standIns := [], harness := (true, "666cb4f4428aff5c31f6678701d5110acce2318c22e2455880366a0fb6b7c068"), looks := false }, kinds := [], alts := [], laidByText := true, laidKinds := [.data, .data], laidTests := true, laidLooks := .later }
def FnExactPoolOfCardSaid : Prop := Claim7.holds Tryd.pinned (.plain (OpenSpec.ofChange fnExactPoolOfSpec)) fnExactPoolOfCard

/-- THE TIED CARD OF 'laws.FnTags'. -/
def fnTagsCard : Claim7 := { stood := { row := fnTagsRow, standIns := [], harness := (true, "666cb4f4428aff5c31f6678701d5110acce2318c22e2455880366a0fb6b7c068"), looks := false }, kinds := [], alts := [], laidByText := true, laidKinds := [.data, .data], laidTests := true, laidLooks := .later }
def FnTagsCardSaid : Prop := Claim7.holds Tryd.pinned (.plain (OpenSpec.ofChange fnTagsSpec)) fnTagsCard

/-- THE TIED CARD OF 'laws.FnExactSigOk'. -/
def fnExactSigOkCard : Claim7 := { stood := { row := fnExactSigOkRow, standIns := [], harness := (true, "666cb4f4428aff5c31f6678701d5110acce2318c22e2455880366a0fb6b7c068"), looks := false }, kinds := [], alts := [], laidByText := true, laidKinds := [.data, .data], laidTests := true, laidLooks := .later }
def FnExactSigOkCardSaid : Prop := Claim7.holds Tryd.pinned (.plain (OpenSpec.ofChange fnExactSigOkSpec)) fnExactSigOkCard

/-- THE TIED CARD OF 'laws.FnExactSigTexts'. -/
def fnExactSigTextsCard : Claim7 := { stood := { row := fnExactSigTextsRow, standIns := [], harness := (true, "666cb4f4428aff5c31f6678701d5110acce2318c22e2455880366a0fb6b7c068"), looks := false }, kinds := [], alts := [], laidByText := true, laidKinds := [.data, .data], laidTests := true, laidLooks := .later }
def FnExactSigTextsCardSaid : Prop := Claim7.holds Tryd.pinned (.plain (OpenSpec.ofChange fnExactSigTextsSpec)) fnExactSigTextsCard

/-- THE TIED CARD OF 'laws.FnExactSignText'. -/
def fnExactSignTextCard : Claim7 := { stood := { row := fnExactSignTextRow, standIns := [], harness := (true, "666cb4f4428aff5c31f6678701d5110acce2318c22e2455880366a0fb6b7c068"), looks := false }, kinds := [], alts := [], laidByText := true, laidKinds := [.data, .data], laidTests := true, laidLooks := .later }
def FnExactSignTextCardSaid : Prop := Claim7.holds Tryd.pinned (.plain (OpenSpec.ofChange fnExactSignTextSpec)) fnExactSignTextCard

/-- THE TIED CARD OF 'laws.FnSignsOther'. -/
def fnSignsOtherCard : Claim7 := { stood := { row := fnSignsOtherRow, standIns := [], harness := (true, "666cb4f4428aff5c31f6678701d5110acce2318c22e2455880366a0fb6b7c068"), looks := false }, kinds := [], alts := [], laidByText := true, laidKinds := [.data, .data], laidTests := true, laidLooks := .later }
def FnSignsOtherCardSaid : Prop := Claim7.holds Tryd.pinned (.plain (OpenSpec.ofChange fnSignsOtherSpec)) fnSignsOtherCard

/-- THE SECOND FORM's CARD OF 'laws.FnExactPublicOf'. -/
def fnExactPublicOfUptoCard : Claim7 := { stood := { row := fnExactPublicOfUptoRow, standIns := [], harness := (true, "666cb4f4428aff5c31f6678701d5110acce2318c22e2455880366a0fb6b7c068"), looks := false }, kinds := [], alts := [], laidByText := true, laidKinds := [.data, .data], laidTests := true, laidLooks := .later }
def FnExactPublicOfUptoCardSaid : Prop := Claim7.holds Tryd.pinned (.plain (OpenSpec.upto fnExactPublicOfSpec)) fnExactPublicOfUptoCard

/-- THE SECOND FORM's CARD OF 'laws.FnExactPoolRoot'. -/
def fnExactPoolRootUptoCard : Claim7 := { stood := { row := fnExactPoolRootUptoRow, standIns := [], harness := (true, "666cb4f4428aff5c31f6678701d5110acce2318c22e2455880366a0fb6b7c068"), looks := false }, kinds := [], alts := [], laidByText := true, laidKinds := [.data, .data], laidTests := true, laidLooks := .later }
def FnExactPoolRootUptoCardSaid : Prop := Claim7.holds Tryd.pinned (.plain (OpenSpec.upto fnExactPoolRootSpec)) fnExactPoolRootUptoCard

/-- THE SECOND FORM's CARD OF 'laws.FnExactPoolOf'. -/
def fnExactPoolOfUptoCard : Claim7 := { stood := { row := fnExactPoolOfUptoRow, standIns := [], harness := (true, "666cb4f4428aff5c31f6678701d5110acce2318c22e2455880366a0fb6b7c068"), looks := false }, kinds := [], alts := [], laidByText := true, laidKinds := [.data, .data], laidTests := true, laidLooks := .later }
def FnExactPoolOfUptoCardSaid : Prop := Claim7.holds Tryd.pinned (.plain (OpenSpec.upto fnExactPoolOfSpec)) fnExactPoolOfUptoCard

/-- THE SECOND FORM's CARD OF 'laws.FnTags'. -/
def fnTagsUptoCard : Claim7 := { stood := { row := fnTagsUptoRow, standIns := [], harness := (true, "666cb4f4428aff5c31f6678701d5110acce2318c22e2455880366a0fb6b7c068"), looks := false }, kinds := [], alts := [], laidByText := true, laidKinds := [.data, .data], laidTests := true, laidLooks := .later }
def FnTagsUptoCardSaid : Prop := Claim7.holds Tryd.pinned (.plain (OpenSpec.upto fnTagsSpec)) fnTagsUptoCard

/-- THE SECOND FORM's CARD OF 'laws.FnExactSigOk'. -/
def fnExactSigOkUptoCard : Claim7 := { stood := { row := fnExactSigOkUptoRow, standIns := [], harness := (true, "666cb4f4428aff5c31f6678701d5110acce2318c22e2455880366a0fb6b7c068"), looks := false }, kinds := [], alts := [], laidByText := true, laidKinds := [.data, .data], laidTests := true, laidLooks := .later }
def FnExactSigOkUptoCardSaid : Prop := Claim7.holds Tryd.pinned (.plain (OpenSpec.upto fnExactSigOkSpec)) fnExactSigOkUptoCard

/-- THE SECOND FORM's CARD OF 'laws.FnExactSigTexts'. -/
def fnExactSigTextsUptoCard : Claim7 := { stood := { row := fnExactSigTextsUptoRow, standIns := [], harness := (true, "666cb4f4428aff5c31f6678701d5110acce2318c22e2455880366a0fb6b7c068"), looks := false }, kinds := [], alts := [], laidByText := true, laidKinds := [.data, .data], laidTests := true, laidLooks := .later }
def FnExactSigTextsUptoCardSaid : Prop := Claim7.holds Tryd.pinned (.plain (OpenSpec.upto fnExactSigTextsSpec)) fnExactSigTextsUptoCard

/-- THE SECOND FORM's CARD OF 'laws.FnExactSignText'. -/
def fnExactSignTextUptoCard : Claim7 := { stood := { row := fnExactSignTextUptoRow, standIns := [], harness := (true, "666cb4f4428aff5c31f6678701d5110acce2318c22e2455880366a0fb6b7c068"), looks := false }, kinds := [], alts := [], laidByText := true, laidKinds := [.data, .data], laidTests := true, laidLooks := .later }
def FnExactSignTextUptoCardSaid : Prop := Claim7.holds Tryd.pinned (.plain (OpenSpec.upto fnExactSignTextSpec)) fnExactSignTextUptoCard

/-- THE SECOND FORM's CARD OF 'laws.FnSignsOther'. -/
def fnSignsOtherUptoCard : Claim7 := { stood := { row := fnSignsOtherUptoRow, standIns := [], harness := (true, "666cb4f4428aff5c31f6678701d5110acce2318c22e2455880366a0fb6b7c068"), looks := false }, kinds := [], alts := [], laidByText := true, laidKinds := [.data, .data], laidTests := true, laidLooks := .later }
def FnSignsOtherUptoCardSaid : Prop := Claim7.holds Tryd.pinned (.plain (OpenSpec.upto fnSignsOtherSpec)) fnSignsOtherUptoCard
end Rows
end Go.Proofs.YtcehbmlibfalaaaDoor
