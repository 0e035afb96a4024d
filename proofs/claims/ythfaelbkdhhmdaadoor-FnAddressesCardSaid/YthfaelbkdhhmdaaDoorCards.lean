/-
  DERIVED. GIVEN WITH THE SEED: THE CARDS: each row of YthfaelbkdhhmdaaDoorRows.lean that lists a variable, with what it lists TIED to the program's text (the seventh form; the later family's looks); each row that meets fmt, with fmt's text TOLD by the authors' own Lean function (tested against real Go, not proved from fmt's source: count such statements apart). THE CARD IS WHAT COUNTS. Prove the row's statement (the work); the ties are given (YthfaelbkdhhmdaaDoorTie.lean); close each card by the builder's one call (the guide's Derived/Test/ToyasCard.lean, 'card_holds'). Laid BY PROGRAM, IN A SANDBOX (cutbox-door.mjs). By AI agents, Wed Nov 11 2026. No macro, syntax, notation, axiom, sorry.
-/
import Derived.Test.YthfaelbkdhhmdaaDoorRows
import GoSem.ClaimSeven
namespace Go.Proofs.YthfaelbkdhhmdaaDoor
namespace Rows

/-- THE TIED CARD OF 'laws.FnExactWriteAddress'. -/
def fnExactWriteAddressCard : Claim7 := { stood := { row := fnExactWriteAddressRow, standIns := [], harness := (true, "4997f9e03114897b57f3edac2d6131a548a5f3a9e164686ad93086c786d847fd"), looks := true }, kinds := [], alts := [], laidByText := true, laidKinds := [.data, .data, .data], laidTests := true, laidLooks := .later }
def FnExactWriteAddressCardSaid : Prop := Claim7.holds Tryd.pinned (.plain (OpenSpec.ofChange fnExactWriteAddressSpec)) fnExactWriteAddressCard

/-- THE TIED CARD OF 'laws.FnExactReadAddress'. -/
def fnExactReadAddressCard : Claim7 := { stood := { row := fnExactReadAddressRow, standIns := [], harness := (true, "4997f9e03114897b57f3edac2d6131a548a5f3a9e164686ad93086c786d847fd"), looks := true }, kinds := [], alts := [], laidByText := true, laidKinds := [.data, .data, .data, .data, .sentinel, .sentinel, .pinned], laidTests := true, laidLooks := .later }
def FnExactReadAddressCardSaid : Prop := Claim7.holds Tryd.pinned (.plain (OpenSpec.ofChange fnExactReadAddressSpec)) fnExactReadAddressCard

/-- THE TIED CARD OF 'laws.FnAddresses'. -/
def fnAddressesCard : Claim7 := { stood := { row := fnAddressesRow, standIns := [], harness := (true, "4997f9e03114897b57f3edac2d6131a548a5f3a9e164686ad93086c786d847fd"), looks := true }, kinds := [], alts := [], laidByText := true, laidKinds := [.data, .data, .data, .data, .sentinel, .sentinel, .pinned], laidTests := true, laidLooks := .later }
def FnAddressesCardSaid : Prop := Claim7.holds Tryd.pinned (.plain (OpenSpec.ofChange fnAddressesSpec)) fnAddressesCard

/-- THE TIED CARD OF 'laws.FnExactHostOk'. -/
def fnExactHostOkCard : Claim7 := { stood := { row := fnExactHostOkRow, standIns := [], harness := (true, "4997f9e03114897b57f3edac2d6131a548a5f3a9e164686ad93086c786d847fd"), looks := true }, kinds := [], alts := [], laidByText := true, laidKinds := [.data, .pinned], laidTests := true, laidLooks := .later }
def FnExactHostOkCardSaid : Prop := Claim7.holds Tryd.pinned (.plain (OpenSpec.ofChange fnExactHostOkSpec)) fnExactHostOkCard

/-- THE TIED CARD OF 'laws.FnExactUnder'. -/
def fnExactUnderCard : Claim7 := { stood := { row := fnExactUnderRow, standIns := [], harness := (true, "4997f9e03114897b57f3edac2d6131a548a5f3a9e164686ad93086c786d847fd"), looks := true }, kinds := [], alts := [], laidByText := true, laidKinds := [.data, .pinned], laidTests := true, laidLooks := .later }
def FnExactUnderCardSaid : Prop := Claim7.holds Tryd.pinned (.plain (OpenSpec.ofChange fnExactUnderSpec)) fnExactUnderCard

/-- THE TIED CARD OF 'laws.FnExactPatternOk'. -/
def fnExactPatternOkCard : Claim7 := { stood := { row := fnExactPatternOkRow, standIns := [], harness := (true, "4997f9e03114897b57f3edac2d6131a548a5f3a9e164686ad93086c786d847fd"), looks := true }, kinds := [], alts := [], laidByText := true, laidKinds := [.data, .pinned], laidTests := true, laidLooks := .later }
def FnExactPatternOkCardSaid : Prop := Claim7.holds Tryd.pinned (.plain (OpenSpec.ofChange fnExactPatternOkSpec)) fnExactPatternOkCard

/-- THE TIED CARD OF 'laws.FnExactHostMatch'. -/
def fnExactHostMatchCard : Claim7 := { stood := { row := fnExactHostMatchRow, standIns := [], harness := (true, "4997f9e03114897b57f3edac2d6131a548a5f3a9e164686ad93086c786d847fd"), looks := true }, kinds := [], alts := [], laidByText := true, laidKinds := [.data, .pinned], laidTests := true, laidLooks := .later }
def FnExactHostMatchCardSaid : Prop := Claim7.holds Tryd.pinned (.plain (OpenSpec.ofChange fnExactHostMatchSpec)) fnExactHostMatchCard

/-- THE TIED CARD OF 'laws.FnHosts'. -/
def fnHostsCard : Claim7 := { stood := { row := fnHostsRow, standIns := [], harness := (true, "4997f9e03114897b57f3edac2d6131a548a5f3a9e164686ad93086c786d847fd"), looks := true }, kinds := [], alts := [], laidByText := true, laidKinds := [.data, .pinned], laidTests := true, laidLooks := .later }
def FnHostsCardSaid : Prop := Claim7.holds Tryd.pinned (.plain (OpenSpec.ofChange fnHostsSpec)) fnHostsCard

/-- THE SECOND FORM's CARD OF 'laws.FnExactWriteAddress'. -/
def fnExactWriteAddressUptoCard : Claim7 := { stood := { row := fnExactWriteAddressUptoRow, standIns := [], harness := (true, "4997f9e03114897b57f3edac2d6131a548a5f3a9e164686ad93086c786d847fd"), looks := true }, kinds := [], alts := [], laidByText := true, laidKinds := [.data, .data, .data], laidTests := true, laidLooks := .later }
def FnExactWriteAddressUptoCardSaid : Prop := Claim7.holds Tryd.pinned (.plain (OpenSpec.upto fnExactWriteAddressSpec)) fnExactWriteAddressUptoCard

/-- THE SECOND FORM's CARD OF 'laws.FnExactReadAddress'. -/
def fnExactReadAddressUptoCard : Claim7 := { stood := { row := fnExactReadAddressUptoRow, standIns := [], harness := (true, "4997f9e03114897b57f3edac2d6131a548a5f3a9e164686ad93086c786d847fd"), looks := true }, kinds := [], alts := [], laidByText := true, laidKinds := [.data, .data, .data, .data, .sentinel, .sentinel, .pinned], laidTests := true, laidLooks := .later }
def FnExactReadAddressUptoCardSaid : Prop := Claim7.holds Tryd.pinned (.plain (OpenSpec.upto fnExactReadAddressSpec)) fnExactReadAddressUptoCard

/-- THE SECOND FORM's CARD OF 'laws.FnAddresses'. -/
def fnAddressesUptoCard : Claim7 := { stood := { row := fnAddressesUptoRow, standIns := [], harness := (true, "4997f9e03114897b57f3edac2d6131a548a5f3a9e164686ad93086c786d847fd"), looks := true }, kinds := [], alts := [], laidByText := true, laidKinds := [.data, .data, .data, .data, .sentinel, .sentinel, .pinned], laidTests := true, laidLooks := .later }
def FnAddressesUptoCardSaid : Prop := Claim7.holds Tryd.pinned (.plain (OpenSpec.upto fnAddressesSpec)) fnAddressesUptoCard

/-- THE SECOND FORM's CARD OF 'laws.FnExactHostOk'. -/
def fnExactHostOkUptoCard : Claim7 := { stood := { row := fnExactHostOkUptoRow, standIns := [], harness := (true, "4997f9e03114897b57f3edac2d6131a548a5f3a9e164686ad93086c786d847fd"), looks := true }, kinds := [], alts := [], laidByText := true, laidKinds := [.data, .pinned], laidTests := true, laidLooks := .later }
def FnExactHostOkUptoCardSaid : Prop := Claim7.holds Tryd.pinned (.plain (OpenSpec.upto fnExactHostOkSpec)) fnExactHostOkUptoCard

/-- THE SECOND FORM's CARD OF 'laws.FnExactUnder'. -/
def fnExactUnderUptoCard : Claim7 := { stood := { row := fnExactUnderUptoRow, standIns := [], harness := (true, "4997f9e03114897b57f3edac2d6131a548a5f3a9e164686ad93086c786d847fd"), looks := true }, kinds := [], alts := [], laidByText := true, laidKinds := [.data, .pinned], laidTests := true, laidLooks := .later }
def FnExactUnderUptoCardSaid : Prop := Claim7.holds Tryd.pinned (.plain (OpenSpec.upto fnExactUnderSpec)) fnExactUnderUptoCard

/-- THE SECOND FORM's CARD OF 'laws.FnExactPatternOk'. -/
def fnExactPatternOkUptoCard : Claim7 := { stood := { row := fnExactPatternOkUptoRow, standIns := [], harness := (true, "4997f9e03114897b57f3edac2d6131a548a5f3a9e164686ad93086c786d847fd"), looks := true }, kinds := [], alts := [], laidByText := true, laidKinds := [.data, .pinned], laidTests := true, laidLooks := .later }
def FnExactPatternOkUptoCardSaid : Prop := Claim7.holds Tryd.pinned (.plain (OpenSpec.upto fnExactPatternOkSpec)) fnExactPatternOkUptoCard

/-- THE SECOND FORM's CARD OF 'laws.FnExactHostMatch'. -/
def fnExactHostMatchUptoCard : Claim7 := { stood := { row := fnExactHostMatchUptoRow, standIns := [], harness := (true, "4997f9e03114897b57f3edac2d6131a548a5f3a9e164686ad93086c786d847fd"), looks := true }, kinds := [], alts := [], laidByText := true, laidKinds := [.data, .pinned], laidTests := true, laidLooks := .later }
def FnExactHostMatchUptoCardSaid : Prop := Claim7.holds Tryd.pinned (.plain (OpenSpec.upto fnExactHostMatchSpec)) fnExactHostMatchUptoCard

/-- THE SECOND FORM's CARD OF 'laws.FnHosts'. -/
def fnHostsUptoCard : Claim7 := { stood := { row := fnHostsUptoRow, standIns := [], harness := (true, "4997f9e03114897b57f3edac2d6131a548a5f3a9e164686ad93086c786d847fd"), looks := true }, kinds := [], alts := [], laidByText := true, laidKinds := [.data, .pinned], laidTests := true, laidLooks := .later }
def FnHostsUptoCardSaid : Prop := Claim7.holds Tryd.pinned (.plain (OpenSpec.upto fnHostsSpec)) fnHostsUptoCard
end Rows
end Go.Proofs.YthfaelbkdhhmdaaDoor
