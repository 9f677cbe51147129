/-
  DERIVED. GIVEN WITH THE SEED: THE CARDS: each row of YtjcggcefmpaieaaDoorRows.lean that lists a variable, with what it lists TIED to the program's text (the seventh form; the later family's looks); each row that meets fmt, with fmt's text TOLD by the authors' own Lean function (tested against real Go, not proved from fmt's source: count such statements apart). THE CARD IS WHAT COUNTS. Prove the row's statement (the work); the ties are given (YtjcggcefmpaieaaDoorTie.lean); close each card by the builder's one call (the guide's Derived/Test/ToyasCard.lean, 'card_holds'). Laid BY PROGRAM, IN A SANDBOX (cutbox-door.mjs). By AI agents, Wed Nov 11 2026. No macro, syntax, notation, axiom, sorry.
-/
import Derived.Test.YtjcggcefmpaieaaDoorRows
import GoSem.ClaimSeven
namespace Go.Proofs.YtjcggcefmpaieaaDoor
namespace Rows

/-- THE TIED CARD OF 'laws.FnLists'. -/
def fnListsCard : Claim7 := { stood := { row := fnListsRow, standIns := [], harness := (true, "5656281482df4c57e3eb81375a1872ce469613685fa4d7162dd797169a2d4b30"), looks := true }, kinds := [], alts := [], laidByText := true, laidKinds := [.data, .data, .data, .data, .sentinel, .sentinel, .pinned], laidTests := true, laidLooks := .later }
def FnListsCardSaid : Prop := Claim7.holds Tryd.pinned (.plain (OpenSpec.ofChange fnListsSpec)) fnListsCard

/-- THE TIED CARD OF 'laws.FnExactReadPins'. -/
def fnExactReadPinsCard : Claim7 := { stood := { row := fnExactReadPinsRow, standIns := [], harness := (true, "5656281482df4c57e3eb81375a1872ce469613685fa4d7162dd797169a2d4b30"), looks := true }, kinds := [], alts := [], laidByText := true, laidKinds := [.data, .data, .data, .data, .sentinel, .sentinel, .pinned], laidTests := true, laidLooks := .later }
def FnExactReadPinsCardSaid : Prop := Claim7.holds Tryd.pinned (.plain (OpenSpec.ofChange fnExactReadPinsSpec)) fnExactReadPinsCard

/-- THE TIED CARD OF 'laws.FnExactListText'. -/
def fnExactListTextCard : Claim7 := { stood := { row := fnExactListTextRow, standIns := [], harness := (true, "5656281482df4c57e3eb81375a1872ce469613685fa4d7162dd797169a2d4b30"), looks := true }, kinds := [], alts := [], laidByText := true, laidKinds := [.data, .data, .data], laidTests := true, laidLooks := .later }
def FnExactListTextCardSaid : Prop := Claim7.holds Tryd.pinned (.plain (OpenSpec.ofChange fnExactListTextSpec)) fnExactListTextCard

/-- THE TIED CARD OF 'laws.FnExactKeyText'. -/
def fnExactKeyTextCard : Claim7 := { stood := { row := fnExactKeyTextRow, standIns := [], harness := (true, "5656281482df4c57e3eb81375a1872ce469613685fa4d7162dd797169a2d4b30"), looks := true }, kinds := [], alts := [], laidByText := true, laidKinds := [.data, .data, .data], laidTests := true, laidLooks := .later }
def FnExactKeyTextCardSaid : Prop := Claim7.holds Tryd.pinned (.plain (OpenSpec.ofChange fnExactKeyTextSpec)) fnExactKeyTextCard

/-- THE TIED CARD OF 'laws.FnExactPinsText'. -/
def fnExactPinsTextCard : Claim7 := { stood := { row := fnExactPinsTextRow, standIns := [], harness := (true, "5656281482df4c57e3eb81375a1872ce469613685fa4d7162dd797169a2d4b30"), looks := true }, kinds := [], alts := [], laidByText := true, laidKinds := [.data, .data, .data], laidTests := true, laidLooks := .later }
def FnExactPinsTextCardSaid : Prop := Claim7.holds Tryd.pinned (.plain (OpenSpec.ofChange fnExactPinsTextSpec)) fnExactPinsTextCard

/-- THE TIED CARD OF 'laws.FnKeyTexts'. -/
def fnKeyTextsCard : Claim7 := { stood := { row := fnKeyTextsRow, standIns := [], harness := (true, "5656281482df4c57e3eb81375a1872ce469613685fa4d7162dd797169a2d4b30"), looks := true }, kinds := [], alts := [], laidByText := true, laidKinds := [.data, .data, .data], laidTests := true, laidLooks := .later }
def FnKeyTextsCardSaid : Prop := Claim7.holds Tryd.pinned (.plain (OpenSpec.ofChange fnKeyTextsSpec)) fnKeyTextsCard

/-- THE TIED CARD OF 'laws.FnExactReadList'. -/
def fnExactReadListCard : Claim7 := { stood := { row := fnExactReadListRow, standIns := [], harness := (true, "5656281482df4c57e3eb81375a1872ce469613685fa4d7162dd797169a2d4b30"), looks := true }, kinds := [], alts := [], laidByText := true, laidKinds := [.data, .data, .data, .data, .sentinel, .sentinel, .pinned], laidTests := true, laidLooks := .later }
def FnExactReadListCardSaid : Prop := Claim7.holds Tryd.pinned (.plain (OpenSpec.ofChange fnExactReadListSpec)) fnExactReadListCard

/-- THE SECOND FORM's CARD OF 'laws.FnLists'. -/
def fnListsUptoCard : Claim7 := { stood := { row := fnListsUptoRow, standIns := [], harness := (true, "5656281482df4c57e3eb81375a1872ce469613685fa4d7162dd797169a2d4b30"), looks := true }, kinds := [], alts := [], laidByText := true, laidKinds := [.data, .data, .data, .data, .sentinel, .sentinel, .pinned], laidTests := true, laidLooks := .later }
def FnListsUptoCardSaid : Prop := Claim7.holds Tryd.pinned (.plain (OpenSpec.upto fnListsSpec)) fnListsUptoCard

/-- THE SECOND FORM's CARD OF 'laws.FnExactReadPins'. -/
def fnExactReadPinsUptoCard : Claim7 := { stood := { row := fnExactReadPinsUptoRow, standIns := [], harness := (true, "5656281482df4c57e3eb81375a1872ce469613685fa4d7162dd797169a2d4b30"), looks := true }, kinds := [], alts := [], laidByText := true, laidKinds := [.data, .data, .data, .data, .sentinel, .sentinel, .pinned], laidTests := true, laidLooks := .later }
def FnExactReadPinsUptoCardSaid : Prop := Claim7.holds Tryd.pinned (.plain (OpenSpec.upto fnExactReadPinsSpec)) fnExactReadPinsUptoCard

/-- THE SECOND FORM's CARD OF 'laws.FnExactListText'. -/
def fnExactListTextUptoCard : Claim7 := { stood := { row := fnExactListTextUptoRow, standIns := [], harness := (true, "5656281482df4c57e3eb81375a1872ce469613685fa4d7162dd797169a2d4b30"), looks := true }, kinds := [], alts := [], laidByText := true, laidKinds := [.data, .data, .data], laidTests := true, laidLooks := .later }
def FnExactListTextUptoCardSaid : Prop := Claim7.holds Tryd.pinned (.plain (OpenSpec.upto fnExactListTextSpec)) fnExactListTextUptoCard

/-- THE SECOND FORM's CARD OF 'laws.FnExactKeyText'. -/
def fnExactKeyTextUptoCard : Claim7 := { stood := { row := fnExactKeyTextUptoRow, standIns := [], harness := (true, "5656281482df4c57e3eb81375a1872ce469613685fa4d7162dd797169a2d4b30"), looks := true }, kinds := [], alts := [], laidByText := true, laidKinds := [.data, .data, .data], laidTests := true, laidLooks := .later }
def FnExactKeyTextUptoCardSaid : Prop := Claim7.holds Tryd.pinned (.plain (OpenSpec.upto fnExactKeyTextSpec)) fnExactKeyTextUptoCard

/-- THE SECOND FORM's CARD OF 'laws.FnExactPinsText'. -/
def fnExactPinsTextUptoCard : Claim7 := { stood := { row := fnExactPinsTextUptoRow, standIns := [], harness := (true, "5656281482df4c57e3eb81375a1872ce469613685fa4d7162dd797169a2d4b30"), looks := true }, kinds := [], alts := [], laidByText := true, laidKinds := [.data, .data, .data], laidTests := true, laidLooks := .later }
def FnExactPinsTextUptoCardSaid : Prop := Claim7.holds Tryd.pinned (.plain (OpenSpec.upto fnExactPinsTextSpec)) fnExactPinsTextUptoCard

/-- THE SECOND FORM's CARD OF 'laws.FnKeyTexts'. -/
def fnKeyTextsUptoCard : Claim7 := { stood := { row := fnKeyTextsUptoRow, standIns := [], harness := (true, "5656281482df4c57e3eb81375a1872ce469613685fa4d7162dd797169a2d4b30"), looks := true }, kinds := [], alts := [], laidByText := true, laidKinds := [.data, .data, .data], laidTests := true, laidLooks := .later }
def FnKeyTextsUptoCardSaid : Prop := Claim7.holds Tryd.pinned (.plain (OpenSpec.upto fnKeyTextsSpec)) fnKeyTextsUptoCard

/-- THE SECOND FORM's CARD OF 'laws.FnExactReadList'. -/
def fnExactReadListUptoCard : Claim7 := { stood := { row := fnExactReadListUptoRow, standIns := [], harness := (true, "5656281482df4c57e3eb81375a1872ce469613685fa4d7162dd797169a2d4b30"), looks := true }, kinds := [], alts := [], laidByText := true, laidKinds := [.data, .data, .data, .data, .sentinel, .sentinel, .pinned], laidTests := true, laidLooks := .later }
def FnExactReadListUptoCardSaid : Prop := Claim7.holds Tryd.pinned (.plain (OpenSpec.upto fnExactReadListSpec)) fnExactReadListUptoCard
end Rows
end Go.Proofs.YtjcggcefmpaieaaDoor
