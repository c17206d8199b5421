/-
  DERIVED. GIVEN WITH THE SEED: THE CARDS: each row of YtdpnnglfaofjeaaDoorRows.lean that lists a variable, with what it lists TIED to the program's text (the seventh form; the later family's looks); each row that meets fmt, with fmt's text TOLD by the authors' own Lean function (tested against real Go, not proved from fmt's source: count such statements apart). THE CARD IS WHAT COUNTS. Prove the row's statement (the work); the ties are given (YtdpnnglfaofjeaaDoorTie.lean); close each card by the builder's one call (the guide's Derived/Test/ToyasCard.lean, 'card_holds'). Laid BY PROGRAM, IN A SANDBOX (cutbox-door.mjs). By AI agents, Wed Nov 11 2026. No macro, syntax, notation, axiom, sorry.
-/
import Derived.Test.YtdpnnglfaofjeaaDoorRows
import GoSem.ClaimSeven
namespace Go.Proofs.YtdpnnglfaofjeaaDoor
namespace Rows

/-- THE TIED CARD OF 'bobbinlaw07.CssstrUnits'. -/
def cssstrUnitsCard : Claim7 := { stood := { row := cssstrUnitsRow, standIns := [], harness := (true, "6aa5da39bf2255101a6b896fba29e1b71b3d0ef7cf1f99d9f2a76a6bc3524817"), looks := false }, kinds := [], alts := [], laidByText := true, laidKinds := [.data, .data, .data], laidTests := true, laidLooks := .later }
def CssstrUnitsCardSaid : Prop := Claim7.holds Tryd.pinned (.plain (OpenSpec.ofChange cssstrUnitsSpec)) cssstrUnitsCard

/-- THE TIED CARD OF 'bobbinlaw07.CssstrTexts'. -/
def cssstrTextsCard : Claim7 := { stood := { row := cssstrTextsRow, standIns := [], harness := (true, "6aa5da39bf2255101a6b896fba29e1b71b3d0ef7cf1f99d9f2a76a6bc3524817"), looks := false }, kinds := [], alts := [], laidByText := true, laidKinds := [.data, .data, .data], laidTests := true, laidLooks := .later }
def CssstrTextsCardSaid : Prop := Claim7.holds Tryd.pinned (.plain (OpenSpec.ofChange cssstrTextsSpec)) cssstrTextsCard

/-- THE TIED CARD OF 'bobbinlaw07.CssstrBack'. -/
def cssstrBackCard : Claim7 := { stood := { row := cssstrBackRow, standIns := [], harness := (true, "6aa5da39bf2255101a6b896fba29e1b71b3d0ef7cf1f99d9f2a76a6bc3524817"), looks := false }, kinds := [], alts := [], laidByText := true, laidKinds := [.data, .data, .data], laidTests := true, laidLooks := .later }
def CssstrBackCardSaid : Prop := Claim7.holds Tryd.pinned (.plain (OpenSpec.ofChange cssstrBackSpec)) cssstrBackCard

/-- THE TIED CARD OF 'bobbinlaw07.CssstrSplits'. -/
def cssstrSplitsCard : Claim7 := { stood := { row := cssstrSplitsRow, standIns := [], harness := (true, "6aa5da39bf2255101a6b896fba29e1b71b3d0ef7cf1f99d9f2a76a6bc3524817"), looks := false }, kinds := [], alts := [], laidByText := true, laidKinds := [.data, .data, .data], laidTests := true, laidLooks := .later }
def CssstrSplitsCardSaid : Prop := Claim7.holds Tryd.pinned (.plain (OpenSpec.ofChange cssstrSplitsSpec)) cssstrSplitsCard

/-- THE TIED CARD OF 'bobbinlaw06.JsstrTexts'. -/
def jsstrTextsCard : Claim7 := { stood := { row := jsstrTextsRow, standIns := [], harness := (true, "6aa5da39bf2255101a6b896fba29e1b71b3d0ef7cf1f99d9f2a76a6bc3524817"), looks := false }, kinds := [], alts := [], laidByText := true, laidKinds := [.data, .data, .data], laidTests := true, laidLooks := .later }
def JsstrTextsCardSaid : Prop := Claim7.holds Tryd.pinned (.plain (OpenSpec.ofChange jsstrTextsSpec)) jsstrTextsCard

/-- THE TIED CARD OF 'bobbinlaw06.JsstrUnits'. -/
def jsstrUnitsCard : Claim7 := { stood := { row := jsstrUnitsRow, standIns := [], harness := (true, "6aa5da39bf2255101a6b896fba29e1b71b3d0ef7cf1f99d9f2a76a6bc3524817"), looks := false }, kinds := [], alts := [], laidByText := true, laidKinds := [.data, .data, .data], laidTests := true, laidLooks := .later }
def JsstrUnitsCardSaid : Prop := Claim7.holds Tryd.pinned (.plain (OpenSpec.ofChange jsstrUnitsSpec)) jsstrUnitsCard

/-- THE TIED CARD OF 'bobbinlaw06.JsstrBack'. -/
def jsstrBackCard : Claim7 := { stood := { row := jsstrBackRow, standIns := [], harness := (true, "6aa5da39bf2255101a6b896fba29e1b71b3d0ef7cf1f99d9f2a76a6bc3524817"), looks := false }, kinds := [], alts := [], laidByText := true, laidKinds := [.data, .data, .data], laidTests := true, laidLooks := .later }
def JsstrBackCardSaid : Prop := Claim7.holds Tryd.pinned (.plain (OpenSpec.ofChange jsstrBackSpec)) jsstrBackCard

/-- THE TIED CARD OF 'bobbinlaw06.JsstrSplits'. -/
def jsstrSplitsCard : Claim7 := { stood := { row := jsstrSplitsRow, standIns := [], harness := (true, "6aa5da39bf2255101a6b896fba29e1b71b3d0ef7cf1f99d9f2a76a6bc3524817"), looks := false }, kinds := [], alts := [], laidByText := true, laidKinds := [.data, .data, .data], laidTests := true, laidLooks := .later }
def JsstrSplitsCardSaid : Prop := Claim7.holds Tryd.pinned (.plain (OpenSpec.ofChange jsstrSplitsSpec)) jsstrSplitsCard

/-- THE TIED CARD OF 'bobbinlaw05.SchemePasses'. -/
def schemePassesCard : Claim7 := { stood := { row := schemePassesRow, standIns := [], harness := (true, "6aa5da39bf2255101a6b896fba29e1b71b3d0ef7cf1f99d9f2a76a6bc3524817"), looks := false }, kinds := [], alts := [], laidByText := true, laidKinds := [.data, .pinned], laidTests := true, laidLooks := .later }
def SchemePassesCardSaid : Prop := Claim7.holds Tryd.pinned (.plain (OpenSpec.ofChange schemePassesSpec)) schemePassesCard

/-- THE TIED CARD OF 'bobbinlaw05.SchemeSafe'. -/
def schemeSafeCard : Claim7 := { stood := { row := schemeSafeRow, standIns := [], harness := (true, "6aa5da39bf2255101a6b896fba29e1b71b3d0ef7cf1f99d9f2a76a6bc3524817"), looks := false }, kinds := [], alts := [], laidByText := true, laidKinds := [.data, .pinned], laidTests := true, laidLooks := .later }
def SchemeSafeCardSaid : Prop := Claim7.holds Tryd.pinned (.plain (OpenSpec.ofChange schemeSafeSpec)) schemeSafeCard

/-- THE TIED CARD OF 'bobbinlaw05.SchemeNames'. -/
def schemeNamesCard : Claim7 := { stood := { row := schemeNamesRow, standIns := [], harness := (true, "6aa5da39bf2255101a6b896fba29e1b71b3d0ef7cf1f99d9f2a76a6bc3524817"), looks := false }, kinds := [], alts := [], laidByText := true, laidKinds := [.data, .pinned], laidTests := true, laidLooks := .later }
def SchemeNamesCardSaid : Prop := Claim7.holds Tryd.pinned (.plain (OpenSpec.ofChange schemeNamesSpec)) schemeNamesCard

/-- THE TIED CARD OF 'bobbinlaw05.SchemeGates'. -/
def schemeGatesCard : Claim7 := { stood := { row := schemeGatesRow, standIns := [], harness := (true, "6aa5da39bf2255101a6b896fba29e1b71b3d0ef7cf1f99d9f2a76a6bc3524817"), looks := false }, kinds := [], alts := [], laidByText := true, laidKinds := [.data, .pinned], laidTests := true, laidLooks := .later }
def SchemeGatesCardSaid : Prop := Claim7.holds Tryd.pinned (.plain (OpenSpec.ofChange schemeGatesSpec)) schemeGatesCard

/-- THE TIED CARD OF 'bobbinlaw05.SchemeCut'. -/
def schemeCutCard : Claim7 := { stood := { row := schemeCutRow, standIns := [], harness := (true, "6aa5da39bf2255101a6b896fba29e1b71b3d0ef7cf1f99d9f2a76a6bc3524817"), looks := false }, kinds := [], alts := [], laidByText := true, laidKinds := [.data, .pinned], laidTests := true, laidLooks := .later }
def SchemeCutCardSaid : Prop := Claim7.holds Tryd.pinned (.plain (OpenSpec.ofChange schemeCutSpec)) schemeCutCard

/-- THE TIED CARD OF 'bobbinlaw05.SchemeSingles'. -/
def schemeSinglesCard : Claim7 := { stood := { row := schemeSinglesRow, standIns := [], harness := (true, "6aa5da39bf2255101a6b896fba29e1b71b3d0ef7cf1f99d9f2a76a6bc3524817"), looks := false }, kinds := [], alts := [], laidByText := true, laidKinds := [.data, .pinned], laidTests := true, laidLooks := .later }
def SchemeSinglesCardSaid : Prop := Claim7.holds Tryd.pinned (.plain (OpenSpec.ofChange schemeSinglesSpec)) schemeSinglesCard

/-- THE TIED CARD OF 'bobbinlaw08.EscapeAlls'. -/
def escapeAllsCard : Claim7 := { stood := { row := escapeAllsRow, standIns := [], harness := (true, "6aa5da39bf2255101a6b896fba29e1b71b3d0ef7cf1f99d9f2a76a6bc3524817"), looks := false }, kinds := [], alts := [], laidByText := true, laidKinds := [.data, .data, .data, .data, .pinned], laidTests := true, laidLooks := .later }
def EscapeAllsCardSaid : Prop := Claim7.holds Tryd.pinned (.plain (OpenSpec.ofChange escapeAllsSpec)) escapeAllsCard

/-- THE TIED CARD OF 'bobbinlaw08.EscapeCut'. -/
def escapeCutCard : Claim7 := { stood := { row := escapeCutRow, standIns := [], harness := (true, "6aa5da39bf2255101a6b896fba29e1b71b3d0ef7cf1f99d9f2a76a6bc3524817"), looks := false }, kinds := [], alts := [], laidByText := true, laidKinds := [.data, .data, .data, .data, .pinned], laidTests := true, laidLooks := .later }
def EscapeCutCardSaid : Prop := Claim7.holds Tryd.pinned (.plain (OpenSpec.ofChange escapeCutSpec)) escapeCutCard

/-- THE TIED CARD OF 'bobbinlaw08.EscapeInert'. -/
def escapeInertCard : Claim7 := { stood := { row := escapeInertRow, standIns := [], harness := (true, "6aa5da39bf2255101a6b896fba29e1b71b3d0ef7cf1f99d9f2a76a6bc3524817"), looks := false }, kinds := [], alts := [], laidByText := true, laidKinds := [.data, .data, .data, .data, .pinned], laidTests := true, laidLooks := .later }
def EscapeInertCardSaid : Prop := Claim7.holds Tryd.pinned (.plain (OpenSpec.ofChange escapeInertSpec)) escapeInertCard

/-- THE TIED CARD OF 'bobbinlaw08.EscapeResets'. -/
def escapeResetsCard : Claim7 := { stood := { row := escapeResetsRow, standIns := [], harness := (true, "6aa5da39bf2255101a6b896fba29e1b71b3d0ef7cf1f99d9f2a76a6bc3524817"), looks := false }, kinds := [], alts := [], laidByText := true, laidKinds := [.data, .data, .data, .data, .pinned], laidTests := true, laidLooks := .later }
def EscapeResetsCardSaid : Prop := Claim7.holds Tryd.pinned (.plain (OpenSpec.ofChange escapeResetsSpec)) escapeResetsCard

/-- THE TIED CARD OF 'bobbinlaw08.EscapeSizes'. -/
def escapeSizesCard : Claim7 := { stood := { row := escapeSizesRow, standIns := [], harness := (true, "6aa5da39bf2255101a6b896fba29e1b71b3d0ef7cf1f99d9f2a76a6bc3524817"), looks := false }, kinds := [], alts := [], laidByText := true, laidKinds := [.data, .data, .data, .data, .pinned], laidTests := true, laidLooks := .later }
def EscapeSizesCardSaid : Prop := Claim7.holds Tryd.pinned (.plain (OpenSpec.ofChange escapeSizesSpec)) escapeSizesCard

/-- THE TIED CARD OF 'bobbinlaw08.EscapeFeeds'. -/
def escapeFeedsCard : Claim7 := { stood := { row := escapeFeedsRow, standIns := [], harness := (true, "6aa5da39bf2255101a6b896fba29e1b71b3d0ef7cf1f99d9f2a76a6bc3524817"), looks := false }, kinds := [], alts := [], laidByText := true, laidKinds := [.data, .data, .data, .data, .pinned], laidTests := true, laidLooks := .later }
def EscapeFeedsCardSaid : Prop := Claim7.holds Tryd.pinned (.plain (OpenSpec.ofChange escapeFeedsSpec)) escapeFeedsCard

/-- THE TIED CARD OF 'bobbinlaw08.EscapeKeeps'. -/
def escapeKeepsCard : Claim7 := { stood := { row := escapeKeepsRow, standIns := [], harness := (true, "6aa5da39bf2255101a6b896fba29e1b71b3d0ef7cf1f99d9f2a76a6bc3524817"), looks := false }, kinds := [], alts := [], laidByText := true, laidKinds := [.data, .data, .data, .data, .pinned], laidTests := true, laidLooks := .later }
def EscapeKeepsCardSaid : Prop := Claim7.holds Tryd.pinned (.plain (OpenSpec.ofChange escapeKeepsSpec)) escapeKeepsCard

/-- THE SECOND FORM's CARD OF 'bobbinlaw07.CssstrUnits'. -/
def cssstrUnitsUptoCard : Claim7 := { stood := { row := cssstrUnitsUptoRow, standIns := [], harness := (true, "6aa5da39bf2255101a6b896fba29e1b71b3d0ef7cf1f99d9f2a76a6bc3524817"), looks := false }, kinds := [], alts := [], laidByText := true, laidKinds := [.data, .data, .data], laidTests := true, laidLooks := .later }
def CssstrUnitsUptoCardSaid : Prop := Claim7.holds Tryd.pinned (.plain (OpenSpec.upto cssstrUnitsSpec)) cssstrUnitsUptoCard

/-- THE SECOND FORM's CARD OF 'bobbinlaw07.CssstrTexts'. -/
def cssstrTextsUptoCard : Claim7 := { stood := { row := cssstrTextsUptoRow, standIns := [], harness := (true, "6aa5da39bf2255101a6b896fba29e1b71b3d0ef7cf1f99d9f2a76a6bc3524817"), looks := false }, kinds := [], alts := [], laidByText := true, laidKinds := [.data, .data, .data], laidTests := true, laidLooks := .later }
def CssstrTextsUptoCardSaid : Prop := Claim7.holds Tryd.pinned (.plain (OpenSpec.upto cssstrTextsSpec)) cssstrTextsUptoCard

/-- THE SECOND FORM's CARD OF 'bobbinlaw07.CssstrBack'. -/
def cssstrBackUptoCard : Claim7 := { stood := { row := cssstrBackUptoRow, standIns := [], harness := (true, "6aa5da39bf2255101a6b896fba29e1b71b3d0ef7cf1f99d9f2a76a6bc3524817"), looks := false }, kinds := [], alts := [], laidByText := true, laidKinds := [.data, .data, .data], laidTests := true, laidLooks := .later }
def CssstrBackUptoCardSaid : Prop := Claim7.holds Tryd.pinned (.plain (OpenSpec.upto cssstrBackSpec)) cssstrBackUptoCard

/-- THE SECOND FORM's CARD OF 'bobbinlaw07.CssstrSplits'. -/
def cssstrSplitsUptoCard : Claim7 := { stood := { row := cssstrSplitsUptoRow, standIns := [], harness := (true, "6aa5da39bf2255101a6b896fba29e1b71b3d0ef7cf1f99d9f2a76a6bc3524817"), looks := false }, kinds := [], alts := [], laidByText := true, laidKinds := [.data, .data, .data], laidTests := true, laidLooks := .later }
def CssstrSplitsUptoCardSaid : Prop := Claim7.holds Tryd.pinned (.plain (OpenSpec.upto cssstrSplitsSpec)) cssstrSplitsUptoCard

/-- THE SECOND FORM's CARD OF 'bobbinlaw06.JsstrTexts'. -/
def jsstrTextsUptoCard : Claim7 := { stood := { row := jsstrTextsUptoRow, standIns := [], harness := (true, "6aa5da39bf2255101a6b896fba29e1b71b3d0ef7cf1f99d9f2a76a6bc3524817"), looks := false }, kinds := [], alts := [], laidByText := true, laidKinds := [.data, .data, .data], laidTests := true, laidLooks := .later }
def JsstrTextsUptoCardSaid : Prop := Claim7.holds Tryd.pinned (.plain (OpenSpec.upto jsstrTextsSpec)) jsstrTextsUptoCard

/-- THE SECOND FORM's CARD OF 'bobbinlaw06.JsstrUnits'. -/
def jsstrUnitsUptoCard : Claim7 := { stood := { row := jsstrUnitsUptoRow, standIns := [], harness := (true, "6aa5da39bf2255101a6b896fba29e1b71b3d0ef7cf1f99d9f2a76a6bc3524817"), looks := false }, kinds := [], alts := [], laidByText := true, laidKinds := [.data, .data, .data], laidTests := true, laidLooks := .later }
def JsstrUnitsUptoCardSaid : Prop := Claim7.holds Tryd.pinned (.plain (OpenSpec.upto jsstrUnitsSpec)) jsstrUnitsUptoCard

/-- THE SECOND FORM's CARD OF 'bobbinlaw06.JsstrBack'. -/
def jsstrBackUptoCard : Claim7 := { stood := { row := jsstrBackUptoRow, standIns := [], harness := (true, "6aa5da39bf2255101a6b896fba29e1b71b3d0ef7cf1f99d9f2a76a6bc3524817"), looks := false }, kinds := [], alts := [], laidByText := true, laidKinds := [.data, .data, .data], laidTests := true, laidLooks := .later }
def JsstrBackUptoCardSaid : Prop := Claim7.holds Tryd.pinned (.plain (OpenSpec.upto jsstrBackSpec)) jsstrBackUptoCard

/-- THE SECOND FORM's CARD OF 'bobbinlaw06.JsstrSplits'. -/
def jsstrSplitsUptoCard : Claim7 := { stood := { row := jsstrSplitsUptoRow, standIns := [], harness := (true, "6aa5da39bf2255101a6b896fba29e1b71b3d0ef7cf1f99d9f2a76a6bc3524817"), looks := false }, kinds := [], alts := [], laidByText := true, laidKinds := [.data, .data, .data], laidTests := true, laidLooks := .later }
def JsstrSplitsUptoCardSaid : Prop := Claim7.holds Tryd.pinned (.plain (OpenSpec.upto jsstrSplitsSpec)) jsstrSplitsUptoCard

/-- THE SECOND FORM's CARD OF 'bobbinlaw05.SchemePasses'. -/
def schemePassesUptoCard : Claim7 := { stood := { row := schemePassesUptoRow, standIns := [], harness := (true, "6aa5da39bf2255101a6b896fba29e1b71b3d0ef7cf1f99d9f2a76a6bc3524817"), looks := false }, kinds := [], alts := [], laidByText := true, laidKinds := [.data, .pinned], laidTests := true, laidLooks := .later }
def SchemePassesUptoCardSaid : Prop := Claim7.holds Tryd.pinned (.plain (OpenSpec.upto schemePassesSpec)) schemePassesUptoCard

/-- THE SECOND FORM's CARD OF 'bobbinlaw05.SchemeSafe'. -/
def schemeSafeUptoCard : Claim7 := { stood := { row := schemeSafeUptoRow, standIns := [], harness := (true, "6aa5da39bf2255101a6b896fba29e1b71b3d0ef7cf1f99d9f2a76a6bc3524817"), looks := false }, kinds := [], alts := [], laidByText := true, laidKinds := [.data, .pinned], laidTests := true, laidLooks := .later }
def SchemeSafeUptoCardSaid : Prop := Claim7.holds Tryd.pinned (.plain (OpenSpec.upto schemeSafeSpec)) schemeSafeUptoCard

/-- THE SECOND FORM's CARD OF 'bobbinlaw05.SchemeNames'. -/
def schemeNamesUptoCard : Claim7 := { stood := { row := schemeNamesUptoRow, standIns := [], harness := (true, "6aa5da39bf2255101a6b896fba29e1b71b3d0ef7cf1f99d9f2a76a6bc3524817"), looks := false }, kinds := [], alts := [], laidByText := true, laidKinds := [.data, .pinned], laidTests := true, laidLooks := .later }
def SchemeNamesUptoCardSaid : Prop := Claim7.holds Tryd.pinned (.plain (OpenSpec.upto schemeNamesSpec)) schemeNamesUptoCard

/-- THE SECOND FORM's CARD OF 'bobbinlaw05.SchemeGates'. -/
def schemeGatesUptoCard : Claim7 := { stood := { row := schemeGatesUptoRow, standIns := [], harness := (true, "6aa5da39bf2255101a6b896fba29e1b71b3d0ef7cf1f99d9f2a76a6bc3524817"), looks := false }, kinds := [], alts := [], laidByText := true, laidKinds := [.data, .pinned], laidTests := true, laidLooks := .later }
def SchemeGatesUptoCardSaid : Prop := Claim7.holds Tryd.pinned (.plain (OpenSpec.upto schemeGatesSpec)) schemeGatesUptoCard

/-- THE SECOND FORM's CARD OF 'bobbinlaw05.SchemeCut'. -/
def schemeCutUptoCard : Claim7 := { stood := { row := schemeCutUptoRow, standIns := [], harness := (true, "6aa5da39bf2255101a6b896fba29e1b71b3d0ef7cf1f99d9f2a76a6bc3524817"), looks := false }, kinds := [], alts := [], laidByText := true, laidKinds := [.data, .pinned], laidTests := true, laidLooks := .later }
def SchemeCutUptoCardSaid : Prop := Claim7.holds Tryd.pinned (.plain (OpenSpec.upto schemeCutSpec)) schemeCutUptoCard

/-- THE SECOND FORM's CARD OF 'bobbinlaw05.SchemeSingles'. -/
def schemeSinglesUptoCard : Claim7 := { stood := { row := schemeSinglesUptoRow, standIns := [], harness := (true, "6aa5da39bf2255101a6b896fba29e1b71b3d0ef7cf1f99d9f2a76a6bc3524817"), looks := false }, kinds := [], alts := [], laidByText := true, laidKinds := [.data, .pinned], laidTests := true, laidLooks := .later }
def SchemeSinglesUptoCardSaid : Prop := Claim7.holds Tryd.pinned (.plain (OpenSpec.upto schemeSinglesSpec)) schemeSinglesUptoCard

/-- THE SECOND FORM's CARD OF 'bobbinlaw08.EscapeAlls'. -/
def escapeAllsUptoCard : Claim7 := { stood := { row := escapeAllsUptoRow, standIns := [], harness := (true, "6aa5da39bf2255101a6b896fba29e1b71b3d0ef7cf1f99d9f2a76a6bc3524817"), looks := false }, kinds := [], alts := [], laidByText := true, laidKinds := [.data, .data, .data, .data, .pinned], laidTests := true, laidLooks := .later }
def EscapeAllsUptoCardSaid : Prop := Claim7.holds Tryd.pinned (.plain (OpenSpec.upto escapeAllsSpec)) escapeAllsUptoCard

/-- THE SECOND FORM's CARD OF 'bobbinlaw08.EscapeCut'. -/
def escapeCutUptoCard : Claim7 := { stood := { row := escapeCutUptoRow, standIns := [], harness := (true, "6aa5da39bf2255101a6b896fba29e1b71b3d0ef7cf1f99d9f2a76a6bc3524817"), looks := false }, kinds := [], alts := [], laidByText := true, laidKinds := [.data, .data, .data, .data, .pinned], laidTests := true, laidLooks := .later }
def EscapeCutUptoCardSaid : Prop := Claim7.holds Tryd.pinned (.plain (OpenSpec.upto escapeCutSpec)) escapeCutUptoCard

/-- THE SECOND FORM's CARD OF 'bobbinlaw08.EscapeInert'. -/
def escapeInertUptoCard : Claim7 := { stood := { row := escapeInertUptoRow, standIns := [], harness := (true, "6aa5da39bf2255101a6b896fba29e1b71b3d0ef7cf1f99d9f2a76a6bc3524817"), looks := false }, kinds := [], alts := [], laidByText := true, laidKinds := [.data, .data, .data, .data, .pinned], laidTests := true, laidLooks := .later }
def EscapeInertUptoCardSaid : Prop := Claim7.holds Tryd.pinned (.plain (OpenSpec.upto escapeInertSpec)) escapeInertUptoCard

/-- THE SECOND FORM's CARD OF 'bobbinlaw08.EscapeResets'. -/
def escapeResetsUptoCard : Claim7 := { stood := { row := escapeResetsUptoRow, standIns := [], harness := (true, "6aa5da39bf2255101a6b896fba29e1b71b3d0ef7cf1f99d9f2a76a6bc3524817"), looks := false }, kinds := [], alts := [], laidByText := true, laidKinds := [.data, .data, .data, .data, .pinned], laidTests := true, laidLooks := .later }
def EscapeResetsUptoCardSaid : Prop := Claim7.holds Tryd.pinned (.plain (OpenSpec.upto escapeResetsSpec)) escapeResetsUptoCard

/-- THE SECOND FORM's CARD OF 'bobbinlaw08.EscapeSizes'. -/
def escapeSizesUptoCard : Claim7 := { stood := { row := escapeSizesUptoRow, standIns := [], harness := (true, "6aa5da39bf2255101a6b896fba29e1b71b3d0ef7cf1f99d9f2a76a6bc3524817"), looks := false }, kinds := [], alts := [], laidByText := true, laidKinds := [.data, .data, .data, .data, .pinned], laidTests := true, laidLooks := .later }
def EscapeSizesUptoCardSaid : Prop := Claim7.holds Tryd.pinned (.plain (OpenSpec.upto escapeSizesSpec)) escapeSizesUptoCard

/-- THE SECOND FORM's CARD OF 'bobbinlaw08.EscapeFeeds'. -/
def escapeFeedsUptoCard : Claim7 := { stood := { row := escapeFeedsUptoRow, standIns := [], harness := (true, "6aa5da39bf2255101a6b896fba29e1b71b3d0ef7cf1f99d9f2a76a6bc3524817"), looks := false }, kinds := [], alts := [], laidByText := true, laidKinds := [.data, .data, .data, .data, .pinned], laidTests := true, laidLooks := .later }
def EscapeFeedsUptoCardSaid : Prop := Claim7.holds Tryd.pinned (.plain (OpenSpec.upto escapeFeedsSpec)) escapeFeedsUptoCard

/-- THE SECOND FORM's CARD OF 'bobbinlaw08.EscapeKeeps'. -/
def escapeKeepsUptoCard : Claim7 := { stood := { row := escapeKeepsUptoRow, standIns := [], harness := (true, "6aa5da39bf2255101a6b896fba29e1b71b3d0ef7cf1f99d9f2a76a6bc3524817"), looks := false }, kinds := [], alts := [], laidByText := true, laidKinds := [.data, .data, .data, .data, .pinned], laidTests := true, laidLooks := .later }
def EscapeKeepsUptoCardSaid : Prop := Claim7.holds Tryd.pinned (.plain (OpenSpec.upto escapeKeepsSpec)) escapeKeepsUptoCard
end Rows
end Go.Proofs.YtdpnnglfaofjeaaDoor
