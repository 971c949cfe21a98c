/-
  DERIVED. GIVEN WITH THE SEED: THE CARDS: each row of YtfgeijlcmepdlaaDoorRows.lean that lists a variable, with what it lists TIED to the program's text (the seventh form; the later family's looks); each row that meets fmt, with fmt's text TOLD by the authors' own Lean function (tested against real Go, not proved from fmt's source: count such statements apart). THE CARD IS WHAT COUNTS. Prove the row's statement (the work); the ties are given (YtfgeijlcmepdlaaDoorTie.lean); close each card by the builder's one call (the guide's Derived/Test/ToyasCard.lean, 'card_holds'). Laid BY PROGRAM, IN A SANDBOX (cutbox-door.mjs). By AI agents, Wed Nov 11 2026. No macro, syntax, notation, axiom, sorry.
-/
import Derived.Test.YtfgeijlcmepdlaaDoorRows
import GoSem.ClaimSeven
namespace Go.Proofs.YtfgeijlcmepdlaaDoor
namespace Rows

/-- THE TIED CARD OF 'laws.FnExactFormatNumbers'. -/
def fnExactFormatNumbersCard : Claim7 := { stood := { row := fnExactFormatNumbersRow, standIns := [], harness := (true, "535dd0dfa18c4c1fde144c2743cb2bebd059fa490e57bbef38e2025e2b5aaa74"), looks := true }, kinds := [], alts := [], laidByText := true, laidKinds := [.data, .data, .data], laidTests := true, laidLooks := .later }
def FnExactFormatNumbersCardSaid : Prop := Claim7.holds Tryd.pinned (.plain (OpenSpec.ofChange fnExactFormatNumbersSpec)) fnExactFormatNumbersCard

/-- THE TIED CARD OF 'laws.FnExactParseNumbers'. -/
def fnExactParseNumbersCard : Claim7 := { stood := { row := fnExactParseNumbersRow, standIns := [], harness := (true, "535dd0dfa18c4c1fde144c2743cb2bebd059fa490e57bbef38e2025e2b5aaa74"), looks := true }, kinds := [], alts := [], laidByText := true, laidKinds := [.data, .data, .data, .data, .sentinel, .sentinel, .pinned], laidTests := true, laidLooks := .later }
def FnExactParseNumbersCardSaid : Prop := Claim7.holds Tryd.pinned (.plain (OpenSpec.ofChange fnExactParseNumbersSpec)) fnExactParseNumbersCard

/-- THE TIED CARD OF 'laws.FnNumbers'. -/
def fnNumbersCard : Claim7 := { stood := { row := fnNumbersRow, standIns := [], harness := (true, "535dd0dfa18c4c1fde144c2743cb2bebd059fa490e57bbef38e2025e2b5aaa74"), looks := true }, kinds := [], alts := [], laidByText := true, laidKinds := [.data, .data, .data, .data, .sentinel, .sentinel, .pinned], laidTests := true, laidLooks := .later }
def FnNumbersCardSaid : Prop := Claim7.holds Tryd.pinned (.plain (OpenSpec.ofChange fnNumbersSpec)) fnNumbersCard

/-- THE TIED CARD OF 'laws.FnExactWordWidths'. -/
def fnExactWordWidthsCard : Claim7 := { stood := { row := fnExactWordWidthsRow, standIns := [], harness := (true, "535dd0dfa18c4c1fde144c2743cb2bebd059fa490e57bbef38e2025e2b5aaa74"), looks := true }, kinds := [], alts := [], laidByText := true, laidKinds := [.data, .pinned], laidTests := true, laidLooks := .later }
def FnExactWordWidthsCardSaid : Prop := Claim7.holds Tryd.pinned (.plain (OpenSpec.ofChange fnExactWordWidthsSpec)) fnExactWordWidthsCard

/-- THE TIED CARD OF 'laws.FnExactGalleyOk'. -/
def fnExactGalleyOkCard : Claim7 := { stood := { row := fnExactGalleyOkRow, standIns := [], harness := (true, "535dd0dfa18c4c1fde144c2743cb2bebd059fa490e57bbef38e2025e2b5aaa74"), looks := true }, kinds := [], alts := [], laidByText := true, laidKinds := [.data, .pinned], laidTests := true, laidLooks := .later }
def FnExactGalleyOkCardSaid : Prop := Claim7.holds Tryd.pinned (.plain (OpenSpec.ofChange fnExactGalleyOkSpec)) fnExactGalleyOkCard

/-- THE SECOND FORM's CARD OF 'laws.FnExactFormatNumbers'. -/
def fnExactFormatNumbersUptoCard : Claim7 := { stood := { row := fnExactFormatNumbersUptoRow, standIns := [], harness := (true, "535dd0dfa18c4c1fde144c2743cb2bebd059fa490e57bbef38e2025e2b5aaa74"), looks := true }, kinds := [], alts := [], laidByText := true, laidKinds := [.data, .data, .data], laidTests := true, laidLooks := .later }
def FnExactFormatNumbersUptoCardSaid : Prop := Claim7.holds Tryd.pinned (.plain (OpenSpec.upto fnExactFormatNumbersSpec)) fnExactFormatNumbersUptoCard

/-- THE SECOND FORM's CARD OF 'laws.FnExactParseNumbers'. -/
def fnExactParseNumbersUptoCard : Claim7 := { stood := { row := fnExactParseNumbersUptoRow, standIns := [], harness := (true, "535dd0dfa18c4c1fde144c2743cb2bebd059fa490e57bbef38e2025e2b5aaa74"), looks := true }, kinds := [], alts := [], laidByText := true, laidKinds := [.data, .data, .data, .data, .sentinel, .sentinel, .pinned], laidTests := true, laidLooks := .later }
def FnExactParseNumbersUptoCardSaid : Prop := Claim7.holds Tryd.pinned (.plain (OpenSpec.upto fnExactParseNumbersSpec)) fnExactParseNumbersUptoCard

/-- THE SECOND FORM's CARD OF 'laws.FnNumbers'. -/
def fnNumbersUptoCard : Claim7 := { stood := { row := fnNumbersUptoRow, standIns := [], harness := (true, "535dd0dfa18c4c1fde144c2743cb2bebd059fa490e57bbef38e2025e2b5aaa74"), looks := true }, kinds := [], alts := [], laidByText := true, laidKinds := [.data, .data, .data, .data, .sentinel, .sentinel, .pinned], laidTests := true, laidLooks := .later }
def FnNumbersUptoCardSaid : Prop := Claim7.holds Tryd.pinned (.plain (OpenSpec.upto fnNumbersSpec)) fnNumbersUptoCard

/-- THE SECOND FORM's CARD OF 'laws.FnExactWordWidths'. -/
def fnExactWordWidthsUptoCard : Claim7 := { stood := { row := fnExactWordWidthsUptoRow, standIns := [], harness := (true, "535dd0dfa18c4c1fde144c2743cb2bebd059fa490e57bbef38e2025e2b5aaa74"), looks := true }, kinds := [], alts := [], laidByText := true, laidKinds := [.data, .pinned], laidTests := true, laidLooks := .later }
def FnExactWordWidthsUptoCardSaid : Prop := Claim7.holds Tryd.pinned (.plain (OpenSpec.upto fnExactWordWidthsSpec)) fnExactWordWidthsUptoCard

/-- THE SECOND FORM's CARD OF 'laws.FnExactGalleyOk'. -/
def fnExactGalleyOkUptoCard : Claim7 := { stood := { row := fnExactGalleyOkUptoRow, standIns := [], harness := (true, "535dd0dfa18c4c1fde144c2743cb2bebd059fa490e57bbef38e2025e2b5aaa74"), looks := true }, kinds := [], alts := [], laidByText := true, laidKinds := [.data, .pinned], laidTests := true, laidLooks := .later }
def FnExactGalleyOkUptoCardSaid : Prop := Claim7.holds Tryd.pinned (.plain (OpenSpec.upto fnExactGalleyOkSpec)) fnExactGalleyOkUptoCard
end Rows
end Go.Proofs.YtfgeijlcmepdlaaDoor
