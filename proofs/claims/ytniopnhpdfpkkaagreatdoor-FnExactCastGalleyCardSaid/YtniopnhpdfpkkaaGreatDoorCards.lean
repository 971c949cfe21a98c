/-
  DERIVED. GIVEN WITH THE SEED: THE CARDS: each row of YtniopnhpdfpkkaaGreatDoorRows.lean that lists a variable, with what it lists TIED to the program's text (the seventh form; the later family's looks); each row that meets fmt, with fmt's text TOLD by the authors' own Lean function (tested against real Go, not proved from fmt's source: count such statements apart). THE CARD IS WHAT COUNTS. Prove the row's statement (the work); the ties are given (YtniopnhpdfpkkaaGreatDoorTie.lean); close each card by the builder's one call (the guide's Derived/Test/ToyasCard.lean, 'card_holds'). Laid BY PROGRAM, IN A SANDBOX (cutbox-door.mjs). By AI agents, Wed Nov 11 2026. No macro, syntax, notation, axiom, sorry.
-/
import Derived.Test.YtniopnhpdfpkkaaGreatDoorRows
import GoSem.ClaimSeven
namespace Go.Proofs.YtniopnhpdfpkkaaGreatDoor
namespace Rows

/-- THE TIED CARD OF 'laws.FnExactDeskOk'. -/
def fnExactDeskOkCard : Claim7 := { stood := { row := fnExactDeskOkRow, standIns := [], harness := (true, "274151c43ecb4e3bfffcccbd2bea536175b525f9462469cd0d6ee69e6786e2e5"), looks := false }, kinds := [], alts := [], laidByText := true, laidKinds := [.data, .pinned], laidTests := true, laidLooks := .later }
def FnExactDeskOkCardSaid : Prop := Claim7.holds Tryz.pinned (.plain (OpenSpec.ofChange fnExactDeskOkSpec)) fnExactDeskOkCard

/-- THE TIED CARD OF 'laws.FnExactCastGalley'. -/
def fnExactCastGalleyCard : Claim7 := { stood := { row := fnExactCastGalleyRow, standIns := [], harness := (true, "274151c43ecb4e3bfffcccbd2bea536175b525f9462469cd0d6ee69e6786e2e5"), looks := false }, kinds := [], alts := [], laidByText := true, laidKinds := [.data, .pinned], laidTests := true, laidLooks := .later }
def FnExactCastGalleyCardSaid : Prop := Claim7.holds Tryz.pinned (.plain (OpenSpec.ofChange fnExactCastGalleySpec)) fnExactCastGalleyCard

/-- THE SECOND FORM's CARD OF 'laws.FnExactDeskOk'. -/
def fnExactDeskOkUptoCard : Claim7 := { stood := { row := fnExactDeskOkUptoRow, standIns := [], harness := (true, "274151c43ecb4e3bfffcccbd2bea536175b525f9462469cd0d6ee69e6786e2e5"), looks := false }, kinds := [], alts := [], laidByText := true, laidKinds := [.data, .pinned], laidTests := true, laidLooks := .later }
def FnExactDeskOkUptoCardSaid : Prop := Claim7.holds Tryz.pinned (.plain (OpenSpec.upto fnExactDeskOkSpec)) fnExactDeskOkUptoCard

/-- THE SECOND FORM's CARD OF 'laws.FnExactCastGalley'. -/
def fnExactCastGalleyUptoCard : Claim7 := { stood := { row := fnExactCastGalleyUptoRow, standIns := [], harness := (true, "274151c43ecb4e3bfffcccbd2bea536175b525f9462469cd0d6ee69e6786e2e5"), looks := false }, kinds := [], alts := [], laidByText := true, laidKinds := [.data, .pinned], laidTests := true, laidLooks := .later }
def FnExactCastGalleyUptoCardSaid : Prop := Claim7.holds Tryz.pinned (.plain (OpenSpec.upto fnExactCastGalleySpec)) fnExactCastGalleyUptoCard
end Rows
end Go.Proofs.YtniopnhpdfpkkaaGreatDoor
