/-
  DERIVED. GIVEN WITH THE SEED: THE CARDS: each row of YtniopnhpdfpkkaaDoorRows.lean that lists a variable, with what it lists TIED to the program's text (the seventh form; the later family's looks); each row that meets fmt, with fmt's text TOLD by the authors' own Lean function (tested against real Go, not proved from fmt's source: count such statements apart). THE CARD IS WHAT COUNTS. Prove the row's statement (the work); the ties are given (YtniopnhpdfpkkaaDoorTie.lean); close each card by the builder's one call (the guide's Derived/Test/ToyasCard.lean, 'card_holds'). Laid BY PROGRAM, IN A SANDBOX (cutbox-door.mjs). By AI agents, Wed Nov 11 2026. No macro, syntax, notation, axiom, sorry.
-/
import Derived.Test.YtniopnhpdfpkkaaDoorRows
import GoSem.ClaimSeven
namespace Go.Proofs.YtniopnhpdfpkkaaDoor
namespace Rows

/-- THE TIED CARD OF 'laws.FnExactSetGalley'. -/
def fnExactSetGalleyCard : Claim7 := { stood := { row := fnExactSetGalleyRow, standIns := [], harness := (true, "21d266a348a3c756c958dbe102075f8145ef76a791d245ed9499279a91ac2247"), looks := false }, kinds := [], alts := [], laidByText := true, laidKinds := [.data, .pinned], laidTests := true, laidLooks := .later }
def FnExactSetGalleyCardSaid : Prop := Claim7.holds Tryd.pinned (.plain (OpenSpec.ofChange fnExactSetGalleySpec)) fnExactSetGalleyCard

/-- THE TIED CARD OF 'laws.FnExactReplaceWord'. -/
def fnExactReplaceWordCard : Claim7 := { stood := { row := fnExactReplaceWordRow, standIns := [], harness := (true, "21d266a348a3c756c958dbe102075f8145ef76a791d245ed9499279a91ac2247"), looks := false }, kinds := [], alts := [], laidByText := true, laidKinds := [.data, .pinned], laidTests := true, laidLooks := .later }
def FnExactReplaceWordCardSaid : Prop := Claim7.holds Tryd.pinned (.plain (OpenSpec.ofChange fnExactReplaceWordSpec)) fnExactReplaceWordCard

/-- THE SECOND FORM's CARD OF 'laws.FnExactSetGalley'. -/
def fnExactSetGalleyUptoCard : Claim7 := { stood := { row := fnExactSetGalleyUptoRow, standIns := [], harness := (true, "21d266a348a3c756c958dbe102075f8145ef76a791d245ed9499279a91ac2247"), looks := false }, kinds := [], alts := [], laidByText := true, laidKinds := [.data, .pinned], laidTests := true, laidLooks := .later }
def FnExactSetGalleyUptoCardSaid : Prop := Claim7.holds Tryd.pinned (.plain (OpenSpec.upto fnExactSetGalleySpec)) fnExactSetGalleyUptoCard

/-- THE SECOND FORM's CARD OF 'laws.FnExactReplaceWord'. -/
def fnExactReplaceWordUptoCard : Claim7 := { stood := { row := fnExactReplaceWordUptoRow, standIns := [], harness := (true, "21d266a348a3c756c958dbe102075f8145ef76a791d245ed9499279a91ac2247"), looks := false }, kinds := [], alts := [], laidByText := true, laidKinds := [.data, .pinned], laidTests := true, laidLooks := .later }
def FnExactReplaceWordUptoCardSaid : Prop := Claim7.holds Tryd.pinned (.plain (OpenSpec.upto fnExactReplaceWordSpec)) fnExactReplaceWordUptoCard
end Rows
end Go.Proofs.YtniopnhpdfpkkaaDoor
