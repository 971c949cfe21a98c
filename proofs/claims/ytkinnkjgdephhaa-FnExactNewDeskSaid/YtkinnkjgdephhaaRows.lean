/-
  No cell of these rows narrows 'for every input' (looked for: loops, veiled, ifaces, maps, wideKeys, modest, calm, conditions, laid).
  DERIVED. THE GIVEN ROWS OF THIS SEAT. 11 by the template 'for every input the law returns true; each argument reads behind the call as it read before'; 0 by the template 'total and deterministic' (their statements: YtkinnkjgdephhaaTotals.lean).
  GIVEN WITH THE SEED: the statements are not yours to turn. If you find one false, say at which input.
  Laid BY PROGRAM, IN A SANDBOX (cutbox-rows.mjs): the forced cells as the released guide's own fill.sh prints them over the translation 7d063819b919d11a… (all of the seat's roots in one cut). By AI agents, Wed Nov 11 2026. No macro, syntax, notation, axiom, sorry.
-/
import Derived.Test.YtkinnkjgdephhaaChecked
import GoSem.Claim
import GoSem.ClaimJoined
import GoSem.ClaimMapViews
import Derived.JoinedTies
import Derived.KernelRfl
namespace Go.Proofs.Ytkinnkjgdephhaa
/- THE CELL 'sum', in the pinned program and in every row, IS THE sha256 OF THE DUMP (.gsa) THAT YtkinnkjgdephhaaProg.lean LOADS. Nothing in Lean hashes anything: it is a label: what it is worth is what the hold of that sum in a sandbox is worth. -/
noncomputable def Try.pinned : Pinned := { name := "ytkinnkjgdephhaa", sum := "7d063819b919d11a7a54a4f6d2fb95474666db3c961250716d5595a11182ab1a", checked := Try.checked }
namespace Rows
def none {H : Type} : Left H := { results := [], args := [] }

/-- 'laws.FnExactMachineOk': WHATEVER THE INPUT: true; the input reads as it did. -/
def fnExactMachineOkSpec : ChangeSpec := { name := "fnExactMachineOk", fn := fun _ => fun
  | [d] => { results := [.lit (.bool true)], args := [d] }
  | _ => none }
def fnExactMachineOkRow : OpenClaim := { program := "ytkinnkjgdephhaa", sum := "7d063819b919d11a7a54a4f6d2fb95474666db3c961250716d5595a11182ab1a", func := "loop.example/g03230/laws.FnExactMachineOk", spec := "fnExactMachineOk", unfollowed := true, recurses := true, apart := false }
def FnExactMachineOkSaid : Prop := fnExactMachineOkRow.holds Try.pinned (OpenSpec.ofChange fnExactMachineOkSpec)

/-- ITS FALSE NEIGHBOUR: 'it returns false'. Refute it at one input. -/
def fnExactMachineOkWrong : ChangeSpec := { name := "fnExactMachineOk", fn := fun _ => fun
  | [d] => { results := [.lit (.bool false)], args := [d] }
  | _ => none }
def FnExactMachineOkWrongFalsely : Prop := fnExactMachineOkRow.holds Try.pinned (OpenSpec.ofChange fnExactMachineOkWrong)

/-- 'laws.FnExactLineText': WHATEVER THE INPUT: true; the input reads as it did. -/
def fnExactLineTextSpec : ChangeSpec := { name := "fnExactLineText", fn := fun _ => fun
  | [d] => { results := [.lit (.bool true)], args := [d] }
  | _ => none }
def fnExactLineTextRow : OpenClaim := { program := "ytkinnkjgdephhaa", sum := "7d063819b919d11a7a54a4f6d2fb95474666db3c961250716d5595a11182ab1a", func := "loop.example/g03230/laws.FnExactLineText", spec := "fnExactLineText", unfollowed := true, recurses := true, apart := false }
def FnExactLineTextSaid : Prop := fnExactLineTextRow.holds Try.pinned (OpenSpec.ofChange fnExactLineTextSpec)

/-- ITS FALSE NEIGHBOUR: 'it returns false'. Refute it at one input. -/
def fnExactLineTextWrong : ChangeSpec := { name := "fnExactLineText", fn := fun _ => fun
  | [d] => { results := [.lit (.bool false)], args := [d] }
  | _ => none }
def FnExactLineTextWrongFalsely : Prop := fnExactLineTextRow.holds Try.pinned (OpenSpec.ofChange fnExactLineTextWrong)

/-- 'laws.FnExactItemsOf': WHATEVER THE INPUT: true; the input reads as it did. -/
def fnExactItemsOfSpec : ChangeSpec := { name := "fnExactItemsOf", fn := fun _ => fun
  | [d] => { results := [.lit (.bool true)], args := [d] }
  | _ => none }
def fnExactItemsOfRow : OpenClaim := { program := "ytkinnkjgdephhaa", sum := "7d063819b919d11a7a54a4f6d2fb95474666db3c961250716d5595a11182ab1a", func := "loop.example/g03230/laws.FnExactItemsOf", spec := "fnExactItemsOf", unfollowed := true, recurses := true, apart := false }
def FnExactItemsOfSaid : Prop := fnExactItemsOfRow.holds Try.pinned (OpenSpec.ofChange fnExactItemsOfSpec)

/-- ITS FALSE NEIGHBOUR: 'it returns false'. Refute it at one input. -/
def fnExactItemsOfWrong : ChangeSpec := { name := "fnExactItemsOf", fn := fun _ => fun
  | [d] => { results := [.lit (.bool false)], args := [d] }
  | _ => none }
def FnExactItemsOfWrongFalsely : Prop := fnExactItemsOfRow.holds Try.pinned (OpenSpec.ofChange fnExactItemsOfWrong)

/-- 'laws.FnExactCountAll': WHATEVER THE INPUT: true; the input reads as it did. -/
def fnExactCountAllSpec : ChangeSpec := { name := "fnExactCountAll", fn := fun _ => fun
  | [d] => { results := [.lit (.bool true)], args := [d] }
  | _ => none }
def fnExactCountAllRow : OpenClaim := { program := "ytkinnkjgdephhaa", sum := "7d063819b919d11a7a54a4f6d2fb95474666db3c961250716d5595a11182ab1a", func := "loop.example/g03230/laws.FnExactCountAll", spec := "fnExactCountAll", unfollowed := true, recurses := true, apart := false }
def FnExactCountAllSaid : Prop := fnExactCountAllRow.holds Try.pinned (OpenSpec.ofChange fnExactCountAllSpec)

/-- ITS FALSE NEIGHBOUR: 'it returns false'. Refute it at one input. -/
def fnExactCountAllWrong : ChangeSpec := { name := "fnExactCountAll", fn := fun _ => fun
  | [d] => { results := [.lit (.bool false)], args := [d] }
  | _ => none }
def FnExactCountAllWrongFalsely : Prop := fnExactCountAllRow.holds Try.pinned (OpenSpec.ofChange fnExactCountAllWrong)

/-- 'laws.FnExactNewMachine': WHATEVER THE INPUT: true; the input reads as it did. -/
def fnExactNewMachineSpec : ChangeSpec := { name := "fnExactNewMachine", fn := fun _ => fun
  | [d1, d2, d3, d4] => { results := [.lit (.bool true)], args := [d1, d2, d3, d4] }
  | _ => none }
def fnExactNewMachineRow : OpenClaim := { program := "ytkinnkjgdephhaa", sum := "7d063819b919d11a7a54a4f6d2fb95474666db3c961250716d5595a11182ab1a", func := "loop.example/g03230/laws.FnExactNewMachine", spec := "fnExactNewMachine", unfollowed := true, recurses := true, apart := false }
def FnExactNewMachineSaid : Prop := fnExactNewMachineRow.holds Try.pinned (OpenSpec.ofChange fnExactNewMachineSpec)

/-- ITS FALSE NEIGHBOUR: 'it returns false'. Refute it at one input. -/
def fnExactNewMachineWrong : ChangeSpec := { name := "fnExactNewMachine", fn := fun _ => fun
  | [d1, d2, d3, d4] => { results := [.lit (.bool false)], args := [d1, d2, d3, d4] }
  | _ => none }
def FnExactNewMachineWrongFalsely : Prop := fnExactNewMachineRow.holds Try.pinned (OpenSpec.ofChange fnExactNewMachineWrong)

/-- 'laws.FnExactWearMachine': WHATEVER THE INPUT: true; the input reads as it did. -/
def fnExactWearMachineSpec : ChangeSpec := { name := "fnExactWearMachine", fn := fun _ => fun
  | [d1, d2, d3, d4] => { results := [.lit (.bool true)], args := [d1, d2, d3, d4] }
  | _ => none }
def fnExactWearMachineRow : OpenClaim := { program := "ytkinnkjgdephhaa", sum := "7d063819b919d11a7a54a4f6d2fb95474666db3c961250716d5595a11182ab1a", func := "loop.example/g03230/laws.FnExactWearMachine", spec := "fnExactWearMachine", unfollowed := true, recurses := true, apart := false }
def FnExactWearMachineSaid : Prop := fnExactWearMachineRow.holds Try.pinned (OpenSpec.ofChange fnExactWearMachineSpec)

/-- ITS FALSE NEIGHBOUR: 'it returns false'. Refute it at one input. -/
def fnExactWearMachineWrong : ChangeSpec := { name := "fnExactWearMachine", fn := fun _ => fun
  | [d1, d2, d3, d4] => { results := [.lit (.bool false)], args := [d1, d2, d3, d4] }
  | _ => none }
def FnExactWearMachineWrongFalsely : Prop := fnExactWearMachineRow.holds Try.pinned (OpenSpec.ofChange fnExactWearMachineWrong)

/-- 'laws.FnExactNewDesk': WHATEVER THE INPUT: true; the input reads as it did. -/
def fnExactNewDeskSpec : ChangeSpec := { name := "fnExactNewDesk", fn := fun _ => fun
  | [] => { results := [.lit (.bool true)], args := [] }
  | _ => none }
def fnExactNewDeskRow : OpenClaim := { program := "ytkinnkjgdephhaa", sum := "7d063819b919d11a7a54a4f6d2fb95474666db3c961250716d5595a11182ab1a", func := "loop.example/g03230/laws.FnExactNewDesk", spec := "fnExactNewDesk", unfollowed := true, recurses := true, apart := false }
def FnExactNewDeskSaid : Prop := fnExactNewDeskRow.holds Try.pinned (OpenSpec.ofChange fnExactNewDeskSpec)

/-- ITS FALSE NEIGHBOUR: 'it returns false'. Refute it at one input. -/
def fnExactNewDeskWrong : ChangeSpec := { name := "fnExactNewDesk", fn := fun _ => fun
  | [] => { results := [.lit (.bool false)], args := [] }
  | _ => none }
def FnExactNewDeskWrongFalsely : Prop := fnExactNewDeskRow.holds Try.pinned (OpenSpec.ofChange fnExactNewDeskWrong)

/-- 'laws.FnExactDropWaiting': WHATEVER THE INPUT: true; the input reads as it did. -/
def fnExactDropWaitingSpec : ChangeSpec := { name := "fnExactDropWaiting", fn := fun _ => fun
  | [d1, d2] => { results := [.lit (.bool true)], args := [d1, d2] }
  | _ => none }
def fnExactDropWaitingRow : OpenClaim := { program := "ytkinnkjgdephhaa", sum := "7d063819b919d11a7a54a4f6d2fb95474666db3c961250716d5595a11182ab1a", func := "loop.example/g03230/laws.FnExactDropWaiting", spec := "fnExactDropWaiting", unfollowed := true, recurses := true, apart := false }
def FnExactDropWaitingSaid : Prop := fnExactDropWaitingRow.holds Try.pinned (OpenSpec.ofChange fnExactDropWaitingSpec)

/-- ITS FALSE NEIGHBOUR: 'it returns false'. Refute it at one input. -/
def fnExactDropWaitingWrong : ChangeSpec := { name := "fnExactDropWaiting", fn := fun _ => fun
  | [d1, d2] => { results := [.lit (.bool false)], args := [d1, d2] }
  | _ => none }
def FnExactDropWaitingWrongFalsely : Prop := fnExactDropWaitingRow.holds Try.pinned (OpenSpec.ofChange fnExactDropWaitingWrong)

/-- 'laws.FnExactKeyText': WHATEVER THE INPUT: true; the input reads as it did. -/
def fnExactKeyTextSpec : ChangeSpec := { name := "fnExactKeyText", fn := fun _ => fun
  | [d1, d2] => { results := [.lit (.bool true)], args := [d1, d2] }
  | _ => none }
def fnExactKeyTextRow : OpenClaim := { program := "ytkinnkjgdephhaa", sum := "7d063819b919d11a7a54a4f6d2fb95474666db3c961250716d5595a11182ab1a", func := "loop.example/g03230/laws.FnExactKeyText", spec := "fnExactKeyText", unfollowed := true, recurses := true, apart := false }
def FnExactKeyTextSaid : Prop := fnExactKeyTextRow.holds Try.pinned (OpenSpec.ofChange fnExactKeyTextSpec)

/-- ITS FALSE NEIGHBOUR: 'it returns false'. Refute it at one input. -/
def fnExactKeyTextWrong : ChangeSpec := { name := "fnExactKeyText", fn := fun _ => fun
  | [d1, d2] => { results := [.lit (.bool false)], args := [d1, d2] }
  | _ => none }
def FnExactKeyTextWrongFalsely : Prop := fnExactKeyTextRow.holds Try.pinned (OpenSpec.ofChange fnExactKeyTextWrong)

/-- 'laws.FnHeld': WHATEVER THE INPUT: true; the input reads as it did. -/
def fnHeldSpec : ChangeSpec := { name := "fnHeld", fn := fun _ => fun
  | [d] => { results := [.lit (.bool true)], args := [d] }
  | _ => none }
def fnHeldRow : OpenClaim := { program := "ytkinnkjgdephhaa", sum := "7d063819b919d11a7a54a4f6d2fb95474666db3c961250716d5595a11182ab1a", func := "loop.example/g03230/laws.FnHeld", spec := "fnHeld", unfollowed := true, recurses := true, apart := false }
def FnHeldSaid : Prop := fnHeldRow.holds Try.pinned (OpenSpec.ofChange fnHeldSpec)

/-- ITS FALSE NEIGHBOUR: 'it returns false'. Refute it at one input. -/
def fnHeldWrong : ChangeSpec := { name := "fnHeld", fn := fun _ => fun
  | [d] => { results := [.lit (.bool false)], args := [d] }
  | _ => none }
def FnHeldWrongFalsely : Prop := fnHeldRow.holds Try.pinned (OpenSpec.ofChange fnHeldWrong)

/-- 'laws.FnExactCastLine': WHATEVER THE INPUT: true; the input reads as it did. -/
def fnExactCastLineSpec : ChangeSpec := { name := "fnExactCastLine", fn := fun _ => fun
  | [d1, d2] => { results := [.lit (.bool true)], args := [d1, d2] }
  | _ => none }
def fnExactCastLineRow : OpenClaim := { program := "ytkinnkjgdephhaa", sum := "7d063819b919d11a7a54a4f6d2fb95474666db3c961250716d5595a11182ab1a", func := "loop.example/g03230/laws.FnExactCastLine", spec := "fnExactCastLine", unfollowed := true, recurses := true, apart := false }
def FnExactCastLineSaid : Prop := fnExactCastLineRow.holds Try.pinned (OpenSpec.ofChange fnExactCastLineSpec)

/-- ITS FALSE NEIGHBOUR: 'it returns false'. Refute it at one input. -/
def fnExactCastLineWrong : ChangeSpec := { name := "fnExactCastLine", fn := fun _ => fun
  | [d1, d2] => { results := [.lit (.bool false)], args := [d1, d2] }
  | _ => none }
def FnExactCastLineWrongFalsely : Prop := fnExactCastLineRow.holds Try.pinned (OpenSpec.ofChange fnExactCastLineWrong)

/- THE SECOND FORM. 'bulk': how many values and letters a reading holds, each counted each time it is reached (what is shared counts as often as it is met; a slice's spare places count too). A statement '..UptoSaid' is the law's where the arguments, and the package variables that the reading takes, are together of bulk at most 1048576: NARROWER than '..Said'. Prove '..Said' where nothing that the law and all that it calls make is longer than what came in: it says more and counts as full. Else prove '..UptoSaid'. A law counts once. -/
mutual
def uptoBulk {H : Type} : DataW H → Nat
  | .lit (.string bytes) => bytes.length + 1
  | .lit _ => 1
  | .nil => 1
  | .ptr d => uptoBulk d + 1
  | .slice elems spare => uptoBulkAll elems + uptoBulkAll spare + 1
  | .agg parts => uptoBulkAll parts + 1
  | .iface _ d => uptoBulk d + 1
  | .map entries => uptoBulkEntries entries + 1
  | .held _ => 1
def uptoBulkAll {H : Type} : List (DataW H) → Nat
  | [] => 0
  | d :: r => uptoBulk d + uptoBulkAll r
def uptoBulkEntries {H : Type} : List (Lit × DataW H) → Nat
  | [] => 0
  | x :: r => uptoBulkEntry x + uptoBulkEntries r
def uptoBulkEntry {H : Type} : Lit × DataW H → Nat
  | (.string bytes, d) => bytes.length + uptoBulk d + 1
  | (_, d) => uptoBulk d + 1
 end
def uptoSmall : (H : Type) → List (DataW H) → Bool := fun _ ds => decide (uptoBulkAll ds ≤ 1048576)
def OpenSpec.upto (s : _root_.Go.ChangeSpec) : _root_.Go.OpenSpec := { _root_.Go.OpenSpec.ofChange s with cond := some uptoSmall }

/-- 'laws.FnExactMachineOk', WHERE WHAT IT READS IS OF BULK AT MOST 1048576: true; the input reads as it did. -/
def fnExactMachineOkUptoRow : OpenClaim := { program := "ytkinnkjgdephhaa", sum := "7d063819b919d11a7a54a4f6d2fb95474666db3c961250716d5595a11182ab1a", func := "loop.example/g03230/laws.FnExactMachineOk", spec := "fnExactMachineOk", unfollowed := true, recurses := true, apart := false, narrowed := true }
def FnExactMachineOkUptoSaid : Prop := fnExactMachineOkUptoRow.holds Try.pinned (OpenSpec.upto fnExactMachineOkSpec)

/-- 'laws.FnExactLineText', WHERE WHAT IT READS IS OF BULK AT MOST 1048576: true; the input reads as it did. -/
def fnExactLineTextUptoRow : OpenClaim := { program := "ytkinnkjgdephhaa", sum := "7d063819b919d11a7a54a4f6d2fb95474666db3c961250716d5595a11182ab1a", func := "loop.example/g03230/laws.FnExactLineText", spec := "fnExactLineText", unfollowed := true, recurses := true, apart := false, narrowed := true }
def FnExactLineTextUptoSaid : Prop := fnExactLineTextUptoRow.holds Try.pinned (OpenSpec.upto fnExactLineTextSpec)

/-- 'laws.FnExactItemsOf', WHERE WHAT IT READS IS OF BULK AT MOST 1048576: true; the input reads as it did. -/
def fnExactItemsOfUptoRow : OpenClaim := { program := "ytkinnkjgdephhaa", sum := "7d063819b919d11a7a54a4f6d2fb95474666db3c961250716d5595a11182ab1a", func := "loop.example/g03230/laws.FnExactItemsOf", spec := "fnExactItemsOf", unfollowed := true, recurses := true, apart := false, narrowed := true }
def FnExactItemsOfUptoSaid : Prop := fnExactItemsOfUptoRow.holds Try.pinned (OpenSpec.upto fnExactItemsOfSpec)

/-- 'laws.FnExactCountAll', WHERE WHAT IT READS IS OF BULK AT MOST 1048576: true; the input reads as it did. -/
def fnExactCountAllUptoRow : OpenClaim := { program := "ytkinnkjgdephhaa", sum := "7d063819b919d11a7a54a4f6d2fb95474666db3c961250716d5595a11182ab1a", func := "loop.example/g03230/laws.FnExactCountAll", spec := "fnExactCountAll", unfollowed := true, recurses := true, apart := false, narrowed := true }
def FnExactCountAllUptoSaid : Prop := fnExactCountAllUptoRow.holds Try.pinned (OpenSpec.upto fnExactCountAllSpec)

/-- 'laws.FnExactNewMachine', WHERE WHAT IT READS IS OF BULK AT MOST 1048576: true; the input reads as it did. -/
def fnExactNewMachineUptoRow : OpenClaim := { program := "ytkinnkjgdephhaa", sum := "7d063819b919d11a7a54a4f6d2fb95474666db3c961250716d5595a11182ab1a", func := "loop.example/g03230/laws.FnExactNewMachine", spec := "fnExactNewMachine", unfollowed := true, recurses := true, apart := false, narrowed := true }
def FnExactNewMachineUptoSaid : Prop := fnExactNewMachineUptoRow.holds Try.pinned (OpenSpec.upto fnExactNewMachineSpec)

/-- 'laws.FnExactWearMachine', WHERE WHAT IT READS IS OF BULK AT MOST 1048576: true; the input reads as it did. -/
def fnExactWearMachineUptoRow : OpenClaim := { program := "ytkinnkjgdephhaa", sum := "7d063819b919d11a7a54a4f6d2fb95474666db3c961250716d5595a11182ab1a", func := "loop.example/g03230/laws.FnExactWearMachine", spec := "fnExactWearMachine", unfollowed := true, recurses := true, apart := false, narrowed := true }
def FnExactWearMachineUptoSaid : Prop := fnExactWearMachineUptoRow.holds Try.pinned (OpenSpec.upto fnExactWearMachineSpec)

/-- 'laws.FnExactNewDesk', WHERE WHAT IT READS IS OF BULK AT MOST 1048576: true; the input reads as it did. -/
def fnExactNewDeskUptoRow : OpenClaim := { program := "ytkinnkjgdephhaa", sum := "7d063819b919d11a7a54a4f6d2fb95474666db3c961250716d5595a11182ab1a", func := "loop.example/g03230/laws.FnExactNewDesk", spec := "fnExactNewDesk", unfollowed := true, recurses := true, apart := false, narrowed := true }
def FnExactNewDeskUptoSaid : Prop := fnExactNewDeskUptoRow.holds Try.pinned (OpenSpec.upto fnExactNewDeskSpec)

/-- 'laws.FnExactDropWaiting', WHERE WHAT IT READS IS OF BULK AT MOST 1048576: true; the input reads as it did. -/
def fnExactDropWaitingUptoRow : OpenClaim := { program := "ytkinnkjgdephhaa", sum := "7d063819b919d11a7a54a4f6d2fb95474666db3c961250716d5595a11182ab1a", func := "loop.example/g03230/laws.FnExactDropWaiting", spec := "fnExactDropWaiting", unfollowed := true, recurses := true, apart := false, narrowed := true }
def FnExactDropWaitingUptoSaid : Prop := fnExactDropWaitingUptoRow.holds Try.pinned (OpenSpec.upto fnExactDropWaitingSpec)

/-- 'laws.FnExactKeyText', WHERE WHAT IT READS IS OF BULK AT MOST 1048576: true; the input reads as it did. -/
def fnExactKeyTextUptoRow : OpenClaim := { program := "ytkinnkjgdephhaa", sum := "7d063819b919d11a7a54a4f6d2fb95474666db3c961250716d5595a11182ab1a", func := "loop.example/g03230/laws.FnExactKeyText", spec := "fnExactKeyText", unfollowed := true, recurses := true, apart := false, narrowed := true }
def FnExactKeyTextUptoSaid : Prop := fnExactKeyTextUptoRow.holds Try.pinned (OpenSpec.upto fnExactKeyTextSpec)

/-- 'laws.FnHeld', WHERE WHAT IT READS IS OF BULK AT MOST 1048576: true; the input reads as it did. -/
def fnHeldUptoRow : OpenClaim := { program := "ytkinnkjgdephhaa", sum := "7d063819b919d11a7a54a4f6d2fb95474666db3c961250716d5595a11182ab1a", func := "loop.example/g03230/laws.FnHeld", spec := "fnHeld", unfollowed := true, recurses := true, apart := false, narrowed := true }
def FnHeldUptoSaid : Prop := fnHeldUptoRow.holds Try.pinned (OpenSpec.upto fnHeldSpec)

/-- 'laws.FnExactCastLine', WHERE WHAT IT READS IS OF BULK AT MOST 1048576: true; the input reads as it did. -/
def fnExactCastLineUptoRow : OpenClaim := { program := "ytkinnkjgdephhaa", sum := "7d063819b919d11a7a54a4f6d2fb95474666db3c961250716d5595a11182ab1a", func := "loop.example/g03230/laws.FnExactCastLine", spec := "fnExactCastLine", unfollowed := true, recurses := true, apart := false, narrowed := true }
def FnExactCastLineUptoSaid : Prop := fnExactCastLineUptoRow.holds Try.pinned (OpenSpec.upto fnExactCastLineSpec)

end Rows
end Go.Proofs.Ytkinnkjgdephhaa
