/-
  No cell of these rows narrows 'for every input' (looked for: loops, veiled, ifaces, maps, wideKeys, modest, calm, conditions, laid).
  DERIVED. THE GIVEN ROWS OF THIS SEAT. 12 by the template 'for every input the law returns true; each argument reads behind the call as it read before'; 0 by the template 'total and deterministic' (their statements: YtnbmlblcmjaclaaTotals.lean).
  GIVEN WITH THE SEED: the statements are not yours to turn. If you find one false, say at which input.
  Laid BY PROGRAM, IN A SANDBOX (cutbox-rows.mjs): the forced cells as the released guide's own fill.sh prints them over the translation d6c29754b7df81bb… (all of the seat's roots in one cut). By AI agents, Wed Nov 11 2026. No macro, syntax, notation, axiom, sorry.
-/
import Derived.Test.YtnbmlblcmjaclaaChecked
import GoSem.Claim
import GoSem.ClaimJoined
import GoSem.ClaimMapViews
import Derived.JoinedTies
import Derived.KernelRfl
namespace Go.Proofs.Ytnbmlblcmjaclaa
/- THE CELL 'sum', in the pinned program and in every row, IS THE sha256 OF THE DUMP (.gsa) THAT YtnbmlblcmjaclaaProg.lean LOADS. Nothing in Lean hashes anything: it is a label: what it is worth is what the hold of that sum in a sandbox is worth. -/
noncomputable def Try.pinned : Pinned := { name := "ytnbmlblcmjaclaa", sum := "d6c29754b7df81bb879cc4e08d48ad2b9c82e0f11cc4b7da379b36d286ec4b01", checked := Try.checked }
namespace Rows
def none {H : Type} : Left H := { results := [], args := [] }

/-- 'laws.FnExactGreedyBreaking': WHATEVER THE INPUT: true; the input reads as it did. -/
def fnExactGreedyBreakingSpec : ChangeSpec := { name := "fnExactGreedyBreaking", fn := fun _ => fun
  | [d1, d2] => { results := [.lit (.bool true)], args := [d1, d2] }
  | _ => none }
def fnExactGreedyBreakingRow : OpenClaim := { program := "ytnbmlblcmjaclaa", sum := "d6c29754b7df81bb879cc4e08d48ad2b9c82e0f11cc4b7da379b36d286ec4b01", func := "loop.example/g03230/laws.FnExactGreedyBreaking", spec := "fnExactGreedyBreaking", unfollowed := true, recurses := true, apart := false }
def FnExactGreedyBreakingSaid : Prop := fnExactGreedyBreakingRow.holds Try.pinned (OpenSpec.ofChange fnExactGreedyBreakingSpec)

/-- ITS FALSE NEIGHBOUR: 'it returns false'. Refute it at one input. -/
def fnExactGreedyBreakingWrong : ChangeSpec := { name := "fnExactGreedyBreaking", fn := fun _ => fun
  | [d1, d2] => { results := [.lit (.bool false)], args := [d1, d2] }
  | _ => none }
def FnExactGreedyBreakingWrongFalsely : Prop := fnExactGreedyBreakingRow.holds Try.pinned (OpenSpec.ofChange fnExactGreedyBreakingWrong)

/-- 'laws.FnExactCostOf': WHATEVER THE INPUT: true; the input reads as it did. -/
def fnExactCostOfSpec : ChangeSpec := { name := "fnExactCostOf", fn := fun _ => fun
  | [d1, d2, d3] => { results := [.lit (.bool true)], args := [d1, d2, d3] }
  | _ => none }
def fnExactCostOfRow : OpenClaim := { program := "ytnbmlblcmjaclaa", sum := "d6c29754b7df81bb879cc4e08d48ad2b9c82e0f11cc4b7da379b36d286ec4b01", func := "loop.example/g03230/laws.FnExactCostOf", spec := "fnExactCostOf", unfollowed := true, recurses := true, apart := false }
def FnExactCostOfSaid : Prop := fnExactCostOfRow.holds Try.pinned (OpenSpec.ofChange fnExactCostOfSpec)

/-- ITS FALSE NEIGHBOUR: 'it returns false'. Refute it at one input. -/
def fnExactCostOfWrong : ChangeSpec := { name := "fnExactCostOf", fn := fun _ => fun
  | [d1, d2, d3] => { results := [.lit (.bool false)], args := [d1, d2, d3] }
  | _ => none }
def FnExactCostOfWrongFalsely : Prop := fnExactCostOfRow.holds Try.pinned (OpenSpec.ofChange fnExactCostOfWrong)

/-- 'laws.FnWidths': WHATEVER THE INPUT: true; the input reads as it did. -/
def fnWidthsSpec : ChangeSpec := { name := "fnWidths", fn := fun _ => fun
  | [d] => { results := [.lit (.bool true)], args := [d] }
  | _ => none }
def fnWidthsRow : OpenClaim := { program := "ytnbmlblcmjaclaa", sum := "d6c29754b7df81bb879cc4e08d48ad2b9c82e0f11cc4b7da379b36d286ec4b01", func := "loop.example/g03230/laws.FnWidths", spec := "fnWidths", unfollowed := true, recurses := true, apart := false }
def FnWidthsSaid : Prop := fnWidthsRow.holds Try.pinned (OpenSpec.ofChange fnWidthsSpec)

/-- ITS FALSE NEIGHBOUR: 'it returns false'. Refute it at one input. -/
def fnWidthsWrong : ChangeSpec := { name := "fnWidths", fn := fun _ => fun
  | [d] => { results := [.lit (.bool false)], args := [d] }
  | _ => none }
def FnWidthsWrongFalsely : Prop := fnWidthsRow.holds Try.pinned (OpenSpec.ofChange fnWidthsWrong)

/-- 'laws.FnExactWidthsFor': WHATEVER THE INPUT: true; the input reads as it did. -/
def fnExactWidthsForSpec : ChangeSpec := { name := "fnExactWidthsFor", fn := fun _ => fun
  | [d1, d2, d3] => { results := [.lit (.bool true)], args := [d1, d2, d3] }
  | _ => none }
def fnExactWidthsForRow : OpenClaim := { program := "ytnbmlblcmjaclaa", sum := "d6c29754b7df81bb879cc4e08d48ad2b9c82e0f11cc4b7da379b36d286ec4b01", func := "loop.example/g03230/laws.FnExactWidthsFor", spec := "fnExactWidthsFor", unfollowed := true, recurses := true, apart := false }
def FnExactWidthsForSaid : Prop := fnExactWidthsForRow.holds Try.pinned (OpenSpec.ofChange fnExactWidthsForSpec)

/-- ITS FALSE NEIGHBOUR: 'it returns false'. Refute it at one input. -/
def fnExactWidthsForWrong : ChangeSpec := { name := "fnExactWidthsFor", fn := fun _ => fun
  | [d1, d2, d3] => { results := [.lit (.bool false)], args := [d1, d2, d3] }
  | _ => none }
def FnExactWidthsForWrongFalsely : Prop := fnExactWidthsForRow.holds Try.pinned (OpenSpec.ofChange fnExactWidthsForWrong)

/-- 'laws.FnLetters': WHATEVER THE INPUT: true; the input reads as it did. -/
def fnLettersSpec : ChangeSpec := { name := "fnLetters", fn := fun _ => fun
  | [d] => { results := [.lit (.bool true)], args := [d] }
  | _ => none }
def fnLettersRow : OpenClaim := { program := "ytnbmlblcmjaclaa", sum := "d6c29754b7df81bb879cc4e08d48ad2b9c82e0f11cc4b7da379b36d286ec4b01", func := "loop.example/g03230/laws.FnLetters", spec := "fnLetters", unfollowed := true, recurses := true, apart := false }
def FnLettersSaid : Prop := fnLettersRow.holds Try.pinned (OpenSpec.ofChange fnLettersSpec)

/-- ITS FALSE NEIGHBOUR: 'it returns false'. Refute it at one input. -/
def fnLettersWrong : ChangeSpec := { name := "fnLetters", fn := fun _ => fun
  | [d] => { results := [.lit (.bool false)], args := [d] }
  | _ => none }
def FnLettersWrongFalsely : Prop := fnLettersRow.holds Try.pinned (OpenSpec.ofChange fnLettersWrong)

/-- 'laws.FnExactBreakingAt': WHATEVER THE INPUT: true; the input reads as it did. -/
def fnExactBreakingAtSpec : ChangeSpec := { name := "fnExactBreakingAt", fn := fun _ => fun
  | [d1, d2, d3] => { results := [.lit (.bool true)], args := [d1, d2, d3] }
  | _ => none }
def fnExactBreakingAtRow : OpenClaim := { program := "ytnbmlblcmjaclaa", sum := "d6c29754b7df81bb879cc4e08d48ad2b9c82e0f11cc4b7da379b36d286ec4b01", func := "loop.example/g03230/laws.FnExactBreakingAt", spec := "fnExactBreakingAt", unfollowed := true, recurses := true, apart := false }
def FnExactBreakingAtSaid : Prop := fnExactBreakingAtRow.holds Try.pinned (OpenSpec.ofChange fnExactBreakingAtSpec)

/-- ITS FALSE NEIGHBOUR: 'it returns false'. Refute it at one input. -/
def fnExactBreakingAtWrong : ChangeSpec := { name := "fnExactBreakingAt", fn := fun _ => fun
  | [d1, d2, d3] => { results := [.lit (.bool false)], args := [d1, d2, d3] }
  | _ => none }
def FnExactBreakingAtWrongFalsely : Prop := fnExactBreakingAtRow.holds Try.pinned (OpenSpec.ofChange fnExactBreakingAtWrong)

/-- 'laws.FnExactBestBreaking': WHATEVER THE INPUT: true; the input reads as it did. -/
def fnExactBestBreakingSpec : ChangeSpec := { name := "fnExactBestBreaking", fn := fun _ => fun
  | [d1, d2] => { results := [.lit (.bool true)], args := [d1, d2] }
  | _ => none }
def fnExactBestBreakingRow : OpenClaim := { program := "ytnbmlblcmjaclaa", sum := "d6c29754b7df81bb879cc4e08d48ad2b9c82e0f11cc4b7da379b36d286ec4b01", func := "loop.example/g03230/laws.FnExactBestBreaking", spec := "fnExactBestBreaking", unfollowed := true, recurses := true, apart := false }
def FnExactBestBreakingSaid : Prop := fnExactBestBreakingRow.holds Try.pinned (OpenSpec.ofChange fnExactBestBreakingSpec)

/-- ITS FALSE NEIGHBOUR: 'it returns false'. Refute it at one input. -/
def fnExactBestBreakingWrong : ChangeSpec := { name := "fnExactBestBreaking", fn := fun _ => fun
  | [d1, d2] => { results := [.lit (.bool false)], args := [d1, d2] }
  | _ => none }
def FnExactBestBreakingWrongFalsely : Prop := fnExactBestBreakingRow.holds Try.pinned (OpenSpec.ofChange fnExactBestBreakingWrong)

/-- 'laws.FnExactBreakingIndex': WHATEVER THE INPUT: true; the input reads as it did. -/
def fnExactBreakingIndexSpec : ChangeSpec := { name := "fnExactBreakingIndex", fn := fun _ => fun
  | [d1, d2, d3] => { results := [.lit (.bool true)], args := [d1, d2, d3] }
  | _ => none }
def fnExactBreakingIndexRow : OpenClaim := { program := "ytnbmlblcmjaclaa", sum := "d6c29754b7df81bb879cc4e08d48ad2b9c82e0f11cc4b7da379b36d286ec4b01", func := "loop.example/g03230/laws.FnExactBreakingIndex", spec := "fnExactBreakingIndex", unfollowed := true, recurses := true, apart := false }
def FnExactBreakingIndexSaid : Prop := fnExactBreakingIndexRow.holds Try.pinned (OpenSpec.ofChange fnExactBreakingIndexSpec)

/-- ITS FALSE NEIGHBOUR: 'it returns false'. Refute it at one input. -/
def fnExactBreakingIndexWrong : ChangeSpec := { name := "fnExactBreakingIndex", fn := fun _ => fun
  | [d1, d2, d3] => { results := [.lit (.bool false)], args := [d1, d2, d3] }
  | _ => none }
def FnExactBreakingIndexWrongFalsely : Prop := fnExactBreakingIndexRow.holds Try.pinned (OpenSpec.ofChange fnExactBreakingIndexWrong)

/-- 'laws.FnAscending': WHATEVER THE INPUT: true; the input reads as it did. -/
def fnAscendingSpec : ChangeSpec := { name := "fnAscending", fn := fun _ => fun
  | [d] => { results := [.lit (.bool true)], args := [d] }
  | _ => none }
def fnAscendingRow : OpenClaim := { program := "ytnbmlblcmjaclaa", sum := "d6c29754b7df81bb879cc4e08d48ad2b9c82e0f11cc4b7da379b36d286ec4b01", func := "loop.example/g03230/laws.FnAscending", spec := "fnAscending", unfollowed := true, recurses := true, apart := false }
def FnAscendingSaid : Prop := fnAscendingRow.holds Try.pinned (OpenSpec.ofChange fnAscendingSpec)

/-- ITS FALSE NEIGHBOUR: 'it returns false'. Refute it at one input. -/
def fnAscendingWrong : ChangeSpec := { name := "fnAscending", fn := fun _ => fun
  | [d] => { results := [.lit (.bool false)], args := [d] }
  | _ => none }
def FnAscendingWrongFalsely : Prop := fnAscendingRow.holds Try.pinned (OpenSpec.ofChange fnAscendingWrong)

/-- 'laws.FnGreedy': WHATEVER THE INPUT: true; the input reads as it did. -/
def fnGreedySpec : ChangeSpec := { name := "fnGreedy", fn := fun _ => fun
  | [d] => { results := [.lit (.bool true)], args := [d] }
  | _ => none }
def fnGreedyRow : OpenClaim := { program := "ytnbmlblcmjaclaa", sum := "d6c29754b7df81bb879cc4e08d48ad2b9c82e0f11cc4b7da379b36d286ec4b01", func := "loop.example/g03230/laws.FnGreedy", spec := "fnGreedy", unfollowed := true, recurses := true, apart := false }
def FnGreedySaid : Prop := fnGreedyRow.holds Try.pinned (OpenSpec.ofChange fnGreedySpec)

/-- ITS FALSE NEIGHBOUR: 'it returns false'. Refute it at one input. -/
def fnGreedyWrong : ChangeSpec := { name := "fnGreedy", fn := fun _ => fun
  | [d] => { results := [.lit (.bool false)], args := [d] }
  | _ => none }
def FnGreedyWrongFalsely : Prop := fnGreedyRow.holds Try.pinned (OpenSpec.ofChange fnGreedyWrong)

/-- 'laws.FnIndexed': WHATEVER THE INPUT: true; the input reads as it did. -/
def fnIndexedSpec : ChangeSpec := { name := "fnIndexed", fn := fun _ => fun
  | [d] => { results := [.lit (.bool true)], args := [d] }
  | _ => none }
def fnIndexedRow : OpenClaim := { program := "ytnbmlblcmjaclaa", sum := "d6c29754b7df81bb879cc4e08d48ad2b9c82e0f11cc4b7da379b36d286ec4b01", func := "loop.example/g03230/laws.FnIndexed", spec := "fnIndexed", unfollowed := true, recurses := true, apart := false }
def FnIndexedSaid : Prop := fnIndexedRow.holds Try.pinned (OpenSpec.ofChange fnIndexedSpec)

/-- ITS FALSE NEIGHBOUR: 'it returns false'. Refute it at one input. -/
def fnIndexedWrong : ChangeSpec := { name := "fnIndexed", fn := fun _ => fun
  | [d] => { results := [.lit (.bool false)], args := [d] }
  | _ => none }
def FnIndexedWrongFalsely : Prop := fnIndexedRow.holds Try.pinned (OpenSpec.ofChange fnIndexedWrong)

/-- 'laws.FnBest': WHATEVER THE INPUT: true; the input reads as it did. -/
def fnBestSpec : ChangeSpec := { name := "fnBest", fn := fun _ => fun
  | [d] => { results := [.lit (.bool true)], args := [d] }
  | _ => none }
def fnBestRow : OpenClaim := { program := "ytnbmlblcmjaclaa", sum := "d6c29754b7df81bb879cc4e08d48ad2b9c82e0f11cc4b7da379b36d286ec4b01", func := "loop.example/g03230/laws.FnBest", spec := "fnBest", unfollowed := true, recurses := true, apart := false }
def FnBestSaid : Prop := fnBestRow.holds Try.pinned (OpenSpec.ofChange fnBestSpec)

/-- ITS FALSE NEIGHBOUR: 'it returns false'. Refute it at one input. -/
def fnBestWrong : ChangeSpec := { name := "fnBest", fn := fun _ => fun
  | [d] => { results := [.lit (.bool false)], args := [d] }
  | _ => none }
def FnBestWrongFalsely : Prop := fnBestRow.holds Try.pinned (OpenSpec.ofChange fnBestWrong)

/- THE SECOND FORM. 'bulk': how many values and letters a reading holds, each counted each time it is reached (what is shared counts as often as it is met; a slice's spare places count too). A statement '..UptoSaid' is the law's where the arguments, and the package variables that the reading takes, are together of bulk at most 1048576: NARROWER than '..Said'. Prove '..Said' where nothing that the law and all that it calls make is longer than what came in: it says more and counts as full. Else prove '..UptoSaid'. A law counts once. -/
mutual
def uptoBulk {H : Type} : DataW H → Nat
  | .lit (.string bytes) => bytes.length + 1
  | .lit _ => 1
  | .nil => 1
  | .ptr d => uptoBulk d + 1
  | .slice elems spare => uptoBulkAll elems + uptoBulkAll spare + 1
  | .agg parts => uptoBulkAll parts + 1
  | .iface _ d => uptoBulk d + 1
  | .map entries => uptoBulkEntries entries + 1
  | .held _ => 1
def uptoBulkAll {H : Type} : List (DataW H) → Nat
  | [] => 0
  | d :: r => uptoBulk d + uptoBulkAll r
def uptoBulkEntries {H : Type} : List (Lit × DataW H) → Nat
  | [] => 0
  | x :: r => uptoBulkEntry x + uptoBulkEntries r
def uptoBulkEntry {H : Type} : Lit × DataW H → Nat
  | (.string bytes, d) => bytes.length + uptoBulk d + 1
  | (_, d) => uptoBulk d + 1
 end
def uptoSmall : (H : Type) → List (DataW H) → Bool := fun _ ds => decide (uptoBulkAll ds ≤ 1048576)
def OpenSpec.upto (s : _root_.Go.ChangeSpec) : _root_.Go.OpenSpec := { _root_.Go.OpenSpec.ofChange s with cond := some uptoSmall }

/-- 'laws.FnExactGreedyBreaking', WHERE WHAT IT READS IS OF BULK AT MOST 1048576: true; the input reads as it did. -/
def fnExactGreedyBreakingUptoRow : OpenClaim := { program := "ytnbmlblcmjaclaa", sum := "d6c29754b7df81bb879cc4e08d48ad2b9c82e0f11cc4b7da379b36d286ec4b01", func := "loop.example/g03230/laws.FnExactGreedyBreaking", spec := "fnExactGreedyBreaking", unfollowed := true, recurses := true, apart := false, narrowed := true }
def FnExactGreedyBreakingUptoSaid : Prop := fnExactGreedyBreakingUptoRow.holds Try.pinned (OpenSpec.upto fnExactGreedyBreakingSpec)

/-- 'laws.FnExactCostOf', WHERE WHAT IT READS IS OF BULK AT MOST 1048576: true; the input reads as it did. -/
def fnExactCostOfUptoRow : OpenClaim := { program := "ytnbmlblcmjaclaa", sum := "d6c29754b7df81bb879cc4e08d48ad2b9c82e0f11cc4b7da379b36d286ec4b01", func := "loop.example/g03230/laws.FnExactCostOf", spec := "fnExactCostOf", unfollowed := true, recurses := true, apart := false, narrowed := true }
def FnExactCostOfUptoSaid : Prop := fnExactCostOfUptoRow.holds Try.pinned (OpenSpec.upto fnExactCostOfSpec)

/-- 'laws.FnWidths', WHERE WHAT IT READS IS OF BULK AT MOST 1048576: true; the input reads as it did. -/
def fnWidthsUptoRow : OpenClaim := { program := "ytnbmlblcmjaclaa", sum := "d6c29754b7df81bb879cc4e08d48ad2b9c82e0f11cc4b7da379b36d286ec4b01", func := "loop.example/g03230/laws.FnWidths", spec := "fnWidths", unfollowed := true, recurses := true, apart := false, narrowed := true }
def FnWidthsUptoSaid : Prop := fnWidthsUptoRow.holds Try.pinned (OpenSpec.upto fnWidthsSpec)

/-- 'laws.FnExactWidthsFor', WHERE WHAT IT READS IS OF BULK AT MOST 1048576: true; the input reads as it did. -/
def fnExactWidthsForUptoRow : OpenClaim := { program := "ytnbmlblcmjaclaa", sum := "d6c29754b7df81bb879cc4e08d48ad2b9c82e0f11cc4b7da379b36d286ec4b01", func := "loop.example/g03230/laws.FnExactWidthsFor", spec := "fnExactWidthsFor", unfollowed := true, recurses := true, apart := false, narrowed := true }
def FnExactWidthsForUptoSaid : Prop := fnExactWidthsForUptoRow.holds Try.pinned (OpenSpec.upto fnExactWidthsForSpec)

/-- 'laws.FnLetters', WHERE WHAT IT READS IS OF BULK AT MOST 1048576: true; the input reads as it did. -/
def fnLettersUptoRow : OpenClaim := { program := "ytnbmlblcmjaclaa", sum := "d6c29754b7df81bb879cc4e08d48ad2b9c82e0f11cc4b7da379b36d286ec4b01", func := "loop.example/g03230/laws.FnLetters", spec := "fnLetters", unfollowed := true, recurses := true, apart := false, narrowed := true }
def FnLettersUptoSaid : Prop := fnLettersUptoRow.holds Try.pinned (OpenSpec.upto fnLettersSpec)

/-- 'laws.FnExactBreakingAt', WHERE WHAT IT READS IS OF BULK AT MOST 1048576: true; the input reads as it did. -/
def fnExactBreakingAtUptoRow : OpenClaim := { program := "ytnbmlblcmjaclaa", sum := "d6c29754b7df81bb879cc4e08d48ad2b9c82e0f11cc4b7da379b36d286ec4b01", func := "loop.example/g03230/laws.FnExactBreakingAt", spec := "fnExactBreakingAt", unfollowed := true, recurses := true, apart := false, narrowed := true }
def FnExactBreakingAtUptoSaid : Prop := fnExactBreakingAtUptoRow.holds Try.pinned (OpenSpec.upto fnExactBreakingAtSpec)

/-- 'laws.FnExactBestBreaking', WHERE WHAT IT READS IS OF BULK AT MOST 1048576: true; the input reads as it did. -/
def fnExactBestBreakingUptoRow : OpenClaim := { program := "ytnbmlblcmjaclaa", sum := "d6c29754b7df81bb879cc4e08d48ad2b9c82e0f11cc4b7da379b36d286ec4b01", func := "loop.example/g03230/laws.FnExactBestBreaking", spec := "fnExactBestBreaking", unfollowed := true, recurses := true, apart := false, narrowed := true }
def FnExactBestBreakingUptoSaid : Prop := fnExactBestBreakingUptoRow.holds Try.pinned (OpenSpec.upto fnExactBestBreakingSpec)

/-- 'laws.FnExactBreakingIndex', WHERE WHAT IT READS IS OF BULK AT MOST 1048576: true; the input reads as it did. -/
def fnExactBreakingIndexUptoRow : OpenClaim := { program := "ytnbmlblcmjaclaa", sum := "d6c29754b7df81bb879cc4e08d48ad2b9c82e0f11cc4b7da379b36d286ec4b01", func := "loop.example/g03230/laws.FnExactBreakingIndex", spec := "fnExactBreakingIndex", unfollowed := true, recurses := true, apart := false, narrowed := true }
def FnExactBreakingIndexUptoSaid : Prop := fnExactBreakingIndexUptoRow.holds Try.pinned (OpenSpec.upto fnExactBreakingIndexSpec)

/-- 'laws.FnAscending', WHERE WHAT IT READS IS OF BULK AT MOST 1048576: true; the input reads as it did. -/
def fnAscendingUptoRow : OpenClaim := { program := "ytnbmlblcmjaclaa", sum := "d6c29754b7df81bb879cc4e08d48ad2b9c82e0f11cc4b7da379b36d286ec4b01", func := "loop.example/g03230/laws.FnAscending", spec := "fnAscending", unfollowed := true, recurses := true, apart := false, narrowed := true }
def FnAscendingUptoSaid : Prop := fnAscendingUptoRow.holds Try.pinned (OpenSpec.upto fnAscendingSpec)

/-- 'laws.FnGreedy', WHERE WHAT IT READS IS OF BULK AT MOST 1048576: true; the input reads as it did. -/
def fnGreedyUptoRow : OpenClaim := { program := "ytnbmlblcmjaclaa", sum := "d6c29754b7df81bb879cc4e08d48ad2b9c82e0f11cc4b7da379b36d286ec4b01", func := "loop.example/g03230/laws.FnGreedy", spec := "fnGreedy", unfollowed := true, recurses := true, apart := false, narrowed := true }
def FnGreedyUptoSaid : Prop := fnGreedyUptoRow.holds Try.pinned (OpenSpec.upto fnGreedySpec)

/-- 'laws.FnIndexed', WHERE WHAT IT READS IS OF BULK AT MOST 1048576: true; the input reads as it did. -/
def fnIndexedUptoRow : OpenClaim := { program := "ytnbmlblcmjaclaa", sum := "d6c29754b7df81bb879cc4e08d48ad2b9c82e0f11cc4b7da379b36d286ec4b01", func := "loop.example/g03230/laws.FnIndexed", spec := "fnIndexed", unfollowed := true, recurses := true, apart := false, narrowed := true }
def FnIndexedUptoSaid : Prop := fnIndexedUptoRow.holds Try.pinned (OpenSpec.upto fnIndexedSpec)

/-- 'laws.FnBest', WHERE WHAT IT READS IS OF BULK AT MOST 1048576: true; the input reads as it did. -/
def fnBestUptoRow : OpenClaim := { program := "ytnbmlblcmjaclaa", sum := "d6c29754b7df81bb879cc4e08d48ad2b9c82e0f11cc4b7da379b36d286ec4b01", func := "loop.example/g03230/laws.FnBest", spec := "fnBest", unfollowed := true, recurses := true, apart := false, narrowed := true }
def FnBestUptoSaid : Prop := fnBestUptoRow.holds Try.pinned (OpenSpec.upto fnBestSpec)

end Rows
end Go.Proofs.Ytnbmlblcmjaclaa
