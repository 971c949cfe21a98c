/- Written by a program of this session with the help of the kit's print: of each Go function a Lean function, and the proof that its call comes to just what that tells. No condition beyond those that each theorem states. -/
import Derived.Test.YtlhipchbjgfodaaProg
import Derived.Below
import Derived.Deep.Draws
import Derived.Deep.AppendLies
import Derived.Maps.AppendAt
import Derived.OwnWalk
import Derived.Laws.BytesArg
import Derived.Laws.MakeOwn
import Derived.Laws.OwnMore
import Derived.Deep.OwnRows
import Derived.Tactics
import Derived.Lib.ConvBytes
import Derived.Laws.Slices
import Derived.WalkKit
import Derived.KernelRfl
import Derived.RowKit3
import Derived.Deep.LoopGhost
import Derived.Deep.QuietTactic
import Derived.BigQuiet
import Derived.WideLaws
import Derived.Deep.DeepCutAuto
import Derived.Deep.CutBlock
import Derived.Deep.RegionHeld3
import Derived.Laws.Rows
import Derived.Lib.AppendStr
import Derived.ArgAppend
import Derived.Laws.IdiomCopy
import Derived.OrdersHeld
import Derived.Laws.BitsLemmas
import Derived.RowKit
import Derived.Lib.Hide
import Derived.Test.YtlhipchbjgfodaaWWords
import Derived.Test.YtlhipchbjgfodaaWLast
import Derived.Test.YtlhipchbjgfodaaWTab
import Derived.Test.YtlhipchbjgfodaaWFour
import Derived.Test.YtlhipchbjgfodaaWQPut
import Derived.Test.YtlhipchbjgfodaaWApart
import Derived.Test.YtlhipchbjgfodaaWArr
import Derived.Test.YtlhipchbjgfodaaWZeros
import Derived.Test.YtlhipchbjgfodaaWFoot
import Derived.Test.YtlhipchbjgfodaaWKept
import Derived.Test.YtlhipchbjgfodaaWShare
import Derived.Test.YtlhipchbjgfodaaWN
import Derived.Test.YtlhipchbjgfodaaWFootNe
import Derived.Test.YtlhipchbjgfodaaWAt
import Derived.Test.YtlhipchbjgfodaaWEqStruct
import Derived.Test.YtlhipchbjgfodaaWRepsOne
import Derived.Test.YtlhipchbjgfodaaWInv
import Derived.Test.YtlhipchbjgfodaaWInvWords
import Derived.Test.YtlhipchbjgfodaaWGuard
import Derived.Test.YtlhipchbjgfodaaWNEv
import Derived.Test.YtlhipchbjgfodaaWMore
namespace Go.Proofs.Ytlhipchbjgfodaa.PFnExactResetOf
open Go.RowKit Go.Proofs.YtlhipchbjgfodaaW.PrintWords Go.Proofs.YtlhipchbjgfodaaW.PrintLast Go.Proofs.YtlhipchbjgfodaaW.PrintMore
attribute [local go_sem] max2_int min2_int max_two min_two max_three min_three max_four min_four   -- for this text's walks alone
set_option linter.unusedVariables false
set_option linter.unusedSimpArgs false



def errW : Option Int → Value
  | none => .nilIface
  | some c => .iface 0 (.int .i64 c)
theorem errW_none : errW none = .nilIface := rfl
theorem errW_some (c : Int) : errW (some c) = .iface 0 (.int .i64 c) := rfl

theorem info9 : (Try.prog.info? 9).map (fun i => (i.zero, i.size, i.bytes)) = some (some (.string ⟨#[]⟩), 1, 16) := by kernel_rfl
-- the values' own types

end Go.Proofs.Ytlhipchbjgfodaa.PFnExactResetOf
