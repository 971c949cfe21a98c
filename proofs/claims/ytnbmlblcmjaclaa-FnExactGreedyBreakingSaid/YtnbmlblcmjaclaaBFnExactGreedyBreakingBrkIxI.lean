/- Plain laws on the breaking with a number and the number of a breaking, as the program computes them; both wholly. Conditions: none beyond bounds on lengths. -/
import Derived.Test.YtnbmlblcmjaclaaPFnExactGreedyBreaking0
import Derived.Test.YtnbmlblcmjaclaaBFnExactGreedyBreakingBase
import Derived.Test.YtnbmlblcmjaclaaBFnExactGreedyBreakingKinds
import Derived.Test.YtnbmlblcmjaclaaBFnExactGreedyBreakingBrk
import Derived.Test.YtnbmlblcmjaclaaBFnExactGreedyBreakingBrkI
import Derived.Test.YtnbmlblcmjaclaaBFnExactGreedyBreakingBrkAt
import Derived.Test.YtnbmlblcmjaclaaBFnExactGreedyBreakingBrkIx
namespace Go.Proofs.Ytnbmlblcmjaclaa.Pure
open Go.RowKit Go.Proofs.Ytnbmlblcmjaclaa.PFnExactGreedyBreaking Go.Proofs.YtnbmlblcmjaclaaW.PrintWords Go.Proofs.YtnbmlblcmjaclaaW.PrintLast Go.Proofs.YtnbmlblcmjaclaaW.PrintMore
set_option linter.unusedSectionVars false
set_option linter.unusedVariables false
set_option linter.unusedSimpArgs false

/-- How many breakings begin with just so many words in their first line. -/
def bef (W Th Tk : Int) (s : List Int) (n : Nat) : Int := if goesS W Th Tk s n = true then wy W Th Tk (s.drop n) else 0
theorem psum_bef (W Th Tk : Int) (s : List Int) (n : Nat) : psum W Th Tk s (n + 1) = psum W Th Tk s n + bef W Th Tk s (n + 1) := rfl
section
variable {W Th Tk : Int} {ws : List Int} (m : MOk W Th Tk) (h : Sk ws)
include m h
end
/-- The breaking with a number, and whether there is one. -/
def atR (W Th Tk : Int) (ws : List Int) (idx : Int) : List Int × Bool := if bothB W Th Tk ws = true ∧ 0 ≤ idx ∧ idx < wy W Th Tk ws then (atN W Th Tk ws idx, true) else ([], false)
end Go.Proofs.Ytnbmlblcmjaclaa.Pure
