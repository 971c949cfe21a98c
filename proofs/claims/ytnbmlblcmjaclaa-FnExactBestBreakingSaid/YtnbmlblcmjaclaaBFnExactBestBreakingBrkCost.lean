/- Plain laws on the cost of a breaking, program and reference. Conditions: bounds on lengths alone. -/
import Derived.Test.YtnbmlblcmjaclaaPFnExactBestBreaking0
import Derived.Test.YtnbmlblcmjaclaaBFnExactBestBreakingBase
import Derived.Test.YtnbmlblcmjaclaaBFnExactBestBreakingKinds
import Derived.Test.YtnbmlblcmjaclaaBFnExactBestBreakingBrk
import Derived.Test.YtnbmlblcmjaclaaBFnExactBestBreakingBrkI
import Derived.Test.YtnbmlblcmjaclaaBFnExactBestBreakingBrkAt
namespace Go.Proofs.Ytnbmlblcmjaclaa.Pure
open Go.RowKit Go.Proofs.Ytnbmlblcmjaclaa.PFnExactBestBreaking Go.Proofs.YtnbmlblcmjaclaaW.PrintWords Go.Proofs.YtnbmlblcmjaclaaW.PrintLast Go.Proofs.YtnbmlblcmjaclaaW.PrintMore
set_option linter.unusedSectionVars false
set_option linter.unusedVariables false
set_option linter.unusedSimpArgs false
/-- The sum of the squares of the rises of all lines but the last one. -/
def costN (W Th Tk : Int) : List Int → List Int → Int
  | _, [] => 0
  | _, [_] => 0
  | s, n :: k :: t => riseN W Th Tk (s.take n.toNat) * riseN W Th Tk (s.take n.toNat) + costN W Th Tk (s.drop n.toNat) (k :: t)
def costR (W Th Tk : Int) (ws lines : List Int) : Int := if isN W Th Tk ws lines = true then costN W Th Tk ws lines else -1
theorem kindN_of_goes {W Th Tk : Int} {s : List Int} {n : Nat} (h : goesS W Th Tk s n = true) : kindN W Th Tk (s.take n) ≠ 0 := by
  unfold goesS at h; rw [decide_eq_true_eq] at h; omega
theorem sq_bd {r : Int} (h0 : 0 ≤ r) (h1 : r ≤ 99) : 0 ≤ r * r ∧ r * r ≤ 9801 := by
  have := mul_bd (a := r) (b := r) (A := 99) (B := 99) h0 h1 h0 h1; omega
section
variable {W Th Tk : Int} {ws : List Int} (m : MOk W Th Tk) (h : Sk ws)
include m h
end
end Go.Proofs.Ytnbmlblcmjaclaa.Pure
