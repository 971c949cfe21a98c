/- The pure statement behind the law FnExactCostOf: the program's CostOf and the reference's tell the same number, and no argument is changed. No condition. -/
import Derived.Test.YtnbmlblcmjaclaaPFnExactCostOf1
import Derived.Test.YtnbmlblcmjaclaaPFnExactCostOf6
import Derived.Test.YtnbmlblcmjaclaaBFnExactCostOfBase
import Derived.Test.YtnbmlblcmjaclaaBFnExactCostOfKinds
import Derived.Test.YtnbmlblcmjaclaaBFnExactCostOfBrk
import Derived.Test.YtnbmlblcmjaclaaBFnExactCostOfBrkI
import Derived.Test.YtnbmlblcmjaclaaBFnExactCostOfBrkAt
import Derived.Test.YtnbmlblcmjaclaaBFnExactCostOfBrkCost
namespace Go.Proofs.Ytnbmlblcmjaclaa.Pure
open Go.RowKit Go.Proofs.Ytnbmlblcmjaclaa.PFnExactCostOf Go.Proofs.YtnbmlblcmjaclaaW.PrintWords Go.Proofs.YtnbmlblcmjaclaaW.PrintLast Go.Proofs.YtnbmlblcmjaclaaW.PrintMore
set_option linter.unusedSectionVars false
theorem FnExactCostOf : laws_FnExactCostOf.Pure := by
  intro W Th Tk ws lines _ _ _ hl hl2
  have hl := hl.1
  have hl2 := hl2.1
  unfold maxLen at hl hl2
  refine Ev.rounds (g := fun k => laws_FnExactCostOf.f k W Th Tk ws lines) ?_
  unfold laws_FnExactCostOf.f
  by_cases hw : (ws.length : Int) > 1048576
  · simp only [if_pos hw]; exact Ev.now _
  by_cases hz : (lines.length : Int) > 1048576
  · simp only [if_neg hw, if_pos hz]; exact Ev.now _
  simp only [if_neg hw, if_neg hz]
  have hw' : ws.length ≤ 1048576 := by omega
  have hz' : lines.length ≤ 1048576 := by omega
  unfold laws_toMeasure.f
  simp only [Option.bind_some]
  refine Ev.bind (toIntS_ev ws hw') (Ev.bind (toIntS_ev lines hz') (Ev.bind (specCost_ev W Th Tk ws lines (by omega) hz') (Ev.bind (toIntS_ev ws hw') (Ev.bind (toIntS_ev lines hz') (Ev.bind (implCost_ev W Th Tk ws lines hz') ?_)))))
  simp only [if_true]
  refine Ev.bind (toIntS_ev ws hw') (Ev.bind (eqIntS_ev _ hw') ?_)
  simp only [if_true]
  refine Ev.bind (toIntS_ev lines hz') (Ev.bind (eqIntS_ev _ hz') ?_)
  simp only [if_true]
  exact Ev.now _
end Go.Proofs.Ytnbmlblcmjaclaa.Pure
