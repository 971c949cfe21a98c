/- The pure statement behind the law FnExactBreakingIndex: the program's BreakingIndex and the reference's tell the same number, and no argument is changed. No condition. -/
import Derived.Test.YtnbmlblcmjaclaaPFnExactBreakingIndex1
import Derived.Test.YtnbmlblcmjaclaaPFnExactBreakingIndex9
import Derived.Test.YtnbmlblcmjaclaaBFnExactBreakingIndexBase
import Derived.Test.YtnbmlblcmjaclaaBFnExactBreakingIndexKinds
import Derived.Test.YtnbmlblcmjaclaaBFnExactBreakingIndexBrk
import Derived.Test.YtnbmlblcmjaclaaBFnExactBreakingIndexBrkI
import Derived.Test.YtnbmlblcmjaclaaBFnExactBreakingIndexBrkAt
import Derived.Test.YtnbmlblcmjaclaaBFnExactBreakingIndexBrkIx
import Derived.Test.YtnbmlblcmjaclaaBFnExactBreakingIndexBrkIxI
import Derived.Test.YtnbmlblcmjaclaaBFnExactBreakingIndexBrkMem
import Derived.Test.YtnbmlblcmjaclaaBFnExactBreakingIndexBrkIdx
namespace Go.Proofs.Ytnbmlblcmjaclaa.Pure
open Go.RowKit Go.Proofs.Ytnbmlblcmjaclaa.PFnExactBreakingIndex Go.Proofs.YtnbmlblcmjaclaaW.PrintWords Go.Proofs.YtnbmlblcmjaclaaW.PrintLast Go.Proofs.YtnbmlblcmjaclaaW.PrintMore
theorem FnExactBreakingIndex : laws_FnExactBreakingIndex.Pure := by
  intro W Th Tk ws lines _ _ _ hl hl2
  have hl := hl.1
  have hl2 := hl2.1
  unfold maxLen at hl hl2
  refine Ev.rounds (g := fun k => laws_FnExactBreakingIndex.f k W Th Tk ws lines) ?_
  unfold laws_FnExactBreakingIndex.f
  by_cases hw : (ws.length : Int) > 1048576
  · simp only [if_pos hw]; exact Ev.now _
  by_cases hz : (lines.length : Int) > 1048576
  · simp only [if_neg hw, if_pos hz]; exact Ev.now _
  simp only [if_neg hw, if_neg hz]
  have hw' : ws.length ≤ 1048576 := by omega
  have hz' : lines.length ≤ 1048576 := by omega
  unfold laws_toMeasure.f
  simp only [Option.bind_some]
  refine Ev.bind (toIntS_ev ws hw') (Ev.bind (toIntS_ev lines hz') (Ev.bind (specIdx_ev W Th Tk ws lines (by omega) hz') (Ev.bind (toIntS_ev ws hw') (Ev.bind (toIntS_ev lines hz') (Ev.bind (implIdx_ev W Th Tk ws lines hz') ?_)))))
  simp only [if_true]
  refine Ev.bind (toIntS_ev ws hw') (Ev.bind (eqIntS_ev _ hw') ?_)
  simp only [if_true]
  refine Ev.bind (toIntS_ev lines hz') (Ev.bind (eqIntS_ev _ hz') ?_)
  simp only [if_true]
  exact Ev.now _
end Go.Proofs.Ytnbmlblcmjaclaa.Pure
