/- The pure statement behind the law FnExactBestBreaking: the program's BestBreaking and the reference's tell the same, and nothing is shared or changed. No condition. -/
import Derived.Test.YtnbmlblcmjaclaaPFnExactBestBreaking1
import Derived.Test.YtnbmlblcmjaclaaPFnExactBestBreaking9
import Derived.Test.YtnbmlblcmjaclaaBFnExactBestBreakingBase
import Derived.Test.YtnbmlblcmjaclaaBFnExactBestBreakingKinds
import Derived.Test.YtnbmlblcmjaclaaBFnExactBestBreakingBrk
import Derived.Test.YtnbmlblcmjaclaaBFnExactBestBreakingBrkI
import Derived.Test.YtnbmlblcmjaclaaBFnExactBestBreakingBrkAt
import Derived.Test.YtnbmlblcmjaclaaBFnExactBestBreakingBrkIx
import Derived.Test.YtnbmlblcmjaclaaBFnExactBestBreakingBrkIxI
import Derived.Test.YtnbmlblcmjaclaaBFnExactBestBreakingBrkMem
import Derived.Test.YtnbmlblcmjaclaaBFnExactBestBreakingBrkCost
import Derived.Test.YtnbmlblcmjaclaaBFnExactBestBreakingBrkBest
import Derived.Test.YtnbmlblcmjaclaaBFnExactBestBreakingBrkBs
namespace Go.Proofs.Ytnbmlblcmjaclaa.Pure
open Go.RowKit Go.Proofs.Ytnbmlblcmjaclaa.PFnExactBestBreaking Go.Proofs.YtnbmlblcmjaclaaW.PrintWords Go.Proofs.YtnbmlblcmjaclaaW.PrintLast Go.Proofs.YtnbmlblcmjaclaaW.PrintMore
set_option linter.unusedSectionVars false
theorem FnExactBestBreaking : laws_FnExactBestBreaking.Pure := by
  intro W Th Tk ws _ _ _ hl
  have hl := hl.1
  unfold maxLen at hl
  refine Ev.rounds (g := fun k => laws_FnExactBestBreaking.f k W Th Tk ws) ?_
  unfold laws_FnExactBestBreaking.f
  by_cases hw : (ws.length : Int) > 1048576
  · simp only [if_pos hw]; exact Ev.now _
  simp only [if_neg hw]
  have hw' : ws.length ≤ 1048576 := by omega
  have hr : (bsN W Th Tk ws).1.length ≤ 1048576 := Nat.le_trans (bsN_len W Th Tk ws) hw'
  unfold laws_toMeasure.f
  simp only [Option.bind_some]
  refine Ev.bind (toIntS_ev ws hw') (Ev.bind (specBs_ev W Th Tk ws (by omega)) (Ev.bind (toIntS_ev ws hw') (Ev.bind (implBs_ev W Th Tk ws) (Ev.bind (eqIntS_ev _ hr) ?_))))
  simp only [if_true, bne_self_eq_false]
  refine Ev.step (f := fun k => _) (fun k => by rw [laws_FnExactBestBreaking.j0, if_neg (by simp)]) ?_
  refine Ev.bind (toIntS_ev ws hw') (Ev.bind (eqIntS_ev _ hw') ?_)
  simp only [if_true]
  refine Ev.bind (markIntS_ev _ 1 hw' (by omega) (by omega)) ?_
  simp only [if_neg (show ¬ (1 + (ws.length : Int) < 0) by omega)]
  refine Ev.bind (eqIntS_ev _ hr) ?_
  simp only [if_true, bne_self_eq_false]
  refine Ev.step (f := fun k => _) (fun k => by rw [laws_FnExactBestBreaking.j1, if_neg (by simp)]) ?_
  refine Ev.bind (markIntS_ev _ 1 hr (by omega) (by omega)) (Ev.bind (heldIntS_ev _ 1 hr (by omega) (by omega)) ?_)
  simp only [if_neg (show ¬ (1 + ((bsN W Th Tk ws).1.length : Int) < 0) by omega), if_true]
  unfold laws_toMeasure.f
  simp only [Option.bind_some]
  refine Ev.bind (toIntS_ev ws hw') (Ev.bind (implBs_ev W Th Tk ws) (Ev.bind (eqIntS_ev _ hr) ?_))
  simp only [if_true, bne_self_eq_false]
  refine Ev.step (f := fun k => _) (fun k => by rw [laws_FnExactBestBreaking.j2, if_neg (by simp)]) ?_
  refine Ev.bind (heldIntS_ev _ 1 hr (by omega) (by omega)) ?_
  simp only [if_neg (show ¬ (1 + ((bsN W Th Tk ws).1.length : Int) < 0) by omega), if_true]
  exact Ev.now _
end Go.Proofs.Ytnbmlblcmjaclaa.Pure
