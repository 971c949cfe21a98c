/- The pure statement behind the law FnExactGreedyBreaking: the program's GreedyBreaking and the reference's tell the same list, and nothing is shared or changed. No condition. -/
import Derived.Test.YtnbmlblcmjaclaaPFnExactGreedyBreaking2
import Derived.Test.YtnbmlblcmjaclaaPFnExactGreedyBreaking7
import Derived.Test.YtnbmlblcmjaclaaBFnExactGreedyBreakingBase
import Derived.Test.YtnbmlblcmjaclaaBFnExactGreedyBreakingKinds
import Derived.Test.YtnbmlblcmjaclaaBFnExactGreedyBreakingBrk
import Derived.Test.YtnbmlblcmjaclaaBFnExactGreedyBreakingBrkI
import Derived.Test.YtnbmlblcmjaclaaBFnExactGreedyBreakingBrkAt
import Derived.Test.YtnbmlblcmjaclaaBFnExactGreedyBreakingBrkIx
import Derived.Test.YtnbmlblcmjaclaaBFnExactGreedyBreakingBrkIxI
import Derived.Test.YtnbmlblcmjaclaaBFnExactGreedyBreakingBrkMem
import Derived.Test.YtnbmlblcmjaclaaBFnExactGreedyBreakingBrkGr
namespace Go.Proofs.Ytnbmlblcmjaclaa.Pure
open Go.RowKit Go.Proofs.Ytnbmlblcmjaclaa.PFnExactGreedyBreaking Go.Proofs.YtnbmlblcmjaclaaW.PrintWords Go.Proofs.YtnbmlblcmjaclaaW.PrintLast Go.Proofs.YtnbmlblcmjaclaaW.PrintMore
set_option linter.unusedSectionVars false
theorem FnExactGreedyBreaking : laws_FnExactGreedyBreaking.Pure := by
  intro W Th Tk ws _ _ _ hl
  have hl := hl.1
  unfold maxLen at hl
  refine Ev.rounds (g := fun k => laws_FnExactGreedyBreaking.f k W Th Tk ws) ?_
  unfold laws_FnExactGreedyBreaking.f
  by_cases hw : (ws.length : Int) > 1048576
  · simp only [if_pos hw]; exact Ev.now _
  simp only [if_neg hw]
  have hw' : ws.length ≤ 1048576 := by omega
  have hr : (grN W Th Tk ws).1.length ≤ 1048576 := Nat.le_trans (grN_len W Th Tk ws) hw'
  unfold laws_toMeasure.f
  simp only [Option.bind_some]
  refine Ev.bind (toIntS_ev ws hw') (Ev.bind (specGr_ev W Th Tk ws (by omega)) (Ev.bind (toIntS_ev ws hw') (Ev.bind (implGr_ev W Th Tk ws) (Ev.bind (eqIntS_ev _ hr) ?_))))
  simp only [if_true, bne_self_eq_false]
  refine Ev.step (f := fun k => _) (fun k => by rw [laws_FnExactGreedyBreaking.j0, if_neg (by simp)]) ?_
  refine Ev.bind (toIntS_ev ws hw') (Ev.bind (eqIntS_ev _ hw') ?_)
  simp only [if_true]
  refine Ev.bind (markIntS_ev _ 1 hw' (by omega) (by omega)) ?_
  simp only [if_neg (show ¬ (1 + (ws.length : Int) < 0) by omega)]
  refine Ev.bind (eqIntS_ev _ hr) ?_
  simp only [if_true, bne_self_eq_false]
  refine Ev.step (f := fun k => _) (fun k => by rw [laws_FnExactGreedyBreaking.j1, if_neg (by simp)]) ?_
  refine Ev.bind (markIntS_ev _ 1 hr (by omega) (by omega)) (Ev.bind (heldIntS_ev _ 1 hr (by omega) (by omega)) ?_)
  simp only [if_neg (show ¬ (1 + ((grN W Th Tk ws).1.length : Int) < 0) by omega), if_true]
  unfold laws_toMeasure.f
  simp only [Option.bind_some]
  refine Ev.bind (toIntS_ev ws hw') (Ev.bind (implGr_ev W Th Tk ws) (Ev.bind (eqIntS_ev _ hr) ?_))
  simp only [if_true, bne_self_eq_false]
  refine Ev.step (f := fun k => _) (fun k => by rw [laws_FnExactGreedyBreaking.j2, if_neg (by simp)]) ?_
  refine Ev.bind (heldIntS_ev _ 1 hr (by omega) (by omega)) ?_
  simp only [if_neg (show ¬ (1 + ((grN W Th Tk ws).1.length : Int) < 0) by omega), if_true]
  exact Ev.now _
end Go.Proofs.Ytnbmlblcmjaclaa.Pure
