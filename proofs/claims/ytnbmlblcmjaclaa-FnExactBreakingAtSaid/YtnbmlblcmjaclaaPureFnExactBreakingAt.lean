/- The pure statement behind the law FnExactBreakingAt: the program's BreakingAt and the reference's tell the same list, and nothing is shared or changed. No condition. -/
import Derived.Test.YtnbmlblcmjaclaaPFnExactBreakingAt1
import Derived.Test.YtnbmlblcmjaclaaPFnExactBreakingAt9
import Derived.Test.YtnbmlblcmjaclaaBFnExactBreakingAtBase
import Derived.Test.YtnbmlblcmjaclaaBFnExactBreakingAtKinds
import Derived.Test.YtnbmlblcmjaclaaBFnExactBreakingAtBrk
import Derived.Test.YtnbmlblcmjaclaaBFnExactBreakingAtBrkI
import Derived.Test.YtnbmlblcmjaclaaBFnExactBreakingAtBrkAt
import Derived.Test.YtnbmlblcmjaclaaBFnExactBreakingAtBrkIx
import Derived.Test.YtnbmlblcmjaclaaBFnExactBreakingAtBrkIxI
import Derived.Test.YtnbmlblcmjaclaaBFnExactBreakingAtBrkMem
namespace Go.Proofs.Ytnbmlblcmjaclaa.Pure
open Go.RowKit Go.Proofs.Ytnbmlblcmjaclaa.PFnExactBreakingAt Go.Proofs.YtnbmlblcmjaclaaW.PrintWords Go.Proofs.YtnbmlblcmjaclaaW.PrintLast Go.Proofs.YtnbmlblcmjaclaaW.PrintMore
theorem FnExactBreakingAt : laws_FnExactBreakingAt.Pure := by
  intro W Th Tk ws idx _ _ _ hl _
  have hl := hl.1
  unfold maxLen at hl
  refine Ev.rounds (g := fun k => laws_FnExactBreakingAt.f k W Th Tk ws idx) ?_
  unfold laws_FnExactBreakingAt.f
  by_cases hw : (ws.length : Int) > 1048576
  · simp only [if_pos hw]; exact Ev.now _
  simp only [if_neg hw]
  have hw' : ws.length ≤ 1048576 := by omega
  have hr : (atR W Th Tk ws idx).1.length ≤ 1048576 := Nat.le_trans (atR_len ws idx) hw'
  unfold laws_toMeasure.f
  simp only [Option.bind_some]
  refine Ev.bind (toIntS_ev ws hw') (Ev.bind (specAt_ev W Th Tk ws idx (by omega)) (Ev.bind (toIntS_ev ws hw') (Ev.bind (implAt_ev W Th Tk ws idx) (Ev.bind (eqIntS_ev _ hr) ?_))))
  simp only [if_true, bne_self_eq_false]
  refine Ev.step (f := fun k => _) (fun k => by rw [laws_FnExactBreakingAt.j0, if_neg (by simp)]) ?_
  refine Ev.bind (toIntS_ev ws hw') (Ev.bind (eqIntS_ev _ hw') ?_)
  simp only [if_true]
  refine Ev.bind (markIntS_ev _ 1 hw' (by omega) (by omega)) ?_
  simp only [if_neg (show ¬ (1 + (ws.length : Int) < 0) by omega)]
  refine Ev.bind (eqIntS_ev _ hr) ?_
  simp only [if_true, bne_self_eq_false]
  refine Ev.step (f := fun k => _) (fun k => by rw [laws_FnExactBreakingAt.j1, if_neg (by simp)]) ?_
  refine Ev.bind (markIntS_ev _ 1 hr (by omega) (by omega)) (Ev.bind (heldIntS_ev _ 1 hr (by omega) (by omega)) ?_)
  simp only [if_neg (show ¬ (1 + ((atR W Th Tk ws idx).1.length : Int) < 0) by omega), if_true]
  unfold laws_toMeasure.f
  simp only [Option.bind_some]
  refine Ev.bind (toIntS_ev ws hw') (Ev.bind (implAt_ev W Th Tk ws idx) (Ev.bind (eqIntS_ev _ hr) ?_))
  simp only [if_true, bne_self_eq_false]
  refine Ev.step (f := fun k => _) (fun k => by rw [laws_FnExactBreakingAt.j2, if_neg (by simp)]) ?_
  refine Ev.bind (heldIntS_ev _ 1 hr (by omega) (by omega)) ?_
  simp only [if_neg (show ¬ (1 + ((atR W Th Tk ws idx).1.length : Int) < 0) by omega), if_true]
  exact Ev.now _
end Go.Proofs.Ytnbmlblcmjaclaa.Pure
