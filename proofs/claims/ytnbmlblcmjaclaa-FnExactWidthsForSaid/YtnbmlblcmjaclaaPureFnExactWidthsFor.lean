/- The pure statement behind the law FnExactWidthsFor: the program's WidthsFor and the reference's tell the same list, and nothing is shared or changed. No condition. -/
import Derived.Test.YtnbmlblcmjaclaaPFnExactWidthsFor1
import Derived.Test.YtnbmlblcmjaclaaPFnExactWidthsFor6
import Derived.Test.YtnbmlblcmjaclaaBFnExactWidthsForBase
import Derived.Test.YtnbmlblcmjaclaaBFnExactWidthsForKinds
import Derived.Test.YtnbmlblcmjaclaaBFnExactWidthsForBrk
import Derived.Test.YtnbmlblcmjaclaaBFnExactWidthsForBrkI
import Derived.Test.YtnbmlblcmjaclaaBFnExactWidthsForBrkWid
namespace Go.Proofs.Ytnbmlblcmjaclaa.Pure
open Go.RowKit Go.Proofs.Ytnbmlblcmjaclaa.PFnExactWidthsFor Go.Proofs.YtnbmlblcmjaclaaW.PrintWords Go.Proofs.YtnbmlblcmjaclaaW.PrintLast Go.Proofs.YtnbmlblcmjaclaaW.PrintMore
theorem FnExactWidthsFor : laws_FnExactWidthsFor.Pure := by
  intro W Th Tk ws most _ _ _ hl _
  have hl := hl.1
  unfold maxLen at hl
  refine Ev.rounds (g := fun k => laws_FnExactWidthsFor.f k W Th Tk ws most) ?_
  unfold laws_FnExactWidthsFor.f
  by_cases hw : (ws.length : Int) > 1048576
  · simp only [if_pos hw]; exact Ev.now _
  simp only [if_neg hw]
  have hw' : ws.length ≤ 1048576 := by omega
  have hr : (widR W Th Tk ws most).length ≤ 1048576 := Nat.le_trans (widR_len W Th Tk ws most) (by omega)
  unfold laws_toMeasure.f
  simp only [Option.bind_some]
  refine Ev.bind (toIntS_ev ws hw') (Ev.bind (specWid_ev W Th Tk ws most (by omega)) (Ev.bind (toIntS_ev ws hw') (Ev.bind (implWid_ev W Th Tk ws most) (Ev.bind (eqIntS_ev _ hr) ?_))))
  simp only [if_true]
  refine Ev.bind (toIntS_ev ws hw') (Ev.bind (eqIntS_ev _ hw') ?_)
  simp only [if_true]
  refine Ev.bind (markIntS_ev _ 1 hw' (by omega) (by omega)) ?_
  simp only [if_neg (show ¬ (1 + (ws.length : Int) < 0) by omega)]
  refine Ev.bind (eqIntS_ev _ hr) ?_
  simp only [Bool.not_true]
  refine Ev.step (f := fun k => _) (fun k => by rw [laws_FnExactWidthsFor.j0, if_neg (by simp)]) ?_
  refine Ev.bind (markIntS_ev _ 1 hr (by omega) (by omega)) (Ev.bind (heldIntS_ev _ 1 hr (by omega) (by omega)) ?_)
  simp only [if_neg (show ¬ (1 + ((widR W Th Tk ws most).length : Int) < 0) by omega), if_true]
  unfold laws_toMeasure.f
  simp only [Option.bind_some]
  refine Ev.bind (toIntS_ev ws hw') (Ev.bind (implWid_ev W Th Tk ws most) (Ev.bind (eqIntS_ev _ hr) ?_))
  simp only [if_true]
  refine Ev.bind (heldIntS_ev _ 1 hr (by omega) (by omega)) ?_
  simp only [if_neg (show ¬ (1 + ((widR W Th Tk ws most).length : Int) < 0) by omega), if_true]
  exact Ev.now _
end Go.Proofs.Ytnbmlblcmjaclaa.Pure
