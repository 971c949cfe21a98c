/- The pure statement behind the law FnGreedy: the breaking in which each line has as many words as it can is the last one of all. No condition. -/
import Derived.Test.YtnbmlblcmjaclaaPFnGreedy10
import Derived.Test.YtnbmlblcmjaclaaPFnGreedy11
import Derived.Test.YtnbmlblcmjaclaaBFnGreedyBase
import Derived.Test.YtnbmlblcmjaclaaBFnGreedyKinds
import Derived.Test.YtnbmlblcmjaclaaBFnGreedyBrk
import Derived.Test.YtnbmlblcmjaclaaBFnGreedyBrkI
import Derived.Test.YtnbmlblcmjaclaaBFnGreedyBrkAt
import Derived.Test.YtnbmlblcmjaclaaBFnGreedyBrkIx
import Derived.Test.YtnbmlblcmjaclaaBFnGreedyBrkIxI
import Derived.Test.YtnbmlblcmjaclaaBFnGreedyBrkMem
import Derived.Test.YtnbmlblcmjaclaaBFnGreedyBrkIdx
import Derived.Test.YtnbmlblcmjaclaaBFnGreedyBrkGr
import Derived.Test.YtnbmlblcmjaclaaBFnGreedyDraw0
import Derived.Test.YtnbmlblcmjaclaaBFnGreedyDraw4
namespace Go.Proofs.Ytnbmlblcmjaclaa.Pure
open Go.RowKit Go.Proofs.Ytnbmlblcmjaclaa.PFnGreedy Go.Proofs.YtnbmlblcmjaclaaW.PrintWords Go.Proofs.YtnbmlblcmjaclaaW.PrintLast Go.Proofs.YtnbmlblcmjaclaaW.PrintMore
set_option linter.unusedSectionVars false
set_option linter.unusedVariables false
set_option linter.unusedSimpArgs false
theorem FnGreedy : laws_FnGreedy.Pure := by
  intro code hl _ _
  unfold maxLen at hl
  refine Ev.rounds (g := fun k => laws_FnGreedy.f k code) ?_
  unfold laws_FnGreedy.f
  by_cases hw : (code.length : Int) > 1048576
  · simp only [if_pos hw]; exact Ev.now _
  simp only [if_neg hw]
  have hd : ∃ W Th Tk ws, Ev (fun k => spec_DrawGreedyBreaking.f k code) (W, Th, Tk, ws) ∧ ws.length ≤ 41 := by
    obtain ⟨h, e, c⟩ := cur_new code (by omega)
    obtain ⟨W, Th, Tk, ws, i1, h1, ev, hl1, c1⟩ := l4Both_ex h c
    refine ⟨W, Th, Tk, ws, ?_, hl1⟩
    unfold spec_DrawGreedyBreaking.f
    rw [e]
    simp only [Option.bind_some]
    exact Ev.bind ev (Ev.now _)
  obtain ⟨W, Th, Tk, ws, ev, hl1⟩ := hd
  refine Ev.bind ev (Ev.bind (implGr_ev W Th Tk ws) (Ev.bind (implCount_ev W Th Tk ws) ?_))
  have hgl := grN_len W Th Tk ws
  cases hg : grN W Th Tk ws with
  | mk l ok =>
    rw [hg] at hgl
    simp only at hgl
    cases ok with
    | false =>
      simp only [Bool.false_eq_true, if_false]
      refine Ev.bind (specGr_ev W Th Tk ws (by omega)) ?_
      rw [hg]; simpa using Ev.now _
    | true =>
      unfold grN at hg
      split at hg
      · rename_i hb
        cases hgr : grd W Th Tk ws.length ws with
        | none => rw [hgr] at hg; simp [grR] at hg
        | some l' =>
          rw [hgr] at hg
          simp only [grR, List.nil_append, Prod.mk.injEq, and_true] at hg
          subst hg
          obtain ⟨i1, i2⟩ := grd_isB W Th Tk ws.length ws l' (Nat.le_refl _) hgr
          obtain ⟨j1, j2, j3⟩ := isB_ix _ _ i1
          have hcn : countN W Th Tk ws = wy W Th Tk ws := by unfold countN; rw [if_pos hb]
          have hw1 := wy_40 (W := W) (Th := Th) (Tk := Tk) (bothB_iff hb).2.len
          have hN : isN W Th Tk ws l' = true := by unfold isN; rw [hb, i1]; rfl
          rw [hcn]
          simp only [if_true, if_pos (show wy W Th Tk ws > 0 by omega)]
          refine Ev.bind (implIdx_ev W Th Tk ws l' (by omega)) ?_
          have : ixR W Th Tk ws l' = wrap64 (wy W Th Tk ws - 1) := by unfold ixR; rw [if_pos hN, i2, wz (by omega) (by omega)]
          rw [this]
          simpa using Ev.now _
      · simp at hg
end Go.Proofs.Ytnbmlblcmjaclaa.Pure
