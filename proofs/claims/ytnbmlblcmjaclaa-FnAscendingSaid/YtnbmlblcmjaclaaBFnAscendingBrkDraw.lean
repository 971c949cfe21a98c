/- Plain laws on the draw of a measure, a text and a number of a breaking, and the sum of a list. Condition: the code is a list as long as memory can hold. -/
import Derived.Test.YtnbmlblcmjaclaaPFnAscending6
import Derived.Test.YtnbmlblcmjaclaaPFnAscending8
import Derived.Test.YtnbmlblcmjaclaaBFnAscendingBase
import Derived.Test.YtnbmlblcmjaclaaBFnAscendingKinds
import Derived.Test.YtnbmlblcmjaclaaBFnAscendingBrk
import Derived.Test.YtnbmlblcmjaclaaBFnAscendingBrkI
import Derived.Test.YtnbmlblcmjaclaaBFnAscendingDraw0
import Derived.Test.YtnbmlblcmjaclaaBFnAscendingDraw4
namespace Go.Proofs.Ytnbmlblcmjaclaa.Pure
open Go.RowKit Go.Proofs.Ytnbmlblcmjaclaa.PFnAscending Go.Proofs.YtnbmlblcmjaclaaW.PrintWords Go.Proofs.YtnbmlblcmjaclaaW.PrintLast Go.Proofs.YtnbmlblcmjaclaaW.PrintMore
set_option linter.unusedSectionVars false
set_option linter.unusedVariables false
set_option linter.unusedSimpArgs false
theorem mx_eq (a b : Int) : mx a b = max a b := by unfold mx; omega
theorem drawAt_ex (code : List Int) (hl : code.length ≤ 4611686018427387904) : ∃ W Th Tk ws idx, Ev (fun k => spec_DrawBreakingAt.f k code) (W, Th, Tk, ws, idx) ∧ ws.length ≤ 41 ∧ -1 ≤ idx ∧ idx ≤ 9223372036854775807 := by
  obtain ⟨h, e, c⟩ := cur_new code hl
  obtain ⟨W, Th, Tk, ws, i1, h1, ev, hl1, c1⟩ := l4Both_ex h c
  have hmx : 1 ≤ mx 1 (mn (countN W Th Tk ws) 1073741824) ∧ mx 1 (mn (countN W Th Tk ws) 1073741824) ≤ 1073741824 := by rw [mx_eq, mn_eq]; omega
  generalize hM : mx 1 (mn (countN W Th Tk ws) 1073741824) = M at hmx
  obtain ⟨x, i2, h2, e2, x0, x1, _, c2⟩ := below_ex h1 M c1
  have x1 := x1 (by omega)
  obtain ⟨on, i3, h3, e3, c3⟩ := once_ex h2 8 c2
  have key : ∀ {R : Int × Int × Int × List Int × Int}, (if on = true then ((spec_l01Int.f code i3 h3 [-1, M, M - 1, 9223372036854775807]).bind fun bt918 => (some (W, Th, Tk, ws, bt918.1))) else some (W, Th, Tk, ws, x)) = some R → Ev (fun k => spec_DrawBreakingAt.f k code) R := by
    intro R hR
    unfold spec_DrawBreakingAt.f
    rw [e]
    simp only [Option.bind_some]
    refine Ev.bind ev (Ev.bind (specCount_ev W Th Tk ws (by omega)) ?_)
    rw [hM]
    simp only [e2, e3, Option.bind_some]
    rw [hR]; exact Ev.now _
  cases hon : on with
  | true =>
    obtain ⟨y, i4, h4, e4, hy, _⟩ := int_ex h3 [-1, M, M - 1, 9223372036854775807] (by simp) c3
    refine ⟨W, Th, Tk, ws, y, key ?_, hl1, ?_, ?_⟩
    · rw [hon, if_pos rfl, e4]; rfl
    · simp at hy; omega
    · simp at hy; omega
  | false => exact ⟨W, Th, Tk, ws, x, key (by rw [hon]; rfl), hl1, by omega, by omega⟩
end Go.Proofs.Ytnbmlblcmjaclaa.Pure
