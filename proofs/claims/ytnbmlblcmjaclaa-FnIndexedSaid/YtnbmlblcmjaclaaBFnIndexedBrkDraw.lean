/- Plain laws on the draw of a measure, a text and a number of a breaking, and the sum of a list. Condition: the code is a list as long as memory can hold. -/
import Derived.Test.YtnbmlblcmjaclaaPFnIndexed1
import Derived.Test.YtnbmlblcmjaclaaPFnIndexed8
import Derived.Test.YtnbmlblcmjaclaaPFnIndexed9
import Derived.Test.YtnbmlblcmjaclaaBFnIndexedBase
import Derived.Test.YtnbmlblcmjaclaaBFnIndexedKinds
import Derived.Test.YtnbmlblcmjaclaaBFnIndexedBrk
import Derived.Test.YtnbmlblcmjaclaaBFnIndexedBrkI
import Derived.Test.YtnbmlblcmjaclaaBFnIndexedDraw0
import Derived.Test.YtnbmlblcmjaclaaBFnIndexedDraw4
namespace Go.Proofs.Ytnbmlblcmjaclaa.Pure
open Go.RowKit Go.Proofs.Ytnbmlblcmjaclaa.PFnIndexed Go.Proofs.YtnbmlblcmjaclaaW.PrintWords Go.Proofs.YtnbmlblcmjaclaaW.PrintLast Go.Proofs.YtnbmlblcmjaclaaW.PrintMore
set_option linter.unusedSectionVars false
set_option linter.unusedVariables false
set_option linter.unusedSimpArgs false
theorem mx_eq (a b : Int) : mx a b = max a b := by unfold mx; omega
theorem drawAt_ex (code : List Int) (hl : code.length ≤ 4611686018427387904) : ∃ W Th Tk ws idx, Ev (fun k => spec_DrawBreakingAt.f k code) (W, Th, Tk, ws, idx) ∧ ws.length ≤ 41 ∧ -1 ≤ idx ∧ idx ≤ 9223372036854775807 := by
  obtain ⟨h, e, c⟩ := cur_new code hl
  obtain ⟨W, Th, Tk, ws, i1, h1, ev, hl1, c1⟩ := l4Both_ex h c
  have hmx : 1 ≤ mx 1 (mn (countN W Th Tk ws) 1073741824) ∧ mx 1 (mn (countN W Th Tk ws) 1073741824) ≤ 1073741824 := by rw [mx_eq, mn_eq]; omega
  generalize hM : mx 1 (mn (countN W Th Tk ws) 1073741824) = M at hmx
  obtain ⟨x, i2, h2, e2, x0, x1, _, c2⟩ := below_ex h1 M c1
  have x1 := x1 (by omega)
  obtain ⟨on, i3, h3, e3, c3⟩ := once_ex h2 8 c2
  have key : ∀ {R : Int × Int × Int × List Int × Int}, (if on = true then ((spec_l01Int.f code i3 h3 [-1, M, M - 1, 9223372036854775807]).bind fun bt918 => (some (W, Th, Tk, ws, bt918.1))) else some (W, Th, Tk, ws, x)) = some R → Ev (fun k => spec_DrawBreakingAt.f k code) R := by
    intro R hR
    unfold spec_DrawBreakingAt.f
    rw [e]
    simp only [Option.bind_some]
    refine Ev.bind ev (Ev.bind (specCount_ev W Th Tk ws (by omega)) ?_)
    rw [hM]
    simp only [e2, e3, Option.bind_some]
    rw [hR]; exact Ev.now _
  cases hon : on with
  | true =>
    obtain ⟨y, i4, h4, e4, hy, _⟩ := int_ex h3 [-1, M, M - 1, 9223372036854775807] (by simp) c3
    refine ⟨W, Th, Tk, ws, y, key ?_, hl1, ?_, ?_⟩
    · rw [hon, if_pos rfl, e4]; rfl
    · simp at hy; omega
    · simp at hy; omega
  | false => exact ⟨W, Th, Tk, ws, x, key (by rw [hon]; rfl), hl1, by omega, by omega⟩
theorem total_l0 (ws : List Int) (hl : ws.length ≤ 1000) (hw : ∀ w ∈ ws, 0 ≤ w ∧ w ≤ 2000) : ∀ (n i : Nat) (acc : Int), i + n = ws.length → 0 ≤ acc → acc ≤ 2000 * i →
    Ev (fun k => laws_total.l0 k acc ws ws.length i) (acc + (ws.drop i).sum)
  | 0, i, acc, hn, h0, hb => by
    refine Ev.step (f := fun _ => some acc) (fun k => by simp only [laws_total.l0]; rw [if_neg (by omega)]) ?_
    rw [List.drop_of_length_le (by omega)]; simpa using Ev.now _
  | n + 1, i, acc, hn, h0, hb => by
    have hx := hw (ws.getD i 0) (by rw [List.getD_eq_getElem?_getD, List.getElem?_eq_getElem (show i < ws.length by omega)]; exact List.getElem_mem _)
    refine Ev.step (f := fun k => laws_total.l0 k (acc + ws.getD i 0) ws ws.length ((i + 1 : Nat) : Int)) (fun k => ?_) ?_
    · simp only [laws_total.l0]
      rw [if_pos (by omega), if_pos (by omega), if_pos (by omega), rd_nat, wz (n := acc + _) (by omega) (by omega), wz (by omega) (by omega)]; rfl
    · have := total_l0 ws hl hw n (i + 1) (acc + ws.getD i 0) (by omega) (by omega) (by omega)
      rw [drop_cons_getD ws i (by omega), List.sum_cons]
      rwa [show acc + ws.getD i 0 + (ws.drop (i + 1)).sum = acc + (ws.getD i 0 + (ws.drop (i + 1)).sum) by omega] at this
theorem total_ev {ws : List Int} (hl : ws.length ≤ 1000) (hw : ∀ w ∈ ws, 0 ≤ w ∧ w ≤ 2000) : Ev (fun k => laws_total.f k ws) ws.sum := by
  unfold laws_total.f
  have := total_l0 ws hl hw ws.length 0 0 (by omega) (by omega) (by omega)
  simpa using this
end Go.Proofs.Ytnbmlblcmjaclaa.Pure
