/- Plain laws on the draw of a measure, a text and a number of a breaking, and the sum of a list. Condition: the code is a list as long as memory can hold. -/
import Derived.Test.YtnbmlblcmjaclaaPFnWidths6
import Derived.Test.YtnbmlblcmjaclaaBFnWidthsBase
import Derived.Test.YtnbmlblcmjaclaaBFnWidthsKinds
import Derived.Test.YtnbmlblcmjaclaaBFnWidthsBrk
import Derived.Test.YtnbmlblcmjaclaaBFnWidthsBrkI
import Derived.Test.YtnbmlblcmjaclaaBFnWidthsDraw0
import Derived.Test.YtnbmlblcmjaclaaBFnWidthsDraw4
namespace Go.Proofs.Ytnbmlblcmjaclaa.Pure
open Go.RowKit Go.Proofs.Ytnbmlblcmjaclaa.PFnWidths Go.Proofs.YtnbmlblcmjaclaaW.PrintWords Go.Proofs.YtnbmlblcmjaclaaW.PrintLast Go.Proofs.YtnbmlblcmjaclaaW.PrintMore
set_option linter.unusedSectionVars false
set_option linter.unusedVariables false
set_option linter.unusedSimpArgs false
theorem mx_eq (a b : Int) : mx a b = max a b := by unfold mx; omega
theorem total_l0 (ws : List Int) (hl : ws.length ≤ 1000) (hw : ∀ w ∈ ws, 0 ≤ w ∧ w ≤ 2000) : ∀ (n i : Nat) (acc : Int), i + n = ws.length → 0 ≤ acc → acc ≤ 2000 * i →
    Ev (fun k => laws_total.l0 k acc ws ws.length i) (acc + (ws.drop i).sum)
  | 0, i, acc, hn, h0, hb => by
    refine Ev.step (f := fun _ => some acc) (fun k => by simp only [laws_total.l0]; rw [if_neg (by omega)]) ?_
    rw [List.drop_of_length_le (by omega)]; simpa using Ev.now _
  | n + 1, i, acc, hn, h0, hb => by
    have hx := hw (ws.getD i 0) (by rw [List.getD_eq_getElem?_getD, List.getElem?_eq_getElem (show i < ws.length by omega)]; exact List.getElem_mem _)
    refine Ev.step (f := fun k => laws_total.l0 k (acc + ws.getD i 0) ws ws.length ((i + 1 : Nat) : Int)) (fun k => ?_) ?_
    · simp only [laws_total.l0]
      rw [if_pos (by omega), if_pos (by omega), if_pos (by omega), rd_nat, wz (n := acc + _) (by omega) (by omega), wz (by omega) (by omega)]; rfl
    · have := total_l0 ws hl hw n (i + 1) (acc + ws.getD i 0) (by omega) (by omega) (by omega)
      rw [drop_cons_getD ws i (by omega), List.sum_cons]
      rwa [show acc + ws.getD i 0 + (ws.drop (i + 1)).sum = acc + (ws.getD i 0 + (ws.drop (i + 1)).sum) by omega] at this
theorem total_ev {ws : List Int} (hl : ws.length ≤ 1000) (hw : ∀ w ∈ ws, 0 ≤ w ∧ w ≤ 2000) : Ev (fun k => laws_total.f k ws) ws.sum := by
  unfold laws_total.f
  have := total_l0 ws hl hw ws.length 0 0 (by omega) (by omega) (by omega)
  simpa using this
end Go.Proofs.Ytnbmlblcmjaclaa.Pure
