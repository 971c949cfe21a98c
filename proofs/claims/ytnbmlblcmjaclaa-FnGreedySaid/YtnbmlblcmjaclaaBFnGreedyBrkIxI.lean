/- Plain laws on the breaking with a number and the number of a breaking, as the program computes them; both wholly. Conditions: none beyond bounds on lengths. -/
import Derived.Test.YtnbmlblcmjaclaaPFnGreedy9
import Derived.Test.YtnbmlblcmjaclaaBFnGreedyBase
import Derived.Test.YtnbmlblcmjaclaaBFnGreedyKinds
import Derived.Test.YtnbmlblcmjaclaaBFnGreedyBrk
import Derived.Test.YtnbmlblcmjaclaaBFnGreedyBrkI
import Derived.Test.YtnbmlblcmjaclaaBFnGreedyBrkAt
import Derived.Test.YtnbmlblcmjaclaaBFnGreedyBrkIx
namespace Go.Proofs.Ytnbmlblcmjaclaa.Pure
open Go.RowKit Go.Proofs.Ytnbmlblcmjaclaa.PFnGreedy Go.Proofs.YtnbmlblcmjaclaaW.PrintWords Go.Proofs.YtnbmlblcmjaclaaW.PrintLast Go.Proofs.YtnbmlblcmjaclaaW.PrintMore
set_option linter.unusedSectionVars false
set_option linter.unusedVariables false
set_option linter.unusedSimpArgs false

/-- How many breakings begin with just so many words in their first line. -/
def bef (W Th Tk : Int) (s : List Int) (n : Nat) : Int := if goesS W Th Tk s n = true then wy W Th Tk (s.drop n) else 0
theorem psum_bef (W Th Tk : Int) (s : List Int) (n : Nat) : psum W Th Tk s (n + 1) = psum W Th Tk s n + bef W Th Tk s (n + 1) := rfl
section
variable {W Th Tk : Int} {ws : List Int} (m : MOk W Th Tk) (h : Sk ws)
include m h
theorem before_ev (a n : Nat) (hn : 1 ≤ n) (ha : a + n ≤ ws.length) : Ev (fun k => impl_before.f k W Th Tk ws (wyL W Th Tk ws) a n) (bef W Th Tk (ws.drop a) n) := by
  have hlen := h.len
  unfold impl_before.f bef
  rw [wz (n := (a : Int) + n) (by omega) (by omega)]
  simp only [if_pos (show (0 : Int) ≤ a by omega), if_pos (show (a : Int) ≤ (a : Int) + n by omega), if_pos (show (a : Int) + n ≤ (ws.length : Int) by omega), toNat_add, Int.toNat_natCast, seg_eq]
  refine Ev.bind (implKind_ev (h.seg a n hn ha) m) ?_
  rw [goes_kind (by simp; omega), List.drop_drop]
  have hc := kindN_cases W Th Tk ((ws.drop a).take n)
  by_cases he : (a : Int) + n = (ws.length : Int)
  · simp only [if_pos he]
    rw [List.drop_of_length_le (show ws.length ≤ a + n by omega), wy_nil, decide_eq_true (show ¬ n < (ws.drop a).length by simp; omega)]
    by_cases hk : kindN W Th Tk ((ws.drop a).take n) = 0
    · rw [hk]
      refine Ev.step (f := fun _ => some 0) (fun k => ?_) (by simpa using Ev.now _)
      simp only [impl_before.j0]; rw [if_neg (by simp), wz (n := (a : Int) + n) (by omega) (by omega), if_neg (by omega)]
    · refine Ev.step (f := fun _ => some 1) (fun k => ?_) ?_
      · simp only [impl_before.j0]; rw [if_pos (by rw [decide_eq_true_eq]; omega)]
      · rw [if_neg hk]; split <;> simpa using Ev.now _
  · simp only [if_neg he]
    rw [decide_eq_false (show ¬ ¬ n < (ws.drop a).length by simp; omega)]
    by_cases hk : kindN W Th Tk ((ws.drop a).take n) = 2
    · refine Ev.step (f := fun _ => some (wy W Th Tk (ws.drop (a + n)))) (fun k => ?_) (by rw [hk]; simpa using Ev.now _)
      simp only [impl_before.j0]
      rw [if_neg (by simp), wz (n := (a : Int) + n) (by omega) (by omega), if_pos (by omega), if_pos hk, if_pos (by omega), wyL_length, if_pos (by omega), show (a : Int) + n = ((a + n : Nat) : Int) from by omega, rd_nat, wyL_get _ _ _ _ _ (by omega)]
    · refine Ev.step (f := fun _ => some 0) (fun k => ?_) ?_
      · simp only [impl_before.j0]
        rw [if_neg (by simp), wz (n := (a : Int) + n) (by omega) (by omega), if_pos (by omega), if_neg hk]
      · rcases hc with hc | hc | hc
        · rw [hc]; simpa using Ev.now _
        · rw [hc]; simpa using Ev.now _
        · exact absurd hc hk
end
/-- The breaking with a number, and whether there is one. -/
def atR (W Th Tk : Int) (ws : List Int) (idx : Int) : List Int × Bool := if bothB W Th Tk ws = true ∧ 0 ≤ idx ∧ idx < wy W Th Tk ws then (atN W Th Tk ws idx, true) else ([], false)
end Go.Proofs.Ytnbmlblcmjaclaa.Pure
