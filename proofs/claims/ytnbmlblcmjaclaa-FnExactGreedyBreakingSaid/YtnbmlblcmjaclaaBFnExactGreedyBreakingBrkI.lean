/- Plain laws on the breakings of a text, as the program counts them; and the counts and widths, program and reference. Conditions: a measure and a text. -/
import Derived.Test.YtnbmlblcmjaclaaPFnExactGreedyBreaking0
import Derived.Test.YtnbmlblcmjaclaaBFnExactGreedyBreakingBase
import Derived.Test.YtnbmlblcmjaclaaBFnExactGreedyBreakingKinds
import Derived.Test.YtnbmlblcmjaclaaBFnExactGreedyBreakingBrk
namespace Go.Proofs.Ytnbmlblcmjaclaa.Pure
open Go.RowKit Go.Proofs.Ytnbmlblcmjaclaa.PFnExactGreedyBreaking Go.Proofs.YtnbmlblcmjaclaaW.PrintWords Go.Proofs.YtnbmlblcmjaclaaW.PrintLast Go.Proofs.YtnbmlblcmjaclaaW.PrintMore
set_option linter.unusedSectionVars false
set_option linter.unusedVariables false
set_option linter.unusedSimpArgs false

def qsum (W Th Tk : Int) (s : List Int) : Nat → Int
  | 0 => if kindN W Th Tk s > 0 then 1 else 0
  | n + 1 => qsum W Th Tk s n + if kindN W Th Tk (s.take (n + 1)) = 2 then wy W Th Tk (s.drop (n + 1)) else 0
section
variable {W Th Tk : Int}
theorem goes_lt {s : List Int} {n : Nat} (h : n < s.length) : goesS W Th Tk s n = decide (kindN W Th Tk (s.take n) = 2) := by
  unfold goesS; rw [decide_eq_decide]; omega
theorem goes_all {s : List Int} : goesS W Th Tk s s.length = decide (kindN W Th Tk s > 0) := by
  unfold goesS; rw [decide_eq_decide, List.take_length]; have := kindN_cases W Th Tk s; omega
theorem qsum_psum {s : List Int} : ∀ n, n < s.length → qsum W Th Tk s n = psum W Th Tk s n + if kindN W Th Tk s > 0 then 1 else 0
  | 0, _ => by simp [qsum, psum]
  | n + 1, hn => by
    rw [qsum, psum, qsum_psum n (by omega), goes_lt hn]
    simp only [decide_eq_true_eq]; omega
theorem wy_qsum {s : List Int} (h : 0 < s.length) : wy W Th Tk s = qsum W Th Tk s (s.length - 1) := by
  have h0 : s ≠ [] := List.length_pos_iff.1 h
  obtain ⟨n, hn⟩ : ∃ n, s.length = n + 1 := ⟨s.length - 1, by omega⟩
  rw [qsum_psum _ (by omega), wy_psum h0, hn, psum]
  have : goesS W Th Tk s (n + 1) = decide (kindN W Th Tk s > 0) := by rw [← hn]; exact goes_all
  rw [this, ← hn, List.drop_length, wy_nil]
  simp only [decide_eq_true_eq]
  rw [show s.length - 1 = n from by omega]
theorem qsum_nonneg (s : List Int) : ∀ n, 0 ≤ qsum W Th Tk s n
  | 0 => by rw [qsum]; split <;> omega
  | n + 1 => by rw [qsum]; have := qsum_nonneg s n; have := wy_nonneg (W := W) (Th := Th) (Tk := Tk) (s.drop (n + 1)); split <;> omega
theorem qsum_40 {s : List Int} (h : s.length ≤ 40) {n : Nat} (hn : n < s.length) : qsum W Th Tk s n ≤ 1099511627777 := by
  rw [qsum_psum n hn]; have := psum_40 (W := W) (Th := Th) (Tk := Tk) h (n := n) (by omega); split <;> omega
end
theorem bothB_iff {W Th Tk : Int} {ws : List Int} (hb : bothB W Th Tk ws = true) : MOk W Th Tk ∧ Sk ws := by
  unfold bothB at hb
  rw [Bool.and_eq_true] at hb
  exact ⟨mokB_iff.1 hb.1, Sk.of ws hb.2⟩
/-- The number of breakings; -1 if there are no measure and text. -/
def countN (W Th Tk : Int) (ws : List Int) : Int := if bothB W Th Tk ws = true then wy W Th Tk ws else -1
theorem wyL_0 (W Th Tk : Int) (ws : List Int) : rd (wyL W Th Tk ws) 0 = wy W Th Tk ws := by
  have := wyL_get W Th Tk ws 0 (by omega)
  rw [show rd (wyL W Th Tk ws) 0 = (wyL W Th Tk ws).getD 0 0 from rfl, this, List.drop_zero]
end Go.Proofs.Ytnbmlblcmjaclaa.Pure
