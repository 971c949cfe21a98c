/- Plain laws on the widths for which a text has a breaking, program and reference. Conditions: bounds on lengths alone. -/
import Derived.Test.YtnbmlblcmjaclaaPFnWidths6
import Derived.Test.YtnbmlblcmjaclaaBFnWidthsBase
import Derived.Test.YtnbmlblcmjaclaaBFnWidthsKinds
import Derived.Test.YtnbmlblcmjaclaaBFnWidthsBrk
import Derived.Test.YtnbmlblcmjaclaaBFnWidthsBrkI
namespace Go.Proofs.Ytnbmlblcmjaclaa.Pure
open Go.RowKit Go.Proofs.Ytnbmlblcmjaclaa.PFnWidths Go.Proofs.YtnbmlblcmjaclaaW.PrintWords Go.Proofs.YtnbmlblcmjaclaaW.PrintLast Go.Proofs.YtnbmlblcmjaclaaW.PrintMore
set_option linter.unusedSectionVars false
set_option linter.unusedVariables false
set_option linter.unusedSimpArgs false
/-- The widths from i on, n of them, for which the words have a breaking. -/
def wid (Th Tk : Int) (ws : List Int) (i : Nat) : Nat → List Int
  | 0 => []
  | n + 1 => if 0 < wy i Th Tk ws then (i : Int) :: wid Th Tk ws (i + 1) n else wid Th Tk ws (i + 1) n
theorem wid_len (Th Tk : Int) (ws : List Int) : ∀ n i, (wid Th Tk ws i n).length ≤ n
  | 0, _ => by simp [wid]
  | n + 1, i => by have := wid_len Th Tk ws n (i + 1); unfold wid; split <;> simp <;> omega
theorem bothB_w {W Th Tk : Int} {ws : List Int} (hb : bothB W Th Tk ws = true) {w : Int} (h1 : 1 ≤ w) (h2 : w ≤ 2000) : bothB w Th Tk ws = true := by
  unfold bothB at hb ⊢
  rw [Bool.and_eq_true] at hb ⊢
  refine ⟨mokB_iff.2 ?_, hb.2⟩
  have := mokB_iff.1 hb.1
  unfold MOk at this ⊢; omega
def widR (W Th Tk : Int) (ws : List Int) (most : Int) : List Int := if bothB W Th Tk ws = true ∧ 0 ≤ most ∧ most ≤ 300 then wid Th Tk ws 1 most.toNat else []
theorem widR_len (W Th Tk : Int) (ws : List Int) (most : Int) : (widR W Th Tk ws most).length ≤ 300 := by
  unfold widR; split
  · have := wid_len Th Tk ws most.toNat 1; omega
  · simp
section
variable {W Th Tk : Int} {ws : List Int} (hb : bothB W Th Tk ws = true)
include hb
theorem implWid_l0 (most : Nat) (hm : most ≤ 300) : ∀ (n i : Nat) (out : List Int), i + n = most + 1 → 1 ≤ i → out.length ≤ i → Ev (fun k => impl_WidthsFor.l0 k ws most out i W Th Tk) (out ++ wid Th Tk ws i n)
  | 0, i, out, hn, hi, ho => Ev.step (f := fun _ => some out) (fun k => by simp only [impl_WidthsFor.l0]; rw [if_neg (by omega)]) (by rw [wid, List.append_nil]; exact Ev.now _)
  | n + 1, i, out, hn, hi, ho => by
    refine Ev.step (f := fun k => (impl_CountBreakings.f k i Th Tk ws).bind fun t => if t > 0 then impl_WidthsFor.l0 k ws most (out ++ [(i : Int)]) ((i + 1 : Nat) : Int) W Th Tk else impl_WidthsFor.l0 k ws most out ((i + 1 : Nat) : Int) W Th Tk) (fun k => ?_) (Ev.bind (implCount_ev i Th Tk ws) ?_)
    · simp only [impl_WidthsFor.l0]
      rw [if_pos (by omega), if_pos (show out.length < 17592186044416 by omega), wz (n := (i : Int) + 1) (by omega) (by omega), show (i : Int) + 1 = ((i + 1 : Nat) : Int) from by omega]
    · unfold countN
      rw [if_pos (bothB_w hb (by omega) (by omega)), wid]
      by_cases hp : 0 < wy i Th Tk ws
      · simp only [if_pos (show wy i Th Tk ws > 0 from hp), if_pos hp]
        have := implWid_l0 most hm n (i + 1) (out ++ [(i : Int)]) (by omega) (by omega) (by simp; omega)
        simpa using this
      · simp only [if_neg (show ¬ wy i Th Tk ws > 0 from hp), if_neg hp]
        exact implWid_l0 most hm n (i + 1) out (by omega) (by omega) (by omega)
end
theorem implWid_ev (W Th Tk : Int) (ws : List Int) (most : Int) : Ev (fun k => impl_WidthsFor.f k W Th Tk ws most) (widR W Th Tk ws most) := by
  unfold impl_WidthsFor.f widR
  rw [implBoth_eq]
  simp only [Option.bind_some]
  have no : Ev (fun k => impl_WidthsFor.j0 k ws most true W Th Tk) [] := Ev.step (f := fun _ => some []) (fun k => by simp only [impl_WidthsFor.j0]; rw [if_pos trivial]) (Ev.now _)
  cases hb : bothB W Th Tk ws with
  | false => simp only [Bool.false_eq_true, if_false, false_and]; exact no
  | true =>
    simp only [if_true, true_and]
    by_cases h0 : most < 0
    · simp only [if_pos h0]; rw [if_neg (by omega)]; exact no
    · simp only [if_neg h0]
      by_cases h1 : most > 300
      · rw [decide_eq_true h1, if_neg (by omega)]; exact no
      · rw [decide_eq_false h1, if_pos (by omega)]
        obtain ⟨q, rfl⟩ := Int.eq_ofNat_of_zero_le (show 0 ≤ most by omega)
        refine Ev.step (f := fun k => impl_WidthsFor.l0 k ws q [] ((1 : Nat) : Int) W Th Tk) (fun k => by simp only [impl_WidthsFor.j0]; rw [if_neg (by simp)]; rfl) ?_
        have := implWid_l0 hb q (by omega) q 1 [] (by omega) (by omega) (by simp)
        simpa using this
end Go.Proofs.Ytnbmlblcmjaclaa.Pure
