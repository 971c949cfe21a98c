/- Plain laws on single breakings: which lists of numbers are one, the number of those before one, and the one with a number, program and reference. Conditions: a measure and a text, lists no longer than the laws allow. -/
import Derived.Test.YtnbmlblcmjaclaaPFnExactGreedyBreaking0
import Derived.Test.YtnbmlblcmjaclaaBFnExactGreedyBreakingBase
import Derived.Test.YtnbmlblcmjaclaaBFnExactGreedyBreakingKinds
import Derived.Test.YtnbmlblcmjaclaaBFnExactGreedyBreakingBrk
import Derived.Test.YtnbmlblcmjaclaaBFnExactGreedyBreakingBrkI
namespace Go.Proofs.Ytnbmlblcmjaclaa.Pure
open Go.RowKit Go.Proofs.Ytnbmlblcmjaclaa.PFnExactGreedyBreaking Go.Proofs.YtnbmlblcmjaclaaW.PrintWords Go.Proofs.YtnbmlblcmjaclaaW.PrintLast Go.Proofs.YtnbmlblcmjaclaaW.PrintMore
set_option linter.unusedSectionVars false
set_option linter.unusedVariables false
set_option linter.unusedSimpArgs false

/-- The list is a breaking of the words. -/
def isB (W Th Tk : Int) : List Int → List Int → Bool
  | s, [] => decide (s.length = 0)
  | s, n :: t => inr 1 s.length n && (goesS W Th Tk s n.toNat && isB W Th Tk (s.drop n.toNat) t)
def ixN (W Th Tk : Int) : List Int → List Int → Int
  | _, [] => 0
  | s, n :: t => psum W Th Tk s (n.toNat - 1) + ixN W Th Tk (s.drop n.toNat) t
/-- A list of numbers of words, as numbers. -/
def ints (l : List Nat) : List Int := l.map (fun n : Nat => (n : Int))
section
variable {W Th Tk : Int}
theorem goes_kind {s : List Int} {n : Nat} (hn : n ≤ s.length) : goesS W Th Tk s n = if kindN W Th Tk (s.take n) = 0 then false else if kindN W Th Tk (s.take n) = 1 then decide (¬ n < s.length) else true := by
  unfold goesS
  rcases kindN_cases W Th Tk (s.take n) with hk | hk | hk
  · rw [hk]; simp
  · rw [hk]; simp; omega
  · rw [hk]; simp
theorem isB_len : ∀ (lines s : List Int), isB W Th Tk s lines = true → lines.length ≤ s.length
  | [], _, _ => by simp
  | n :: t, s, h => by
    simp only [isB, inr, Bool.and_eq_true, decide_eq_true_eq] at h
    have := isB_len t _ h.2.2
    simp at this ⊢; omega
/-- What the program asks of each line. -/
def isBI (W Th Tk : Int) : List Int → List Int → Bool
  | s, [] => decide (s.length = 0)
  | s, n :: t => inr 1 s.length n && ((if t = [] then decide (kindN W Th Tk (s.take n.toNat) ≠ 0) else decide (kindN W Th Tk (s.take n.toNat) = 2)) && isBI W Th Tk (s.drop n.toNat) t)
theorem isBI_eq : ∀ (lines s : List Int), isBI W Th Tk s lines = isB W Th Tk s lines
  | [], _ => rfl
  | [n], s => by
    simp only [isBI, isB, if_true, List.length_drop]
    cases hi : inr 1 s.length n with
    | false => rfl
    | true =>
      simp only [inr, decide_eq_true_eq] at hi
      by_cases hl : s.length - n.toNat = 0
      · rw [decide_eq_true hl]; simp only [Bool.true_and, Bool.and_true]
        unfold goesS; rw [decide_eq_decide]
        have := kindN_cases W Th Tk (s.take n.toNat); omega
      · rw [decide_eq_false hl]; simp
  | n :: k :: t, s => by
    rw [isBI, isB, isBI_eq (k :: t) (s.drop n.toNat), if_neg (by simp)]
    cases hi : inr 1 s.length n with
    | false => rfl
    | true =>
      simp only [inr, decide_eq_true_eq] at hi
      by_cases hl : n.toNat = s.length
      · have : isB W Th Tk (s.drop n.toNat) (k :: t) = false := by
          rw [isB, List.length_drop]
          have : inr 1 ((s.length - n.toNat : Nat) : Int) k = false := by unfold inr; rw [decide_eq_false_iff_not]; omega
          rw [this]; rfl
        rw [this]; simp
      · rw [goes_lt (by omega)]
end
section
variable {W Th Tk : Int} {ws : List Int} (m : MOk W Th Tk) (h : Sk ws)
include m h
end
def isN (W Th Tk : Int) (ws lines : List Int) : Bool := bothB W Th Tk ws && isB W Th Tk ws lines
end Go.Proofs.Ytnbmlblcmjaclaa.Pure
