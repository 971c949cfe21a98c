/- Plain laws on single breakings: which lists of numbers are one, the number of those before one, and the one with a number, program and reference. Conditions: a measure and a text, lists no longer than the laws allow. -/
import Derived.Test.YtnbmlblcmjaclaaPFnBest2
import Derived.Test.YtnbmlblcmjaclaaPFnBest3
import Derived.Test.YtnbmlblcmjaclaaBFnBestBase
import Derived.Test.YtnbmlblcmjaclaaBFnBestKinds
import Derived.Test.YtnbmlblcmjaclaaBFnBestBrk
import Derived.Test.YtnbmlblcmjaclaaBFnBestBrkI
namespace Go.Proofs.Ytnbmlblcmjaclaa.Pure
open Go.RowKit Go.Proofs.Ytnbmlblcmjaclaa.PFnBest Go.Proofs.YtnbmlblcmjaclaaW.PrintWords Go.Proofs.YtnbmlblcmjaclaaW.PrintLast Go.Proofs.YtnbmlblcmjaclaaW.PrintMore
set_option linter.unusedSectionVars false
set_option linter.unusedVariables false
set_option linter.unusedSimpArgs false

/-- The list is a breaking of the words. -/
def isB (W Th Tk : Int) : List Int → List Int → Bool
  | s, [] => decide (s.length = 0)
  | s, n :: t => inr 1 s.length n && (goesS W Th Tk s n.toNat && isB W Th Tk (s.drop n.toNat) t)
def ixN (W Th Tk : Int) : List Int → List Int → Int
  | _, [] => 0
  | s, n :: t => psum W Th Tk s (n.toNat - 1) + ixN W Th Tk (s.drop n.toNat) t
/-- A list of numbers of words, as numbers. -/
def ints (l : List Nat) : List Int := l.map (fun n : Nat => (n : Int))
section
variable {W Th Tk : Int}
theorem goes_kind {s : List Int} {n : Nat} (hn : n ≤ s.length) : goesS W Th Tk s n = if kindN W Th Tk (s.take n) = 0 then false else if kindN W Th Tk (s.take n) = 1 then decide (¬ n < s.length) else true := by
  unfold goesS
  rcases kindN_cases W Th Tk (s.take n) with hk | hk | hk
  · rw [hk]; simp
  · rw [hk]; simp; omega
  · rw [hk]; simp
theorem isB_len : ∀ (lines s : List Int), isB W Th Tk s lines = true → lines.length ≤ s.length
  | [], _, _ => by simp
  | n :: t, s, h => by
    simp only [isB, inr, Bool.and_eq_true, decide_eq_true_eq] at h
    have := isB_len t _ h.2.2
    simp at this ⊢; omega
/-- What the program asks of each line. -/
def isBI (W Th Tk : Int) : List Int → List Int → Bool
  | s, [] => decide (s.length = 0)
  | s, n :: t => inr 1 s.length n && ((if t = [] then decide (kindN W Th Tk (s.take n.toNat) ≠ 0) else decide (kindN W Th Tk (s.take n.toNat) = 2)) && isBI W Th Tk (s.drop n.toNat) t)
theorem isBI_eq : ∀ (lines s : List Int), isBI W Th Tk s lines = isB W Th Tk s lines
  | [], _ => rfl
  | [n], s => by
    simp only [isBI, isB, if_true, List.length_drop]
    cases hi : inr 1 s.length n with
    | false => rfl
    | true =>
      simp only [inr, decide_eq_true_eq] at hi
      by_cases hl : s.length - n.toNat = 0
      · rw [decide_eq_true hl]; simp only [Bool.true_and, Bool.and_true]
        unfold goesS; rw [decide_eq_decide]
        have := kindN_cases W Th Tk (s.take n.toNat); omega
      · rw [decide_eq_false hl]; simp
  | n :: k :: t, s => by
    rw [isBI, isB, isBI_eq (k :: t) (s.drop n.toNat), if_neg (by simp)]
    cases hi : inr 1 s.length n with
    | false => rfl
    | true =>
      simp only [inr, decide_eq_true_eq] at hi
      by_cases hl : n.toNat = s.length
      · have : isB W Th Tk (s.drop n.toNat) (k :: t) = false := by
          rw [isB, List.length_drop]
          have : inr 1 ((s.length - n.toNat : Nat) : Int) k = false := by unfold inr; rw [decide_eq_false_iff_not]; omega
          rw [this]; rfl
        rw [this]; simp
      · rw [goes_lt (by omega)]
end
section
variable {W Th Tk : Int} {ws : List Int} (m : MOk W Th Tk) (h : Sk ws)
include m h
theorem implIs_l0 (lines : List Int) (hl : lines.length ≤ 1048576) : ∀ (r i a : Nat), i + r = lines.length → a ≤ ws.length →
    Ev (fun k => impl_IsBreaking.l0 k ws lines a lines lines.length i W Th Tk) (isBI W Th Tk (ws.drop a) (lines.drop i))
  | 0, i, a, hr, ha => by
    refine Ev.step (f := fun _ => some ((a : Int) == (ws.length : Int))) (fun k => by simp only [impl_IsBreaking.l0]; rw [if_neg (by omega)]) ?_
    rw [List.drop_of_length_le (show lines.length ≤ i by omega), isBI, List.length_drop]
    have : decide (ws.length - a = 0) = ((a : Int) == (ws.length : Int)) := by
      by_cases e : a = ws.length
      · rw [decide_eq_true (by omega)]; simp [e]
      · rw [decide_eq_false (by omega)]; symm; simp; omega
    rw [this]; exact Ev.now _
  | r + 1, i, a, hr, ha => by
    have hlen := h.len
    rw [drop_cons_getD lines i (by omega), isBI, List.length_drop]
    generalize hn : lines.getD i 0 = n
    have hj : ∀ k, impl_IsBreaking.l0 (k + 1) ws lines a lines lines.length i W Th Tk = impl_IsBreaking.j1 k ws lines a i n lines lines.length i (!inr 1 ((ws.length - a : Nat) : Int) n) W Th Tk := by
      intro k
      simp only [impl_IsBreaking.l0]
      rw [if_pos (by omega), if_pos (by omega), if_pos (by omega), rd_nat, hn, wz (n := (ws.length : Int) - a) (by omega) (by omega)]
      by_cases h1 : n < 1
      · rw [if_pos h1]; congr 1; symm; rw [Bool.not_eq_true']; unfold inr; rw [decide_eq_false_iff_not]; omega
      · rw [if_neg h1]; congr 1; unfold inr
        by_cases h2 : n > (ws.length : Int) - a
        · rw [decide_eq_true h2, decide_eq_false (by omega)]; rfl
        · rw [decide_eq_false h2, decide_eq_true (by omega)]; rfl
    refine Ev.step hj ?_
    cases hi : inr 1 ((ws.length - a : Nat) : Int) n with
    | false =>
      refine Ev.step (f := fun _ => some false) (fun k => ?_) (by simpa using Ev.now _)
      simp only [impl_IsBreaking.j1]; simp
    | true =>
      simp only [inr, decide_eq_true_eq] at hi
      obtain ⟨q, rfl⟩ := Int.eq_ofNat_of_zero_le (show 0 ≤ n by omega)
      simp only [Bool.true_and, Int.toNat_natCast]
      have hk := implKind_ev (h.seg a q (by omega) (by omega)) m
      have hlast : lines.drop (i + 1) = [] ↔ (i : Int) = (lines.length : Int) - 1 := by rw [List.drop_eq_nil_iff]; omega
      refine Ev.step (f := fun k => (impl_kindOf.f k W Th Tk ((ws.drop a).take q)).bind fun t => if lines.drop (i + 1) = [] then (if t = 0 then some false else impl_IsBreaking.l0 k ws lines ((a + q : Nat) : Int) lines lines.length ((i + 1 : Nat) : Int) W Th Tk) else if t = 2 then impl_IsBreaking.l0 k ws lines ((a + q : Nat) : Int) lines lines.length ((i + 1 : Nat) : Int) W Th Tk else some false) (fun k => ?_) ?_
      · simp only [impl_IsBreaking.j1, Bool.not_true, Bool.false_eq_true, if_false]
        rw [wz (n := (a : Int) + q) (by omega) (by omega), if_pos (by omega), if_pos (by omega), if_pos (by omega), toNat_add, Int.toNat_natCast, seg_eq, wz (n := (i : Int) + 1) (by omega) (by omega), wz (n := (lines.length : Int) - 1) (by omega) (by omega)]
        congr 1; funext t
        by_cases hla : (i : Int) = (lines.length : Int) - 1
        · rw [if_pos hla, if_pos (hlast.2 hla)]
          by_cases ht : t = 0
          · rw [if_pos ht, if_pos ht]
          · rw [if_neg ht, if_neg ht, if_neg (show ¬ (i : Int) < (lines.length : Int) - 1 by omega)]; rfl
        · rw [if_neg hla, if_neg (fun e => hla (hlast.1 e)), if_pos (show (i : Int) < (lines.length : Int) - 1 by omega)]; rfl
      · refine Ev.bind hk ?_
        have ih := implIs_l0 lines hl r (i + 1) (a + q) (by omega) (by omega)
        rw [show ws.drop (a + q) = (ws.drop a).drop q from by rw [List.drop_drop]] at ih
        by_cases hla : lines.drop (i + 1) = []
        · simp only [if_pos hla]
          by_cases hz : kindN W Th Tk ((ws.drop a).take q) = 0
          · simp only [if_pos hz]; rw [decide_eq_false (by simp [hz])]; simpa using Ev.now _
          · simp only [if_neg hz]; rw [decide_eq_true hz, Bool.true_and]; exact ih
        · simp only [if_neg hla]
          by_cases hz : kindN W Th Tk ((ws.drop a).take q) = 2
          · simp only [if_pos hz]; rw [decide_eq_true hz, Bool.true_and]; exact ih
          · simp only [if_neg hz]; rw [decide_eq_false hz]; simpa using Ev.now _
end
def isN (W Th Tk : Int) (ws lines : List Int) : Bool := bothB W Th Tk ws && isB W Th Tk ws lines
theorem implIs_ev (W Th Tk : Int) (ws lines : List Int) (hl : lines.length ≤ 1048576) : Ev (fun k => impl_IsBreaking.f k W Th Tk ws lines) (isN W Th Tk ws lines) := by
  unfold impl_IsBreaking.f isN
  rw [implBoth_eq]
  simp only [Option.bind_some]
  cases hb : bothB W Th Tk ws with
  | false => simp only [Bool.false_eq_true, if_false, Bool.false_and]; exact Ev.now _
  | true =>
    obtain ⟨m, h⟩ := bothB_iff hb
    simp only [if_true, Bool.true_and]
    have := implIs_l0 m h lines hl lines.length 0 0 (by omega) (by omega)
    rw [isBI_eq] at this
    simpa using this
end Go.Proofs.Ytnbmlblcmjaclaa.Pure
