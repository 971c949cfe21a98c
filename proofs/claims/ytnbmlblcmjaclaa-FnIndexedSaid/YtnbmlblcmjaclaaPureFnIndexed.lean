/- The pure statement behind the law FnIndexed: the breaking with a number is a breaking, has this number and all words, and there are as many as are counted. No condition. -/
import Derived.Test.YtnbmlblcmjaclaaPFnIndexed1
import Derived.Test.YtnbmlblcmjaclaaPFnIndexed10
import Derived.Test.YtnbmlblcmjaclaaPFnIndexed4
import Derived.Test.YtnbmlblcmjaclaaPFnIndexed5
import Derived.Test.YtnbmlblcmjaclaaPFnIndexed6
import Derived.Test.YtnbmlblcmjaclaaBFnIndexedBase
import Derived.Test.YtnbmlblcmjaclaaBFnIndexedKinds
import Derived.Test.YtnbmlblcmjaclaaBFnIndexedBrk
import Derived.Test.YtnbmlblcmjaclaaBFnIndexedBrkI
import Derived.Test.YtnbmlblcmjaclaaBFnIndexedBrkAt
import Derived.Test.YtnbmlblcmjaclaaBFnIndexedBrkIx
import Derived.Test.YtnbmlblcmjaclaaBFnIndexedBrkIxI
import Derived.Test.YtnbmlblcmjaclaaBFnIndexedBrkMem
import Derived.Test.YtnbmlblcmjaclaaBFnIndexedBrkIdx
import Derived.Test.YtnbmlblcmjaclaaBFnIndexedDraw0
import Derived.Test.YtnbmlblcmjaclaaBFnIndexedDraw4
import Derived.Test.YtnbmlblcmjaclaaBFnIndexedBrkDraw
namespace Go.Proofs.Ytnbmlblcmjaclaa.Pure
open Go.RowKit Go.Proofs.Ytnbmlblcmjaclaa.PFnIndexed Go.Proofs.YtnbmlblcmjaclaaW.PrintWords Go.Proofs.YtnbmlblcmjaclaaW.PrintLast Go.Proofs.YtnbmlblcmjaclaaW.PrintMore
set_option linter.unusedSectionVars false
set_option linter.unusedVariables false
set_option linter.unusedSimpArgs false
theorem FnIndexed : laws_FnIndexed.Pure := by
  intro code hl _ _
  unfold maxLen at hl
  refine Ev.rounds (g := fun k => laws_FnIndexed.f k code) ?_
  unfold laws_FnIndexed.f
  by_cases hw : (code.length : Int) > 1048576
  · simp only [if_pos hw]; exact Ev.now _
  simp only [if_neg hw]
  obtain ⟨W, Th, Tk, ws, idx, ev, hl1, i0, i1⟩ := drawAt_ex code (by omega)
  refine Ev.bind ev (Ev.bind (implCount_ev W Th Tk ws) ?_)
  simp only [specMeasureOk_eq, Option.bind_some]
  have no : bothB W Th Tk ws = false → Ev (fun k => laws_FnIndexed.j0 k ws idx (countN W Th Tk ws) true W Th Tk) true := by
    intro hn
    refine Ev.step (f := fun _ => some true) (fun k => ?_) (Ev.now _)
    simp only [laws_FnIndexed.j0]; rw [if_pos trivial]; unfold countN; rw [hn]; rfl
  cases hm : mokB W Th Tk with
  | false =>
    simp only [Bool.false_eq_true, if_false]
    exact no (by unfold bothB; rw [hm]; rfl)
  | true =>
    simp only [if_true]
    refine Ev.bind (specTextOk_ev ws (by omega)) ?_
    cases ht : TOk ws with
    | false => exact no (by unfold bothB; rw [ht, Bool.and_false])
    | true =>
      have hb : bothB W Th Tk ws = true := by unfold bothB; rw [hm, ht]; rfl
      obtain ⟨m, h⟩ := bothB_iff hb
      have hw0 := wy_nonneg (W := W) (Th := Th) (Tk := Tk) ws
      have hcn : countN W Th Tk ws = wy W Th Tk ws := by unfold countN; rw [if_pos hb]
      rw [hcn]
      refine Ev.step (f := fun k => (impl_BreakingAt.f k W Th Tk ws idx).bind fun bt => if idx < 0 then laws_FnIndexed.j1 k ws idx (wy W Th Tk ws) bt.1 bt.2 true W Th Tk else laws_FnIndexed.j1 k ws idx (wy W Th Tk ws) bt.1 bt.2 (decide (idx ≥ wy W Th Tk ws)) W Th Tk) (fun k => by simp only [laws_FnIndexed.j0, Bool.not_true]; rw [if_neg (by simp)]) ?_
      refine Ev.bind (implAt_ev W Th Tk ws idx) ?_
      by_cases hi : 0 ≤ idx ∧ idx < wy W Th Tk ws
      · have ea : atR W Th Tk ws idx = (atN W Th Tk ws idx, true) := by unfold atR; rw [if_pos ⟨hb, hi.1, hi.2⟩]
        rw [ea]
        simp only [if_neg (show ¬ idx < 0 by omega)]
        rw [decide_eq_false (by omega)]
        have hB := atN_isB hi.1 hi.2
        have hln := isB_len _ _ hB
        have hsum := isB_sum _ _ hB
        have hlen := h.len
        have hN : isN W Th Tk ws (atN W Th Tk ws idx) = true := by unfold isN; rw [hb, hB]; rfl
        refine Ev.step (f := fun k => (impl_IsBreaking.f k W Th Tk ws (atN W Th Tk ws idx)).bind fun t => if t = true then ((impl_BreakingIndex.f k W Th Tk ws (atN W Th Tk ws idx)).bind fun t892 => if t892 = idx then ((laws_total.f k (atN W Th Tk ws idx)).bind fun t893 => some (t893 == (ws.length : Int))) else some false) else some false) (fun k => by simp only [laws_FnIndexed.j1]; rw [if_neg (by simp), if_pos trivial]) ?_
        refine Ev.bind (implIs_ev W Th Tk ws _ (by omega)) ?_
        rw [hN]
        simp only [if_true]
        refine Ev.bind (implIdx_ev W Th Tk ws _ (by omega)) ?_
        have hx : ixR W Th Tk ws (atN W Th Tk ws idx) = idx := by
          unfold ixR; rw [if_pos hN]; exact atN_ix ws.length ws idx (Nat.le_refl _) hi.1 hi.2
        rw [hx]
        simp only [if_true]
        refine Ev.bind (total_ev (by omega) (fun w hw => by have := hsum.2 w hw; omega)) ?_
        rw [hsum.1]
        simpa using Ev.now _
      · have ea : atR W Th Tk ws idx = ([], false) := by unfold atR; rw [if_neg (fun hh => hi hh.2)]
        rw [ea]
        have fin : Ev (fun k => laws_FnIndexed.j1 k ws idx (wy W Th Tk ws) [] false true W Th Tk) true := by
          refine Ev.step (f := fun _ => some true) (fun k => ?_) (Ev.now _)
          simp only [laws_FnIndexed.j1]; rw [if_pos trivial, if_pos (by omega), if_neg (by simp)]; rfl
        by_cases h0 : idx < 0
        · simp only [if_pos h0]; exact fin
        · simp only [if_neg h0]; rw [decide_eq_true (by omega)]; exact fin
end Go.Proofs.Ytnbmlblcmjaclaa.Pure
