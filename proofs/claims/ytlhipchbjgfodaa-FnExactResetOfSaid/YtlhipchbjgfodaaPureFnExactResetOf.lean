/- The pure statement behind the law FnExactResetOf: the program's ResetOf and the reference's tell the same, and no argument is changed. No condition. -/
import Derived.Test.YtlhipchbjgfodaaPFnExactResetOf2
import Derived.Test.YtlhipchbjgfodaaBFnExactResetOfBase
import Derived.Test.YtlhipchbjgfodaaBFnExactResetOfStr
import Derived.Test.YtlhipchbjgfodaaBFnExactResetOfReset
namespace Go.Proofs.Ytlhipchbjgfodaa.Pure
open Go.RowKit Go.Proofs.Ytlhipchbjgfodaa.PFnExactResetOf Go.Proofs.YtlhipchbjgfodaaW.PrintWords Go.Proofs.YtlhipchbjgfodaaW.PrintLast Go.Proofs.YtlhipchbjgfodaaW.PrintMore
set_option linter.unusedSectionVars false
theorem FnExactResetOf : laws_FnExactResetOf.Pure := by
  intro a b ha hb
  refine Ev.rounds (g := fun k => laws_FnExactResetOf.f k a b) ?_
  unfold laws_FnExactResetOf.f
  obtain ⟨t, ev, h1, h2⟩ := sz_ex a ha.1 ha.2 1048576 (by omega) (by omega)
  refine Ev.bind ev ?_
  by_cases h0 : t < 0
  · simp only [if_pos h0]; exact Ev.now _
  simp only [if_neg h0]
  obtain ⟨u, ev2, h3, h4⟩ := sz_ex b hb.1 hb.2 t (by omega) (by omega)
  refine Ev.bind ev2 ?_
  by_cases h5 : u < 0
  · simp only [if_pos h5]; exact Ev.now _
  simp only [if_neg h5]
  have e1 := h2 (by omega)
  have e2 := h4 (by omega)
  have la : a.length ≤ 1048576 := by omega
  have lb : b.length ≤ 1048576 := by omega
  refine Ev.bind (toStringS_ev a la) (Ev.bind (toStringS_ev b lb) (Ev.bind (specRs_ev (by omega) (by omega)) (Ev.bind (toStringS_ev a la) (Ev.bind (toStringS_ev b lb) (Ev.bind (implRs_ev (by omega) (by omega)) ?_)))))
  simp only [if_true, bne_self_eq_false]
  refine Ev.step (f := fun k => _) (fun k => by rw [laws_FnExactResetOf.j0, if_neg (by simp)]) ?_
  refine Ev.bind (toStringS_ev a la) (Ev.bind (eqStringS_ev a (by omega)) ?_)
  simp only [if_true]
  refine Ev.bind (toStringS_ev b lb) (Ev.bind (eqStringS_ev b (by omega)) ?_)
  simp only [if_true]
  exact Ev.now _
end Go.Proofs.Ytlhipchbjgfodaa.Pure
