/- The pure statement behind the law FnExactApplyReset: the program's ApplyReset and the reference's tell the same, and nothing is shared or changed. No condition. -/
import Derived.Test.YtlhipchbjgfodaaPFnExactApplyReset3
import Derived.Test.YtlhipchbjgfodaaBFnExactApplyResetBase
import Derived.Test.YtlhipchbjgfodaaBFnExactApplyResetStr
import Derived.Test.YtlhipchbjgfodaaBFnExactApplyResetApply
namespace Go.Proofs.Ytlhipchbjgfodaa.Pure
open Go.RowKit Go.Proofs.Ytlhipchbjgfodaa.PFnExactApplyReset Go.Proofs.YtlhipchbjgfodaaW.PrintWords Go.Proofs.YtlhipchbjgfodaaW.PrintLast Go.Proofs.YtlhipchbjgfodaaW.PrintMore
theorem FnExactApplyReset : laws_FnExactApplyReset.Pure := by
  intro a f o l ha _ _ hb
  refine Ev.rounds (g := fun k => laws_FnExactApplyReset.f k a f o l) ?_
  unfold laws_FnExactApplyReset.f
  obtain ⟨t, ev, h1, h2⟩ := sz_ex a ha.1 ha.2 1048576 (by omega) (by omega)
  refine Ev.bind ev ?_
  by_cases h0 : t < 0
  · simp only [if_pos h0]; exact Ev.now _
  simp only [if_neg h0]
  obtain ⟨u, ev2, h3, h4⟩ := sz_ex l hb.1 hb.2 t (by omega) (by omega)
  refine Ev.bind ev2 ?_
  by_cases h5 : u < 0
  · simp only [if_pos h5]; exact Ev.now _
  simp only [if_neg h5]
  have e1 := h2 (by omega)
  have e2 := h4 (by omega)
  have la : a.length ≤ 1048576 := by omega
  have lb : l.length ≤ 1048576 := by omega
  have lr := apN_len a f o l
  refine Ev.bind (toStringS_ev a la) (Ev.bind (toStringS_ev l lb) ?_)
  rw [specAp_eq a f o l (by omega) (by omega)]
  simp only [Option.bind_some]
  refine Ev.bind (toStringS_ev a la) (Ev.bind (toStringS_ev l lb) (Ev.bind (implAp_ev a f o l (by omega) (by omega)) (Ev.bind (eqStringS_ev _ (by omega)) ?_)))
  simp only [if_true, bne_self_eq_false]
  refine Ev.step (f := fun k => _) (fun k => by rw [laws_FnExactApplyReset.j0, if_neg (by simp)]) ?_
  refine Ev.bind (toStringS_ev a la) (Ev.bind (eqStringS_ev a (by omega)) ?_)
  simp only [if_true]
  refine Ev.bind (toStringS_ev l lb) (Ev.bind (eqStringS_ev l (by omega)) ?_)
  simp only [if_true]
  obtain ⟨a', m1, _, _⟩ := markStringS_ex a 1 (by omega) (by omega) (by omega)
  obtain ⟨l', m2, _, _⟩ := markStringS_ex l (1 + a.length) (by omega) (by omega) (by omega)
  refine Ev.bind m1 (Ev.bind m2 ?_)
  simp only [if_neg (show ¬ (1 + (a.length : Int) + (l.length : Int) < 0) by omega)]
  refine Ev.bind (eqStringS_ev _ (by omega)) ?_
  simp only [if_true, bne_self_eq_false]
  refine Ev.step (f := fun k => _) (fun k => by rw [laws_FnExactApplyReset.j1, if_neg (by simp)]) ?_
  obtain ⟨r', m3, m4, m5⟩ := markStringS_ex (apN a f o l).1 1 (by omega) (by omega) (by omega)
  have m6 := heldStringS_ev r' 1 (by omega) m5 (by omega) (by omega)
  rw [m4] at m6
  refine Ev.bind m3 (Ev.bind m6 ?_)
  simp only [if_neg (show ¬ (1 + ((apN a f o l).1.length : Int) < 0) by omega), if_true]
  refine Ev.bind (toStringS_ev a la) (Ev.bind (toStringS_ev l lb) (Ev.bind (implAp_ev a f o l (by omega) (by omega)) (Ev.bind (eqStringS_ev _ (by omega)) ?_)))
  simp only [if_true, bne_self_eq_false]
  refine Ev.step (f := fun k => _) (fun k => by rw [laws_FnExactApplyReset.j2, if_neg (by simp)]) ?_
  refine Ev.bind m6 ?_
  simp only [if_neg (show ¬ (1 + ((apN a f o l).1.length : Int) < 0) by omega), if_true]
  exact Ev.now _
end Go.Proofs.Ytlhipchbjgfodaa.Pure
