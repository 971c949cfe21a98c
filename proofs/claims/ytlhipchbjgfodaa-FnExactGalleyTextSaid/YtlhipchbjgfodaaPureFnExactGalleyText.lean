/- The pure statement behind the law FnExactGalleyText: the program's GalleyText and the reference's tell the same text, and the galley is not changed. No condition. -/
import Derived.Test.YtlhipchbjgfodaaPFnExactGalleyText1
import Derived.Test.YtlhipchbjgfodaaBFnExactGalleyTextBase
import Derived.Test.YtlhipchbjgfodaaBFnExactGalleyTextStr
import Derived.Test.YtlhipchbjgfodaaBFnExactGalleyTextJoinS
namespace Go.Proofs.Ytlhipchbjgfodaa.Pure
open Go.RowKit Go.Proofs.Ytlhipchbjgfodaa.PFnExactGalleyText Go.Proofs.YtlhipchbjgfodaaW.PrintWords Go.Proofs.YtlhipchbjgfodaaW.PrintLast Go.Proofs.YtlhipchbjgfodaaW.PrintMore
theorem FnExactGalleyText : laws_FnExactGalleyText.Pure := by
  intro a ha
  refine Ev.rounds (g := fun k => laws_FnExactGalleyText.f k a) ?_
  unfold laws_FnExactGalleyText.f
  obtain ⟨t, ev, h1, h2⟩ := sz_ex a ha.1 ha.2 1048576 (by omega) (by omega)
  refine Ev.bind ev ?_
  by_cases h0 : t < 0
  · simp only [if_pos h0]; exact Ev.now _
  simp only [if_neg h0]
  have e1 := h2 (by omega)
  have la : a.length ≤ 1048576 := by omega
  have sp : Ev (fun k => spec_GalleyText.f k a) (jn a) := by
    unfold spec_GalleyText.f
    exact Ev.bind (specJoin_ev a (by omega) (by omega)) (Ev.now _)
  have im : impl_GalleyText.f a = some (jn a) := by
    unfold impl_GalleyText.f
    rw [implJoin_eq a (by omega) (by omega)]; rfl
  refine Ev.bind (toStringS_ev a la) (Ev.bind sp (Ev.bind (toStringS_ev a la) ?_))
  rw [im]
  simp only [Option.bind_some, if_true]
  refine Ev.bind (toStringS_ev a la) (Ev.bind (eqStringS_ev a (by omega)) ?_)
  simp only [if_true]
  exact Ev.now _
end Go.Proofs.Ytlhipchbjgfodaa.Pure
