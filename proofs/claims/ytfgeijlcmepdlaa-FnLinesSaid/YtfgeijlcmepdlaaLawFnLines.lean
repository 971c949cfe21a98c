/- The law laws.FnLines: whatever the input, the Go function returns true and leaves its arguments as they were: out of its plain statement and what its code computes. No condition. -/
import Derived.Test.YtfgeijlcmepdlaaRows
import Derived.Test.YtfgeijlcmepdlaaPFnLines
import Derived.Test.YtfgeijlcmepdlaaQFnLines
import Derived.WalkKit
import Derived.ProofKit
import Derived.SizedLaws
namespace Go.Proofs.Ytfgeijlcmepdlaa.fnLines
open Go Go.Tree Go.ChangeShapes Go.WideShapes Go.ChangeAt Go.RowKit
open Go.ChangeMaps (open_string shut_string)
set_option linter.unusedVariables false
theorem own : ownKnob Try.prog.godebug = none := by kernel_rfl
theorem laidOut : laidOutB Try.prog = true := by kernel_rfl
set_option maxRecDepth 100000 in
set_option maxHeartbeats 1000000 in
theorem lifted (os : Os) (started : os.Started) (H : Type) (enc : TypeId × Value → H) :
    ReturnsInHanded {} Try.checked os 6 .any (Rows.fnLinesSpec.pre6 enc Try.prog Try.f6 Rows.fnLinesRow.domain false) (Rows.fnLinesSpec.post enc Try.prog Try.f6 false true false false) := by
  refine returnsInHanded_of_change_sized (C := Try.checked) own started (by kernel_rfl) Try.func6
    (ChangeSpec.witness6 (enc := enc) (C := Try.checked) false ⟨#[], #[.slice none 0 0], []⟩ 8 (by kernel_rfl) (by kernel_rfl) (by kernel_rfl) (by kernel_rfl)) ?_
  intro W base args ds gs before hval0 hW hcnd hsz0 _
  have hval : ∀ (j : Nat) t v, Try.f6.params[j]? = some t → args[j]? = some v → Value.okWide Try.prog W .any base t v := hval0
  have hW' := hW
  obtain ⟨p, q, hA0, hV, rfl, hfz, hnd⟩ := hW
  have hA : DataW.TrodAll enc Try.prog W 0 (fun _ => true) true Try.f6.params.toList args.toList ds p := hA0
  obtain ⟨rfl, rfl⟩ := trodVars_none hV
  refine (law_call (E := E0) (c := laws_FnLines_C) laws_FnLines_ok (l := [(0, .c (.rd [] .u8))]) (by kernel_rfl) rfl rfl (by kernel_rfl) rfl hA (fun j t v h1 h2 => hval j t v (by simpa using h1) (by simpa using h2)) trivial row_FnLines).mono fun e W' ⟨he, bel⟩ => ?_
  subst he
  obtain ⟨d0, rfl⟩ := len1 ((trodAll_len hA).trans (by kernel_rfl))
  have hR := trod_rest laidOut bel (by kernel_rfl) hA
  exact ⟨_, rfl, _, _, _, [], _, [], hW', trodAll_mk1 (shut_bool Try.underlying4 _), hR, rfl, bel.frame _, fun h => by cases h⟩
theorem over : Rows.fnLinesRow.holds Try.pinned (OpenSpec.ofChange Rows.fnLinesSpec) :=
  OpenClaim.holds_of_wide 6 Try.f6 rfl rfl rfl rfl rfl rfl rfl ⟨rfl, rfl, rfl, rfl, rfl⟩ rfl rfl rfl rfl rfl (by kernel_rfl) Try.func6 (by kernel_rfl)
    (of_decide_eq_true (by kernel_rfl)) (by unfold Func.isWrapper; first | (rw [if_pos (by decide +kernel)]; kernel_rfl) | (rw [if_neg (by decide +kernel)]; exact ⟨rfl, rfl⟩))
    (fun os started H enc _ => lifted os started H enc)
theorem proved : Rows.FnLinesSaid := over
end Go.Proofs.Ytfgeijlcmepdlaa.fnLines
namespace Go.Proofs.Ytfgeijlcmepdlaa
/-- The row, under a short name, for the claim. -/
theorem fnLines_holds : Rows.FnLinesSaid := fnLines.proved
end Go.Proofs.Ytfgeijlcmepdlaa
