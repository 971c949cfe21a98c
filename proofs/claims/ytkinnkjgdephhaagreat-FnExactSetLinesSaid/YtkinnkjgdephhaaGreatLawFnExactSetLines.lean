/- The law laws.FnExactSetLines: whatever the input, the Go function returns true and leaves its arguments as they were: out of its plain statement and what its code computes. No condition. -/
import Derived.Test.YtkinnkjgdephhaaGreatRows
import Derived.Test.YtkinnkjgdephhaaGreatPFnExactSetLines
import Derived.Test.YtkinnkjgdephhaaGreatQFnExactSetLines
import Derived.WalkKit
import Derived.ProofKit
import Derived.SizedLaws
namespace Go.Proofs.YtkinnkjgdephhaaGreat.fnExactSetLines
open Go Go.Tree Go.ChangeShapes Go.WideShapes Go.ChangeAt Go.RowKit
open Go.ChangeMaps (open_string shut_string)
set_option linter.unusedVariables false
theorem own : ownKnob Tryz.prog.godebug = none := by kernel_rfl
theorem laidOut : laidOutB Tryz.prog = true := by kernel_rfl
set_option maxRecDepth 100000 in
set_option maxHeartbeats 1000000 in
theorem lifted (os : Os) (started : os.Started) (H : Type) (enc : TypeId × Value → H) :
    ReturnsInHanded {} Tryz.checked os 3 .any (Rows.fnExactSetLinesSpec.pre6 enc Tryz.prog Tryz.f3 Rows.fnExactSetLinesRow.domain false) (Rows.fnExactSetLinesSpec.post enc Tryz.prog Tryz.f3 false true false false) := by
  refine returnsInHanded_of_change_sized (C := Tryz.checked) own started (by kernel_rfl) Tryz.func3
    (ChangeSpec.witness6 (enc := enc) (C := Tryz.checked) false ⟨#[], #[.agg #[.string .empty, .slice none 0 0, .slice none 0 0, .slice none 0 0, .int .i64 0, .int .i64 0, .int .i64 0, .int .i64 0, .slice none 0 0, .slice none 0 0], .slice none 0 0], []⟩ 8 (by kernel_rfl) (by kernel_rfl) (by kernel_rfl) (by kernel_rfl)) ?_
  intro W base args ds gs before hval0 hW hcnd hsz0 _
  have hval : ∀ (j : Nat) t v, Tryz.f3.params[j]? = some t → args[j]? = some v → Value.okWide Tryz.prog W .any base t v := hval0
  have hW' := hW
  obtain ⟨p, q, hA0, hV, rfl, hfz, hnd⟩ := hW
  have hA : DataW.TrodAll enc Tryz.prog W 0 (fun _ => true) true Tryz.f3.params.toList args.toList ds p := hA0
  obtain ⟨rfl, rfl⟩ := trodVars_none hV
  refine (law_call (E := E0) (c := laws_FnExactSetLines_C) laws_FnExactSetLines_ok (l := [(0, .agg [.str, .rd [] .i64, .rd [] .i64, .rd [] .mats, .int .i64, .int .i64, .int .i64, .int .i64, .rd [] .mat, .rd [] .mat]), (1, .c (.rd [] .str))]) (by kernel_rfl) rfl rfl (by kernel_rfl) rfl hA (fun j t v h1 h2 => hval j t v (by simpa using h1) (by simpa using h2)) row_SetLines).mono fun e W' ⟨he, bel⟩ => ?_
  subst he
  obtain ⟨d0, d1, rfl⟩ := len2 ((trodAll_len hA).trans (by kernel_rfl))
  have hR := trod_rest laidOut bel (by kernel_rfl) hA
  exact ⟨_, rfl, _, _, _, [], _, [], hW', trodAll_mk1 (shut_bool Tryz.underlying4 _), hR, rfl, bel.frame _, fun h => by cases h⟩
theorem over : Rows.fnExactSetLinesRow.holds Tryz.pinned (OpenSpec.ofChange Rows.fnExactSetLinesSpec) :=
  OpenClaim.holds_of_wide 3 Tryz.f3 rfl rfl rfl rfl rfl rfl rfl ⟨rfl, rfl, rfl, rfl, rfl⟩ rfl rfl rfl rfl rfl (by kernel_rfl) Tryz.func3 (by kernel_rfl)
    (of_decide_eq_true (by kernel_rfl)) (by unfold Func.isWrapper; first | (rw [if_pos (by decide +kernel)]; kernel_rfl) | (rw [if_neg (by decide +kernel)]; exact ⟨rfl, rfl⟩))
    (fun os started H enc _ => lifted os started H enc)
theorem proved : Rows.FnExactSetLinesSaid := over
end Go.Proofs.YtkinnkjgdephhaaGreat.fnExactSetLines
namespace Go.Proofs.YtkinnkjgdephhaaGreat
/-- The row, under a short name, for the claim. -/
theorem fnExactSetLines_holds : Rows.FnExactSetLinesSaid := fnExactSetLines.proved
end Go.Proofs.YtkinnkjgdephhaaGreat
