/- Written by a program of this session with the help of the kit's print: of each Go function a Lean function, and the proof that its call comes to just what that tells. No condition beyond those that each theorem states. -/
import Derived.Test.YtnbmlblcmjaclaaPFnBest0
import Derived.Test.YtnbmlblcmjaclaaPFnBest4
import Derived.Test.YtnbmlblcmjaclaaPFnBest6
import Derived.Test.YtnbmlblcmjaclaaPFnBest7
import Derived.Test.YtnbmlblcmjaclaaPFnBest8
import Derived.Test.YtnbmlblcmjaclaaPFnBest10
import Derived.Test.YtnbmlblcmjaclaaPFnBest11
namespace Go.Proofs.Ytnbmlblcmjaclaa.PFnBest
open Go.RowKit Go.Proofs.YtnbmlblcmjaclaaW.PrintWords Go.Proofs.YtnbmlblcmjaclaaW.PrintLast Go.Proofs.YtnbmlblcmjaclaaW.PrintMore
attribute [local go_sem] max2_int min2_int max_two min_two max_three min_three max_four min_four
set_option linter.unusedVariables false
set_option linter.unusedSimpArgs false
mutual
def laws_FnBest.j0 : Nat → List Int → List Int → Int → Int → Int → Bool → Int → Int → Int → Option (Bool)
 | 0, _, _, _, _, _, _, _, _, _ => none
 | k + 1, x0, x4, x6, x8, x9, x56, x397000, x397001, x397002 => if x56 = true then (some false) else (laws_FnBest.l0 k x0 x4 x6 x8 x9 0 x397000 x397001 x397002)
def laws_FnBest.l0 : Nat → List Int → List Int → Int → Int → Int → Int → Int → Int → Int → Option (Bool)
 | 0, _, _, _, _, _, _, _, _, _ => none
 | k + 1, x0, x4, x6, x8, x9, x10, x397000, x397001, x397002 => if x10 < 8 then (laws_FnBest.j2 k x0 x4 x6 x8 x9 x10 (decide (x10 < x8)) x397000 x397001 x397002) else (laws_FnBest.j2 k x0 x4 x6 x8 x9 x10 false x397000 x397001 x397002)
def laws_FnBest.j2 : Nat → List Int → List Int → Int → Int → Int → Int → Bool → Int → Int → Int → Option (Bool)
 | 0, _, _, _, _, _, _, _, _, _, _ => none
 | k + 1, x0, x4, x6, x8, x9, x10, x63, x397000, x397001, x397002 => if x63 = true then (if x8 > 8 then ((laws_at.f x0 x10).bind fun t406 => (if x8 = 0 then (none) else (laws_FnBest.j3 k x0 x4 x6 x8 x9 x10 (Int.tmod (wrap64 ((wrap64 (Int.tdiv (wrap64 (t406 * x8)) 256)) + x10)) x8) x397000 x397001 x397002))) else (laws_FnBest.j3 k x0 x4 x6 x8 x9 x10 x10 x397000 x397001 x397002)) else (some true)
def laws_FnBest.j3 : Nat → List Int → List Int → Int → Int → Int → Int → Int → Int → Int → Int → Option (Bool)
 | 0, _, _, _, _, _, _, _, _, _, _ => none
 | k + 1, x0, x4, x6, x8, x9, x10, x11, x397000, x397001, x397002 => (impl_BreakingAt.f k x397000 x397001 x397002 x4 x11).bind fun bt407 => ((impl_CostOf.f k x397000 x397001 x397002 x4 bt407.1).bind fun t411 => (if bt407.2 = true then (if t411 < x6 then (some false) else (if t411 = x6 then (if x11 < x9 then (some false) else (laws_FnBest.l0 k x0 x4 x6 x8 x9 (wrap64 (x10 + 1)) x397000 x397001 x397002)) else (laws_FnBest.l0 k x0 x4 x6 x8 x9 (wrap64 (x10 + 1)) x397000 x397001 x397002))) else (some false)))
end
def laws_FnBest.f (k : Nat) (l0 : List Int) : Option (Bool) := if (l0.length : Int) > 1048576 then (some true) else ((spec_DrawBestBreaking.f k l0).bind fun bt390 => ((impl_BestBreaking.f k bt390.1 bt390.2.1 bt390.2.2.1 bt390.2.2.2).bind fun bt397 => ((impl_CountBreakings.f k bt390.1 bt390.2.1 bt390.2.2.1 bt390.2.2.2).bind fun t402 => (if bt397.2.2 = true then ((impl_BreakingIndex.f k bt390.1 bt390.2.1 bt390.2.2.1 bt390.2.2.2 bt397.1).bind fun t404 => (if t404 < 0 then (laws_FnBest.j0 k l0 bt390.2.2.2 bt397.2.1 t402 t404 true bt390.1 bt390.2.1 bt390.2.2.1) else (if bt397.2.1 < 0 then (laws_FnBest.j0 k l0 bt390.2.2.2 bt397.2.1 t402 t404 true bt390.1 bt390.2.1 bt390.2.2.1) else ((impl_CostOf.f k bt390.1 bt390.2.1 bt390.2.2.1 bt390.2.2.2 bt397.1).bind fun t405 => (laws_FnBest.j0 k l0 bt390.2.2.2 bt397.2.1 t402 t404 (t405 != bt397.2.1) bt390.1 bt390.2.1 bt390.2.2.1))))) else ((spec_CountBreakings.f k bt390.1 bt390.2.1 bt390.2.2.1 bt390.2.2.2).bind fun t403 => (some (decide (t403 < 1))))))))
theorem laws_FnBest.mono_l : ∀ k, (∀ y0 y1 y2 y3 y4 y5 y6 y7 y8, LeO (laws_FnBest.j0 k y0 y1 y2 y3 y4 y5 y6 y7 y8) (laws_FnBest.j0 (k + 1) y0 y1 y2 y3 y4 y5 y6 y7 y8)) ∧ (∀ y0 y1 y2 y3 y4 y5 y6 y7 y8, LeO (laws_FnBest.l0 k y0 y1 y2 y3 y4 y5 y6 y7 y8) (laws_FnBest.l0 (k + 1) y0 y1 y2 y3 y4 y5 y6 y7 y8)) ∧ (∀ y0 y1 y2 y3 y4 y5 y6 y7 y8 y9, LeO (laws_FnBest.j2 k y0 y1 y2 y3 y4 y5 y6 y7 y8 y9) (laws_FnBest.j2 (k + 1) y0 y1 y2 y3 y4 y5 y6 y7 y8 y9)) ∧ (∀ y0 y1 y2 y3 y4 y5 y6 y7 y8 y9, LeO (laws_FnBest.j3 k y0 y1 y2 y3 y4 y5 y6 y7 y8 y9) (laws_FnBest.j3 (k + 1) y0 y1 y2 y3 y4 y5 y6 y7 y8 y9))
 | 0 => ⟨fun _ _ _ _ _ _ _ _ _ r h => by simp [laws_FnBest.j0] at h, fun _ _ _ _ _ _ _ _ _ r h => by simp [laws_FnBest.l0] at h, fun _ _ _ _ _ _ _ _ _ _ r h => by simp [laws_FnBest.j2] at h, fun _ _ _ _ _ _ _ _ _ _ r h => by simp [laws_FnBest.j3] at h⟩
 | k + 1 => by
  obtain ⟨ih0, ih1, ih2, ih3⟩ := laws_FnBest.mono_l k
  refine ⟨?_, ?_, ?_, ?_⟩
  ·intro y0 y1 y2 y3 y4 y5 y6 y7 y8
   unfold laws_FnBest.j0
   repeat' first
   | (with_reducible exact ih0 _ _ _ _ _ _ _ _ _)
   | (with_reducible exact ih1 _ _ _ _ _ _ _ _ _)
   | (with_reducible exact ih2 _ _ _ _ _ _ _ _ _ _)
   | (with_reducible exact ih3 _ _ _ _ _ _ _ _ _ _)
   | (with_reducible exact impl_BestBreaking.mono _ _ _ _ _)
   | (with_reducible exact impl_BreakingAt.mono _ _ _ _ _ _)
   | (with_reducible exact impl_BreakingIndex.mono _ _ _ _ _ _)
   | (with_reducible exact impl_CostOf.mono _ _ _ _ _ _)
   | (with_reducible exact impl_CountBreakings.mono _ _ _ _ _)
   | (with_reducible exact spec_CountBreakings.mono _ _ _ _ _)
   | (with_reducible exact spec_DrawBestBreaking.mono _ _)
   | (with_reducible exact LeO.refl _)
   | (with_reducible exact LeO.none _)
   | (with_reducible refine LeO.ite ?_ ?_)
   | (with_reducible refine LeO.bind ?_ (fun _ => ?_))
   | exact ih0 _ _ _ _ _ _ _ _ _
   | exact ih1 _ _ _ _ _ _ _ _ _
   | exact ih2 _ _ _ _ _ _ _ _ _ _
   | exact ih3 _ _ _ _ _ _ _ _ _ _
   | exact impl_BestBreaking.mono _ _ _ _ _
   | exact impl_BreakingAt.mono _ _ _ _ _ _
   | exact impl_BreakingIndex.mono _ _ _ _ _ _
   | exact impl_CostOf.mono _ _ _ _ _ _
   | exact impl_CountBreakings.mono _ _ _ _ _
   | exact spec_CountBreakings.mono _ _ _ _ _
   | exact spec_DrawBestBreaking.mono _ _
   | exact LeO.none _
   | refine LeO.ite ?_ ?_
   | refine LeO.bind ?_ (fun _ => ?_)
  ·intro y0 y1 y2 y3 y4 y5 y6 y7 y8
   unfold laws_FnBest.l0
   repeat' first
   | (with_reducible exact ih0 _ _ _ _ _ _ _ _ _)
   | (with_reducible exact ih1 _ _ _ _ _ _ _ _ _)
   | (with_reducible exact ih2 _ _ _ _ _ _ _ _ _ _)
   | (with_reducible exact ih3 _ _ _ _ _ _ _ _ _ _)
   | (with_reducible exact impl_BestBreaking.mono _ _ _ _ _)
   | (with_reducible exact impl_BreakingAt.mono _ _ _ _ _ _)
   | (with_reducible exact impl_BreakingIndex.mono _ _ _ _ _ _)
   | (with_reducible exact impl_CostOf.mono _ _ _ _ _ _)
   | (with_reducible exact impl_CountBreakings.mono _ _ _ _ _)
   | (with_reducible exact spec_CountBreakings.mono _ _ _ _ _)
   | (with_reducible exact spec_DrawBestBreaking.mono _ _)
   | (with_reducible exact LeO.refl _)
   | (with_reducible exact LeO.none _)
   | (with_reducible refine LeO.ite ?_ ?_)
   | (with_reducible refine LeO.bind ?_ (fun _ => ?_))
   | exact ih0 _ _ _ _ _ _ _ _ _
   | exact ih1 _ _ _ _ _ _ _ _ _
   | exact ih2 _ _ _ _ _ _ _ _ _ _
   | exact ih3 _ _ _ _ _ _ _ _ _ _
   | exact impl_BestBreaking.mono _ _ _ _ _
   | exact impl_BreakingAt.mono _ _ _ _ _ _
   | exact impl_BreakingIndex.mono _ _ _ _ _ _
   | exact impl_CostOf.mono _ _ _ _ _ _
   | exact impl_CountBreakings.mono _ _ _ _ _
   | exact spec_CountBreakings.mono _ _ _ _ _
   | exact spec_DrawBestBreaking.mono _ _
   | exact LeO.none _
   | refine LeO.ite ?_ ?_
   | refine LeO.bind ?_ (fun _ => ?_)
  ·intro y0 y1 y2 y3 y4 y5 y6 y7 y8 y9
   unfold laws_FnBest.j2
   repeat' first
   | (with_reducible exact ih0 _ _ _ _ _ _ _ _ _)
   | (with_reducible exact ih1 _ _ _ _ _ _ _ _ _)
   | (with_reducible exact ih2 _ _ _ _ _ _ _ _ _ _)
   | (with_reducible exact ih3 _ _ _ _ _ _ _ _ _ _)
   | (with_reducible exact impl_BestBreaking.mono _ _ _ _ _)
   | (with_reducible exact impl_BreakingAt.mono _ _ _ _ _ _)
   | (with_reducible exact impl_BreakingIndex.mono _ _ _ _ _ _)
   | (with_reducible exact impl_CostOf.mono _ _ _ _ _ _)
   | (with_reducible exact impl_CountBreakings.mono _ _ _ _ _)
   | (with_reducible exact spec_CountBreakings.mono _ _ _ _ _)
   | (with_reducible exact spec_DrawBestBreaking.mono _ _)
   | (with_reducible exact LeO.refl _)
   | (with_reducible exact LeO.none _)
   | (with_reducible refine LeO.ite ?_ ?_)
   | (with_reducible refine LeO.bind ?_ (fun _ => ?_))
   | exact ih0 _ _ _ _ _ _ _ _ _
   | exact ih1 _ _ _ _ _ _ _ _ _
   | exact ih2 _ _ _ _ _ _ _ _ _ _
   | exact ih3 _ _ _ _ _ _ _ _ _ _
   | exact impl_BestBreaking.mono _ _ _ _ _
   | exact impl_BreakingAt.mono _ _ _ _ _ _
   | exact impl_BreakingIndex.mono _ _ _ _ _ _
   | exact impl_CostOf.mono _ _ _ _ _ _
   | exact impl_CountBreakings.mono _ _ _ _ _
   | exact spec_CountBreakings.mono _ _ _ _ _
   | exact spec_DrawBestBreaking.mono _ _
   | exact LeO.none _
   | refine LeO.ite ?_ ?_
   | refine LeO.bind ?_ (fun _ => ?_)
  ·intro y0 y1 y2 y3 y4 y5 y6 y7 y8 y9
   unfold laws_FnBest.j3
   repeat' first
   | (with_reducible exact ih0 _ _ _ _ _ _ _ _ _)
   | (with_reducible exact ih1 _ _ _ _ _ _ _ _ _)
   | (with_reducible exact ih2 _ _ _ _ _ _ _ _ _ _)
   | (with_reducible exact ih3 _ _ _ _ _ _ _ _ _ _)
   | (with_reducible exact impl_BestBreaking.mono _ _ _ _ _)
   | (with_reducible exact impl_BreakingAt.mono _ _ _ _ _ _)
   | (with_reducible exact impl_BreakingIndex.mono _ _ _ _ _ _)
   | (with_reducible exact impl_CostOf.mono _ _ _ _ _ _)
   | (with_reducible exact impl_CountBreakings.mono _ _ _ _ _)
   | (with_reducible exact spec_CountBreakings.mono _ _ _ _ _)
   | (with_reducible exact spec_DrawBestBreaking.mono _ _)
   | (with_reducible exact LeO.refl _)
   | (with_reducible exact LeO.none _)
   | (with_reducible refine LeO.ite ?_ ?_)
   | (with_reducible refine LeO.bind ?_ (fun _ => ?_))
   | exact ih0 _ _ _ _ _ _ _ _ _
   | exact ih1 _ _ _ _ _ _ _ _ _
   | exact ih2 _ _ _ _ _ _ _ _ _ _
   | exact ih3 _ _ _ _ _ _ _ _ _ _
   | exact impl_BestBreaking.mono _ _ _ _ _
   | exact impl_BreakingAt.mono _ _ _ _ _ _
   | exact impl_BreakingIndex.mono _ _ _ _ _ _
   | exact impl_CostOf.mono _ _ _ _ _ _
   | exact impl_CountBreakings.mono _ _ _ _ _
   | exact spec_CountBreakings.mono _ _ _ _ _
   | exact spec_DrawBestBreaking.mono _ _
   | exact LeO.none _
   | refine LeO.ite ?_ ?_
   | refine LeO.bind ?_ (fun _ => ?_)
theorem laws_FnBest.mono : ∀ a0 k, LeO (laws_FnBest.f k a0) (laws_FnBest.f (k + 1) a0) := by
 intro a0 k
 obtain ⟨ih0, ih1, ih2, ih3⟩ := laws_FnBest.mono_l k
 unfold laws_FnBest.f
 repeat' first
  | (with_reducible exact ih0 _ _ _ _ _ _ _ _ _)
  | (with_reducible exact ih1 _ _ _ _ _ _ _ _ _)
  | (with_reducible exact ih2 _ _ _ _ _ _ _ _ _ _)
  | (with_reducible exact ih3 _ _ _ _ _ _ _ _ _ _)
  | (with_reducible exact impl_BestBreaking.mono _ _ _ _ _)
  | (with_reducible exact impl_BreakingAt.mono _ _ _ _ _ _)
  | (with_reducible exact impl_BreakingIndex.mono _ _ _ _ _ _)
  | (with_reducible exact impl_CostOf.mono _ _ _ _ _ _)
  | (with_reducible exact impl_CountBreakings.mono _ _ _ _ _)
  | (with_reducible exact spec_CountBreakings.mono _ _ _ _ _)
  | (with_reducible exact spec_DrawBestBreaking.mono _ _)
  | (with_reducible exact LeO.refl _)
  | (with_reducible exact LeO.none _)
  | (with_reducible refine LeO.ite ?_ ?_)
  | (with_reducible refine LeO.bind ?_ (fun _ => ?_))
  | exact ih0 _ _ _ _ _ _ _ _ _
  | exact ih1 _ _ _ _ _ _ _ _ _
  | exact ih2 _ _ _ _ _ _ _ _ _ _
  | exact ih3 _ _ _ _ _ _ _ _ _ _
  | exact impl_BestBreaking.mono _ _ _ _ _
  | exact impl_BreakingAt.mono _ _ _ _ _ _
  | exact impl_BreakingIndex.mono _ _ _ _ _ _
  | exact impl_CostOf.mono _ _ _ _ _ _
  | exact impl_CountBreakings.mono _ _ _ _ _
  | exact spec_CountBreakings.mono _ _ _ _ _
  | exact spec_DrawBestBreaking.mono _ _
  | exact LeO.none _
  | refine LeO.ite ?_ ?_
  | refine LeO.bind ?_ (fun _ => ?_)
set_option maxHeartbeats 8000000 in
set_option maxRecDepth 100000 in
theorem laws_FnBest.calls (k : Nat) (A0 : Option Addr) (c0 : Nat) (l0 : List Int) (r : Bool) (w : World) (hr0 : Kd.C (Kd.int .u8) w A0 l0.length l0) (hc0 : l0.length ≤ c0) (h : laws_FnBest.f k l0 = some r) :
 Calls Try.prog 14 #[.slice A0 l0.length c0] w fun e w' => e = .returned (.bool r) ∧ Below w.heap.size w w' := by
 have hu27 := Try.underlying27
 have HR0 := Aside0.mk hr0
 have HC0 := Aside0.mk hc0
 clear hr0 hc0
 have HB := Aside0.mk (Below.refl w.heap.size w)
 have H : (if (l0.length : Int) > 1048576 then (some true) else ((spec_DrawBestBreaking.f k l0).bind fun bt390 => ((impl_BestBreaking.f k bt390.1 bt390.2.1 bt390.2.2.1 bt390.2.2.2).bind fun bt397 => ((impl_CountBreakings.f k bt390.1 bt390.2.1 bt390.2.2.1 bt390.2.2.2).bind fun t402 => (if bt397.2.2 = true then ((impl_BreakingIndex.f k bt390.1 bt390.2.1 bt390.2.2.1 bt390.2.2.2 bt397.1).bind fun t404 => (if t404 < 0 then (laws_FnBest.j0 k l0 bt390.2.2.2 bt397.2.1 t402 t404 true bt390.1 bt390.2.1 bt390.2.2.1) else (if bt397.2.1 < 0 then (laws_FnBest.j0 k l0 bt390.2.2.2 bt397.2.1 t402 t404 true bt390.1 bt390.2.1 bt390.2.2.1) else ((impl_CostOf.f k bt390.1 bt390.2.1 bt390.2.2.1 bt390.2.2.2 bt397.1).bind fun t405 => (laws_FnBest.j0 k l0 bt390.2.2.2 bt397.2.1 t402 t404 (t405 != bt397.2.1) bt390.1 bt390.2.1 bt390.2.2.1))))) else ((spec_CountBreakings.f k bt390.1 bt390.2.1 bt390.2.2.1 bt390.2.2.2).bind fun t403 => (some (decide (t403 < 1))))))))) = some r := h
 clear h
 by_cases c2 : (l0.length : Int) > 1048576
 ·rw [if_pos c2] at H
  have c2b0 : decide (1048576 < (l0.length : Int)) = true := decide_eq_true c2
  have c2b1 : decide (1048576 < l0.length) = true := decide_eq_true zp74
  clear c2
  obtain rfl := Option.some.inj H
  go_enter Try.func14, Try.ntmps14
  go_wp2
  go_ret
  exact ⟨by first | rfl | (simp [errW_none, errW_some] <;> rfl) | (simp [*, errW_none, errW_some] <;> rfl), by repeat (first | (with_reducible first | exact HB.out | apply below_alloc | apply pw_below_drewN | apply below_drew1) | exact HB.out)⟩
 ·rw [if_neg c2] at H
  have c2b0 : decide (1048576 < (l0.length : Int)) = false := decide_eq_false c2
  have c2b1 : decide (1048576 < l0.length) = false := decide_eq_false zp74
  clear c2
  replace H := Option.bind_eq_some_iff.mp H
  obtain ⟨⟨t390, t391, t392, t393⟩, A30, H⟩ := H
  replace H : ((impl_BestBreaking.f k t390 t391 t392 t393).bind fun bt397 => ((impl_CountBreakings.f k t390 t391 t392 t393).bind fun t402 => (if bt397.2.2 = true then ((impl_BreakingIndex.f k t390 t391 t392 t393 bt397.1).bind fun t404 => (if t404 < 0 then (laws_FnBest.j0 k l0 t393 bt397.2.1 t402 t404 true t390 t391 t392) else (if bt397.2.1 < 0 then (laws_FnBest.j0 k l0 t393 bt397.2.1 t402 t404 true t390 t391 t392) else ((impl_CostOf.f k t390 t391 t392 t393 bt397.1).bind fun t405 => (laws_FnBest.j0 k l0 t393 bt397.2.1 t402 t404 (t405 != bt397.2.1) t390 t391 t392))))) else ((spec_CountBreakings.f k t390 t391 t392 t393).bind fun t403 => (some (decide (t403 < 1))))))) = some r := H
  have A3 := Aside0.mk A30
  clear A30
  replace H := Option.bind_eq_some_iff.mp H
  obtain ⟨⟨t397, t400, t401⟩, A40, H⟩ := H
  replace H : ((impl_CountBreakings.f k t390 t391 t392 t393).bind fun t402 => (if t401 = true then ((impl_BreakingIndex.f k t390 t391 t392 t393 t397).bind fun t404 => (if t404 < 0 then (laws_FnBest.j0 k l0 t393 t400 t402 t404 true t390 t391 t392) else (if t400 < 0 then (laws_FnBest.j0 k l0 t393 t400 t402 t404 true t390 t391 t392) else ((impl_CostOf.f k t390 t391 t392 t393 t397).bind fun t405 => (laws_FnBest.j0 k l0 t393 t400 t402 t404 (t405 != t400) t390 t391 t392))))) else ((spec_CountBreakings.f k t390 t391 t392 t393).bind fun t403 => (some (decide (t403 < 1)))))) = some r := H
  have A4 := Aside0.mk A40
  clear A40
  replace H := Option.bind_eq_some_iff.mp H
  obtain ⟨t402, A50, H⟩ := H
  replace H : (if t401 = true then ((impl_BreakingIndex.f k t390 t391 t392 t393 t397).bind fun t404 => (if t404 < 0 then (laws_FnBest.j0 k l0 t393 t400 t402 t404 true t390 t391 t392) else (if t400 < 0 then (laws_FnBest.j0 k l0 t393 t400 t402 t404 true t390 t391 t392) else ((impl_CostOf.f k t390 t391 t392 t393 t397).bind fun t405 => (laws_FnBest.j0 k l0 t393 t400 t402 t404 (t405 != t400) t390 t391 t392))))) else ((spec_CountBreakings.f k t390 t391 t392 t393).bind fun t403 => (some (decide (t403 < 1))))) = some r := H
  have A5 := Aside0.mk A50
  clear A50
  by_cases c6 : t401 = true
  ·subst c6
   have H1 : ((impl_BreakingIndex.f k t390 t391 t392 t393 t397).bind fun t404 => (if t404 < 0 then (laws_FnBest.j0 k l0 t393 t400 t402 t404 true t390 t391 t392) else (if t400 < 0 then (laws_FnBest.j0 k l0 t393 t400 t402 t404 true t390 t391 t392) else ((impl_CostOf.f k t390 t391 t392 t393 t397).bind fun t405 => (laws_FnBest.j0 k l0 t393 t400 t402 t404 (t405 != t400) t390 t391 t392))))) = some r := by rw [if_pos rfl] at H; exact H
   clear H
   have H := H1
   clear H1
   replace H := Option.bind_eq_some_iff.mp H
   obtain ⟨t404, A70, H⟩ := H
   replace H : (if t404 < 0 then (laws_FnBest.j0 k l0 t393 t400 t402 t404 true t390 t391 t392) else (if t400 < 0 then (laws_FnBest.j0 k l0 t393 t400 t402 t404 true t390 t391 t392) else ((impl_CostOf.f k t390 t391 t392 t393 t397).bind fun t405 => (laws_FnBest.j0 k l0 t393 t400 t402 t404 (t405 != t400) t390 t391 t392)))) = some r := H
   have A7 := Aside0.mk A70
   clear A70
   have HC8 := Aside0.mk H
   clear H
   go_enter Try.func14, Try.ntmps14
   go_upto_region 9 with (first | ((with_reducible refine gate_callee (f := 46) rfl ?_); refine goesL_ (some 20) rfl rfl Try.func46 (by kernel_rfl) rfl #[.slice A0 l0.length c0] rfl zp1 ?_; (with_reducible refine (spec_DrawBestBreaking.calls k _ _ l0 t390 t391 t392 t393 _ ?side1 ?side2 A3.out).mono ?_); (case side1 => repeat (first | exact HR0.out | (with_reducible refine Kd.C_alloc ?_ _) | (with_reducible refine Kd.C_drewN ?_ _) | (with_reducible refine Kd.C_drew ?_))); (case side2 => exact HC0.out); rintro e w9 ⟨v394, rfl, ho0, hb⟩; refine ⟨_, rfl, ?_⟩; have n0_ := Aside0.mk (Kd.R_lower ho0 (below_size zp0)); have n1_ := Aside0.mk (below_step zp0 hb); clear HB; have HO395 := n0_; have HB := n1_; clear n0_ n1_; (try clear hb); (try clear hb2); (try clear hk); (try clear hi); (try clear ho0)) | ((with_reducible refine gate_dst (N := 3) rfl ?_); refine box_event ?hg (N := 3) ?hd (cs := #[.int .i64 0, .int .i64 0, .int .i64 0]) (t := 27) ?hr ?_; (case hd => rfl); (case hg => rfl); (case hr => first | (go_simp; done) | (go_simp; rfl)); intro gb396 hg w10 hbox hb; have n0_ := Aside0.mk (Kd.R_below zp50 hb); have n1_ := Aside0.mk (below_step zp0 hb); have n2_ := Aside0.mk (hbox); have n3_ := Aside0.mk ((zp6 : w.heap.size ≤ gb396)); have n4_ := Aside0.mk ((zp6 : w.heap.size ≤ gb396)); clear HO395; clear HB; have HO395 := n0_; have HB := n1_; have BK396 := n2_; have GW396 := n3_; have GE396 := n4_; clear n0_ n1_ n2_ n3_ n4_; clear hb hbox hg; have hcz11_0 : w10.cell? ⟨gb396, 0, none⟩ = some (.int .i64 0) := (blk_cell BK396.out 0).trans rfl; have hcz11_1 : w10.cell? ⟨gb396, 1, none⟩ = some (.int .i64 0) := (blk_cell BK396.out 1).trans rfl; have hcz11_2 : w10.cell? ⟨gb396, 2, none⟩ = some (.int .i64 0) := (blk_cell BK396.out 2).trans rfl; have hfz11_0 := blk_frozen BK396.out 0; have hfz11_1 := blk_frozen BK396.out 1; have hfz11_2 := blk_frozen BK396.out 2; obtain ⟨Ao12, co12, eo12⟩ := Kd.R_slice HO395.out; subst eo12) | ((with_reducible refine gate_callee (f := 39) rfl ?_); refine goesL_ (some 26) rfl rfl Try.func39 (by kernel_rfl) rfl #[.agg #[.int .i64 t390, .int .i64 t391, .int .i64 t392], .slice Ao12 t393.length co12] rfl zp1 ?_; (with_reducible refine (impl_BestBreaking.calls k t390 t391 t392 _ _ t393 t397 t400 true _ ?side1 ?side2 A4.out).mono ?_); (case side1 => refine (Kd.R_reads' (e := 3) (base := w.heap.size) (ok := fun k_ => True) (n := t393.length) (c := co12) ?_).2.2; exact (by (with_reducible repeat (first | apply Kd.R_alloc | apply Kd.R_drewN | apply Kd.R_drew)); exact (Kd.R_mono (Kd.R_far (p := ⟨gb396, 2, none⟩) (Kd.R_far (p := ⟨gb396, 1, none⟩) (Kd.R_far (p := ⟨gb396, 0, none⟩) (Kd.R_types HO395.out BK396.out (by decide)) (fun _ hk => hk.2) (.int .i64 t390)) (fun _ hk => hk.2) (.int .i64 t391)) (fun _ hk => hk.2) (.int .i64 t392)) (fun _ h_ => h_.1)))); (case side2 => exact (Kd.R_reads' HO395.out).2.1); rintro e w13 ⟨v398, rfl, ho0, hb⟩; refine ⟨_, rfl, ?_⟩; have n0_ := Aside0.mk (Kd.R_elder' (by (with_reducible repeat (first | apply Kd.R_alloc | apply Kd.R_drewN | apply Kd.R_drew)); exact (Kd.R_mono (Kd.R_far (p := ⟨gb396, 2, none⟩) (Kd.R_far (p := ⟨gb396, 1, none⟩) (Kd.R_far (p := ⟨gb396, 0, none⟩) (Kd.R_types HO395.out BK396.out (by decide)) (fun _ hk => hk.2) (.int .i64 t390)) (fun _ hk => hk.2) (.int .i64 t391)) (fun _ hk => hk.2) (.int .i64 t392)) (fun _ h_ => h_.1))) (Kd.R_base ho0) hb); have n1_ := Aside0.mk (Kd.R_lower (Kd.R_new' ho0 (Kd.R_lt (by (with_reducible repeat (first | apply Kd.R_alloc | apply Kd.R_drewN | apply Kd.R_drew)); exact (Kd.R_mono (Kd.R_far (p := ⟨gb396, 2, none⟩) (Kd.R_far (p := ⟨gb396, 1, none⟩) (Kd.R_far (p := ⟨gb396, 0, none⟩) (Kd.R_types HO395.out BK396.out (by decide)) (fun _ hk => hk.2) (.int .i64 t390)) (fun _ hk => hk.2) (.int .i64 t391)) (fun _ hk => hk.2) (.int .i64 t392)) (fun _ h_ => h_.1))))) (below_size zp7)); have n2_ := Aside0.mk (blk_below (g := gb396) (o := .cells #[.int .i64 t390, .int .i64 t391, .int .i64 t392] 27 (0, 0)) zp46 hb); have n3_ := Aside0.mk (below_step zp7 hb); clear HO395; clear BK396; clear HB; have HO395 := n0_; have HO399 := n1_; have BK396 := n2_; have HB := n3_; clear n0_ n1_ n2_ n3_; (try clear hb); (try clear hb2); (try clear hk); (try clear hi); (try clear ho0); have hcz14_0 : w13.cell? ⟨gb396, 0, none⟩ = some (.int .i64 t390) := (blk_cell BK396.out 0).trans rfl; have hcz14_1 : w13.cell? ⟨gb396, 1, none⟩ = some (.int .i64 t391) := (blk_cell BK396.out 1).trans rfl; have hcz14_2 : w13.cell? ⟨gb396, 2, none⟩ = some (.int .i64 t392) := (blk_cell BK396.out 2).trans rfl; have hfz14_0 := blk_frozen BK396.out 0; have hfz14_1 := blk_frozen BK396.out 1; have hfz14_2 := blk_frozen BK396.out 2) | ((with_reducible refine gate_callee (f := 29) rfl ?_); refine goesL_ (some 32) rfl rfl Try.func29 (by kernel_rfl) rfl #[.agg #[.int .i64 t390, .int .i64 t391, .int .i64 t392], .slice Ao12 t393.length co12] rfl zp1 ?_; (with_reducible refine (impl_CountBreakings.calls k t390 t391 t392 _ _ t393 t402 _ ?side1 ?side2 A5.out).mono ?_); (case side1 => repeat (first | exact (Kd.R_reads' HO395.out).2.2 | (with_reducible refine Kd.C_alloc ?_ _) | (with_reducible refine Kd.C_drewN ?_ _) | (with_reducible refine Kd.C_drew ?_))); (case side2 => exact (Kd.R_reads' HO395.out).2.1); rintro e w15 ⟨rfl, hb⟩; refine ⟨_, rfl, ?_⟩; have n0_ := Aside0.mk (Kd.R_below zp50 hb); have n1_ := Aside0.mk (Kd.R_below zp73 hb); have n2_ := Aside0.mk (blk_below (g := gb396) (o := .cells #[.int .i64 t390, .int .i64 t391, .int .i64 t392] 27 (0, 0)) zp23 hb); have n3_ := Aside0.mk (below_step zp7 hb); clear HO395; clear HO399; clear BK396; clear HB; have HO395 := n0_; have HO399 := n1_; have BK396 := n2_; have HB := n3_; clear n0_ n1_ n2_ n3_; (try clear hb); (try clear hb2); (try clear hk); (try clear hi); have hcz16_0 : w15.cell? ⟨gb396, 0, none⟩ = some (.int .i64 t390) := (blk_cell BK396.out 0).trans rfl; have hcz16_1 : w15.cell? ⟨gb396, 1, none⟩ = some (.int .i64 t391) := (blk_cell BK396.out 1).trans rfl; have hcz16_2 : w15.cell? ⟨gb396, 2, none⟩ = some (.int .i64 t392) := (blk_cell BK396.out 2).trans rfl; have hfz16_0 := blk_frozen BK396.out 0; have hfz16_1 := blk_frozen BK396.out 1; have hfz16_2 := blk_frozen BK396.out 2; obtain ⟨Ao17, co17, eo17⟩ := Kd.R_slice HO399.out; subst eo17) | ((with_reducible refine gate_callee (f := 41) rfl ?_); refine goesL_ (some 42) rfl rfl Try.func41 (by kernel_rfl) rfl #[.agg #[.int .i64 t390, .int .i64 t391, .int .i64 t392], .slice Ao12 t393.length co12, .slice Ao17 t397.length co17] rfl zp1 ?_; (with_reducible refine (impl_BreakingIndex.calls k t390 t391 t392 _ _ t393 _ _ t397 t404 _ ?side1 ?side2 ?side3 ?side4 A7.out).mono ?_); (case side1 => repeat (first | exact (Kd.R_reads' HO395.out).2.2 | (with_reducible refine Kd.C_alloc ?_ _) | (with_reducible refine Kd.C_drewN ?_ _) | (with_reducible refine Kd.C_drew ?_))); (case side2 => exact (Kd.R_reads' HO395.out).2.1); (case side3 => repeat (first | exact (Kd.R_reads' HO399.out).2.2 | (with_reducible refine Kd.C_alloc ?_ _) | (with_reducible refine Kd.C_drewN ?_ _) | (with_reducible refine Kd.C_drew ?_))); (case side4 => exact (Kd.R_reads' HO399.out).2.1); rintro e w18 ⟨rfl, hb⟩; refine ⟨_, rfl, ?_⟩; have n0_ := Aside0.mk (Kd.R_below zp50 hb); have n1_ := Aside0.mk (Kd.R_below zp73 hb); have n2_ := Aside0.mk (blk_below (g := gb396) (o := .cells #[.int .i64 t390, .int .i64 t391, .int .i64 t392] 27 (0, 0)) zp23 hb); have n3_ := Aside0.mk (below_step zp7 hb); clear HO395; clear HO399; clear BK396; clear HB; have HO395 := n0_; have HO399 := n1_; have BK396 := n2_; have HB := n3_; clear n0_ n1_ n2_ n3_; (try clear hb); (try clear hb2); (try clear hk); (try clear hi)))
   (try simp only [Act.put, List.setIfInBounds_toArray, List.set_cons_zero, List.set_cons_succ])
   go_cut [56] (fun v56 wc => ∃ (kq : Nat) (x56_7 : Bool), v56 = .bool x56_7 ∧ Aside0 (laws_FnBest.j0 kq l0 t393 t400 t402 t404 x56_7 t390 t391 t392 = some r) ∧ Aside0 (kq ≤ k) ∧ Aside0 (Kd.R (Kd.int .i64) 3 wc w.heap.size (fun _ => True) (.slice Ao12 t393.length co12) t393) ∧ Aside0 (wc.heap[gb396]? = some (.cells #[.int .i64 t390, .int .i64 t391, .int .i64 t392] 27 (0, 0))) ∧ Aside0 (Below w.heap.size w wc))
   case first =>
    have H := HC8.out
    clear HC8
    by_cases c19 : t404 < 0
    ·rw [if_pos c19] at H
     have c19b0 : decide (t404 < 0) = true := decide_eq_true c19
     clear c19
     (first | rw [c19b0] | (simp only [i64_w, i32_w]; rw [c19b0]) | skip)
     have H' := Aside0.mk H
     clear H
     go_wp2
     go_meet
     case rel => exact ⟨_, (true), zp5, H', ⟨by first | omega | exact Nat.le_refl _⟩, ⟨by (with_reducible repeat (first | apply Kd.R_alloc | apply Kd.R_drewN | apply Kd.R_drew)); exact Kd.R_mono HO395.out (fun _ hk => trivial)⟩, ⟨by (with_reducible repeat (first | refine blk_drewN ?_ _ | refine blk_drew ?_ | refine blk_alloc ?_ _)); exact BK396.out⟩, ⟨by repeat (first | (with_reducible first | exact HB.out | apply below_alloc | apply pw_below_drewN | apply below_drew1 | refine below_set ?_ GE396.out) | exact HB.out)⟩⟩
    ·rw [if_neg c19] at H
     have c19b0 : decide (t404 < 0) = false := decide_eq_false c19
     clear c19
     (first | rw [c19b0] | (simp only [i64_w, i32_w]; rw [c19b0]) | skip)
     by_cases c20 : t400 < 0
     ·rw [if_pos c20] at H
      have c20b0 : decide (t400 < 0) = true := decide_eq_true c20
      clear c20
      have H' := Aside0.mk H
      clear H
      go_wp2
      go_meet
      case rel => exact ⟨_, (true), zp5, H', ⟨by first | omega | exact Nat.le_refl _⟩, ⟨by (with_reducible repeat (first | apply Kd.R_alloc | apply Kd.R_drewN | apply Kd.R_drew)); exact Kd.R_mono HO395.out (fun _ hk => trivial)⟩, ⟨by (with_reducible repeat (first | refine blk_drewN ?_ _ | refine blk_drew ?_ | refine blk_alloc ?_ _)); exact BK396.out⟩, ⟨by repeat (first | (with_reducible first | exact HB.out | apply below_alloc | apply pw_below_drewN | apply below_drew1 | refine below_set ?_ GE396.out) | exact HB.out)⟩⟩
     ·rw [if_neg c20] at H
      have c20b0 : decide (t400 < 0) = false := decide_eq_false c20
      clear c20
      replace H := Option.bind_eq_some_iff.mp H
      obtain ⟨t405, A210, H⟩ := H
      replace H : (laws_FnBest.j0 k l0 t393 t400 t402 t404 (t405 != t400) t390 t391 t392) = some r := H
      have A21 := Aside0.mk A210
      clear A210
      have H' := Aside0.mk H
      clear H
      have hcz22_0 : w18.cell? ⟨gb396, 0, none⟩ = some (.int .i64 t390) := (blk_cell BK396.out 0).trans rfl
      have hcz22_1 : w18.cell? ⟨gb396, 1, none⟩ = some (.int .i64 t391) := (blk_cell BK396.out 1).trans rfl
      have hcz22_2 : w18.cell? ⟨gb396, 2, none⟩ = some (.int .i64 t392) := (blk_cell BK396.out 2).trans rfl
      have hfz22_0 := blk_frozen BK396.out 0
      have hfz22_1 := blk_frozen BK396.out 1
      have hfz22_2 := blk_frozen BK396.out 2
      go_wp2_with (first | (go_at_call 23; (with_reducible refine (impl_CostOf.calls k t390 t391 t392 _ _ t393 _ _ t397 t405 _ ?side1 ?side2 ?side3 ?side4 A21.out).mono ?_); (case side1 => repeat (first | exact (Kd.R_reads' HO395.out).2.2 | (with_reducible refine Kd.C_alloc ?_ _) | (with_reducible refine Kd.C_drewN ?_ _) | (with_reducible refine Kd.C_drew ?_))); (case side2 => exact (Kd.R_reads' HO395.out).2.1); (case side3 => repeat (first | exact (Kd.R_reads' HO399.out).2.2 | (with_reducible refine Kd.C_alloc ?_ _) | (with_reducible refine Kd.C_drewN ?_ _) | (with_reducible refine Kd.C_drew ?_))); (case side4 => exact (Kd.R_reads' HO399.out).2.1); rintro e w23 ⟨rfl, hb⟩; have n0_ := Aside0.mk (Kd.R_below zp50 hb); have n1_ := Aside0.mk (Kd.R_below zp73 hb); have n2_ := Aside0.mk (blk_below (g := gb396) (o := .cells #[.int .i64 t390, .int .i64 t391, .int .i64 t392] 27 (0, 0)) zp23 hb); have n3_ := Aside0.mk (below_step zp7 hb); clear HO395; clear HO399; clear BK396; clear HB; have HO395 := n0_; have HO399 := n1_; have BK396 := n2_; have HB := n3_; clear n0_ n1_ n2_ n3_; (try clear hb); (try clear hb2); (try clear hk); (try clear hi)))
      go_meet
      case rel => exact ⟨_, ((t405 != t400)), zp5, H', ⟨by first | omega | exact Nat.le_refl _⟩, ⟨by (with_reducible repeat (first | apply Kd.R_alloc | apply Kd.R_drewN | apply Kd.R_drew)); exact Kd.R_mono HO395.out (fun _ hk => trivial)⟩, ⟨by (with_reducible repeat (first | refine blk_drewN ?_ _ | refine blk_drew ?_ | refine blk_alloc ?_ _)); exact BK396.out⟩, ⟨by repeat (first | (with_reducible first | exact HB.out | apply below_alloc | apply pw_below_drewN | apply below_drew1 | refine below_set ?_ GE396.out) | exact HB.out)⟩⟩
   case rest =>
    clear HC8
    try clear c1
    try clear c2
    try clear c2b0
    try clear c2b1
    try clear p2
    try clear c3
    try clear c4
    try clear c6
    try clear c14
    try clear c19
    try clear c19b0
    try clear c20
    try clear c20b0
    try clear hcz11_0
    try clear hcz11_1
    try clear hcz11_2
    try clear hcz14_0
    try clear hcz14_1
    try clear hcz14_2
    try clear hcz16_0
    try clear hcz16_1
    try clear hcz16_2
    try clear hcz22_0
    try clear hcz22_1
    try clear hcz22_2
    try clear hfz11_0
    try clear hfz11_1
    try clear hfz11_2
    try clear hfz14_0
    try clear hfz14_1
    try clear hfz14_2
    try clear hfz16_0
    try clear hfz16_1
    try clear hfz16_2
    try clear hfz22_0
    try clear hfz22_1
    try clear hfz22_2
    obtain ⟨kq, x56_7, rfl, HA, HJ7, HO_4, BK396, HB⟩ := hcut
    cases kq with
    | zero => exact absurd HA.out (by simp [laws_FnBest.j0])
    | succ kj7 =>
     have H := HA.out
     clear HA
     simp only [laws_FnBest.j0] at H
     by_cases c24 : x56_7 = true
     ·subst c24
      have H1 : (some false) = some r := by rw [if_pos rfl] at H; exact H
      clear H
      have H := H1
      clear H1
      obtain rfl := Option.some.inj H
      go_wp2
      go_ret
      exact ⟨by first | rfl | (simp [errW_none, errW_some] <;> rfl) | (simp [*, errW_none, errW_some] <;> rfl), by repeat (first | (with_reducible first | exact HB.out | apply below_alloc | apply pw_below_drewN | apply below_drew1 | refine below_set ?_ GE396.out) | exact HB.out)⟩
     ·replace c24 := Bool.eq_false_iff.mpr c24
      subst c24
      have H1 : (laws_FnBest.l0 kj7 l0 t393 t400 t402 t404 0 t390 t391 t392) = some r := by rw [if_neg (show ¬ (false = true) by decide)] at H; exact H
      clear H
      have H := H1
      clear H1
      have H' := Aside0.mk H
      clear H
      go_wp2
      go_loopg [10] kj7 (fun kq v10 w' => ∃ (x10_2 : Int), v10 = .int .i64 x10_2 ∧ Aside0 (laws_FnBest.l0 kq l0 t393 t400 t402 t404 x10_2 t390 t391 t392 = some r) ∧ Aside0 (kq ≤ kj7) ∧ Aside0 (Kd.R (Kd.int .i64) 3 w' w.heap.size (fun _ => True) (.slice Ao12 t393.length co12) t393) ∧ Aside0 (w'.heap[gb396]? = some (.cells #[.int .i64 t390, .int .i64 t391, .int .i64 t392] 27 (0, 0))) ∧ Aside0 (Below w.heap.size w w'))
      case atStart => exact ⟨(0), zp5, H', ⟨Nat.le_refl _⟩, ⟨by (with_reducible repeat (first | apply Kd.R_alloc | apply Kd.R_drewN | apply Kd.R_drew)); exact HO_4.out⟩, ⟨by (with_reducible repeat (first | refine blk_drewN ?_ _ | refine blk_drew ?_ | refine blk_alloc ?_ _)); exact BK396.out⟩, ⟨by repeat (first | (with_reducible first | exact HB.out | apply below_alloc | apply pw_below_drewN | apply below_drew1 | refine below_set ?_ GE396.out) | exact HB.out)⟩⟩
      case round =>
       clear H'
       try clear c1
       try clear c2
       try clear c2b0
       try clear c2b1
       try clear p2
       try clear c3
       try clear c4
       try clear c6
       try clear c14
       try clear c19
       try clear c19b0
       try clear c20
       try clear c20b0
       try clear c24
       try clear hcz11_0
       try clear hcz11_1
       try clear hcz11_2
       try clear hcz14_0
       try clear hcz14_1
       try clear hcz14_2
       try clear hcz16_0
       try clear hcz16_1
       try clear hcz16_2
       try clear hcz22_0
       try clear hcz22_1
       try clear hcz22_2
       try clear hfz11_0
       try clear hfz11_1
       try clear hfz11_2
       try clear hfz14_0
       try clear hfz14_1
       try clear hfz14_2
       try clear hfz16_0
       try clear hfz16_1
       try clear hfz16_2
       try clear hfz22_0
       try clear hfz22_1
       try clear hfz22_2
       try clear p2
       obtain ⟨x10_2, rfl, HA, HK2, HO_4, BK396, HB⟩ := hrel
       cases gk with
       | zero => exact absurd HA.out (by simp [laws_FnBest.l0])
       | succ k2 =>
        have H := HA.out
        clear HA
        simp only [laws_FnBest.l0] at H
        have HC25 := Aside0.mk H
        clear H
        go_upto_region 12 with (fail)
        go_cut [63] (fun v63 wc => ∃ (kq : Nat) (x63_24 : Bool), v63 = .bool x63_24 ∧ Aside0 (laws_FnBest.j2 kq l0 t393 t400 t402 t404 x10_2 x63_24 t390 t391 t392 = some r) ∧ Aside0 (kq ≤ k2) ∧ Aside0 (Kd.R (Kd.int .i64) 3 wc w.heap.size (fun _ => True) (.slice Ao12 t393.length co12) t393) ∧ Aside0 (wc.heap[gb396]? = some (.cells #[.int .i64 t390, .int .i64 t391, .int .i64 t392] 27 (0, 0))) ∧ Aside0 (Below w.heap.size w wc))
        case first =>
         have H := HC25.out
         clear HC25
         by_cases c26 : x10_2 < 8
         ·rw [if_pos c26] at H
          have c26b0 : decide (x10_2 < 8) = true := decide_eq_true c26
          clear c26
          (first | rw [c26b0] | (simp only [i64_w, i32_w]; rw [c26b0]) | skip)
          have H' := Aside0.mk H
          clear H
          go_wp2
          go_meet
          case rel => exact ⟨_, (decide (x10_2 < t402)), zp5, H', ⟨by have := HJ7.out; have := HK2.out; first | omega | exact Nat.le_refl _⟩, ⟨by (with_reducible repeat (first | apply Kd.R_alloc | apply Kd.R_drewN | apply Kd.R_drew)); exact HO_4.out⟩, ⟨by (with_reducible repeat (first | refine blk_drewN ?_ _ | refine blk_drew ?_ | refine blk_alloc ?_ _)); exact BK396.out⟩, ⟨by repeat (first | (with_reducible first | exact HB.out | apply below_alloc | apply pw_below_drewN | apply below_drew1 | refine below_set ?_ GE396.out) | exact HB.out)⟩⟩
         ·rw [if_neg c26] at H
          have c26b0 : decide (x10_2 < 8) = false := decide_eq_false c26
          clear c26
          (first | rw [c26b0] | (simp only [i64_w, i32_w]; rw [c26b0]) | skip)
          have H' := Aside0.mk H
          clear H
          go_wp2
          go_meet
          case rel => exact ⟨_, (false), zp5, H', ⟨by have := HJ7.out; have := HK2.out; first | omega | exact Nat.le_refl _⟩, ⟨by (with_reducible repeat (first | apply Kd.R_alloc | apply Kd.R_drewN | apply Kd.R_drew)); exact HO_4.out⟩, ⟨by (with_reducible repeat (first | refine blk_drewN ?_ _ | refine blk_drew ?_ | refine blk_alloc ?_ _)); exact BK396.out⟩, ⟨by repeat (first | (with_reducible first | exact HB.out | apply below_alloc | apply pw_below_drewN | apply below_drew1 | refine below_set ?_ GE396.out) | exact HB.out)⟩⟩
        case rest =>
         clear HC25
         try clear c1
         try clear c2
         try clear c2b0
         try clear c2b1
         try clear p2
         try clear c3
         try clear c4
         try clear c6
         try clear c14
         try clear c19
         try clear c19b0
         try clear c20
         try clear c20b0
         try clear c24
         try clear c26
         try clear c26b0
         try clear hcz11_0
         try clear hcz11_1
         try clear hcz11_2
         try clear hcz14_0
         try clear hcz14_1
         try clear hcz14_2
         try clear hcz16_0
         try clear hcz16_1
         try clear hcz16_2
         try clear hcz22_0
         try clear hcz22_1
         try clear hcz22_2
         try clear hfz11_0
         try clear hfz11_1
         try clear hfz11_2
         try clear hfz14_0
         try clear hfz14_1
         try clear hfz14_2
         try clear hfz16_0
         try clear hfz16_1
         try clear hfz16_2
         try clear hfz22_0
         try clear hfz22_1
         try clear hfz22_2
         try clear p2
         obtain ⟨kq, x63_24, rfl, HA, HJ24, HO_4, BK396, HB⟩ := hcut
         cases kq with
         | zero => exact absurd HA.out (by simp [laws_FnBest.j2])
         | succ kj24 =>
          have H := HA.out
          clear HA
          simp only [laws_FnBest.j2] at H
          by_cases c27 : x63_24 = true
          ·subst c27
           have H1 : (if t402 > 8 then ((laws_at.f l0 x10_2).bind fun t406 => (if t402 = 0 then (none) else (laws_FnBest.j3 kj24 l0 t393 t400 t402 t404 x10_2 (Int.tmod (wrap64 ((wrap64 (Int.tdiv (wrap64 (t406 * t402)) 256)) + x10_2)) t402) t390 t391 t392))) else (laws_FnBest.j3 kj24 l0 t393 t400 t402 t404 x10_2 x10_2 t390 t391 t392)) = some r := by rw [if_pos rfl] at H; exact H
           clear H
           have H := H1
           clear H1
           have HC28 := Aside0.mk H
           clear H
           go_upto_if 68 with (fail)
           go_cut [11] (fun v11 wc => ∃ (kq : Nat) (x11_27 : Int), v11 = .int .i64 x11_27 ∧ Aside0 (laws_FnBest.j3 kq l0 t393 t400 t402 t404 x10_2 x11_27 t390 t391 t392 = some r) ∧ Aside0 (kq ≤ kj24) ∧ Aside0 (Kd.R (Kd.int .i64) 3 wc w.heap.size (fun _ => True) (.slice Ao12 t393.length co12) t393) ∧ Aside0 (wc.heap[gb396]? = some (.cells #[.int .i64 t390, .int .i64 t391, .int .i64 t392] 27 (0, 0))) ∧ Aside0 (Below w.heap.size w wc))
           case first =>
            have H := HC28.out
            clear HC28
            by_cases c29 : t402 > 8
            ·rw [if_pos c29] at H
             have c29b0 : decide (8 < t402) = true := decide_eq_true c29
             clear c29
             (first | rw [c29b0] | (simp only [i64_w, i32_w]; rw [c29b0]) | skip)
             replace H := Option.bind_eq_some_iff.mp H
             obtain ⟨t406, A300, H⟩ := H
             replace H : (if t402 = 0 then (none) else (laws_FnBest.j3 kj24 l0 t393 t400 t402 t404 x10_2 (Int.tmod (wrap64 ((wrap64 (Int.tdiv (wrap64 (t406 * t402)) 256)) + x10_2)) t402) t390 t391 t392)) = some r := H
             have A30 := Aside0.mk A300
             clear A300
             by_cases c31 : t402 = 0
             ·rw [if_pos c31] at H
              exact absurd H zp40
             ·rw [if_neg c31] at H
              have c31b0 : (t402 == 0) = false := beq_eq_false_iff_ne.mpr c31
              have c31b1 : (t402 != 0) = true := bne_iff_ne.mpr c31
              have H' := Aside0.mk H
              clear H
              go_wp2_with (first | ((with_reducible refine gate_callee (f := 47) rfl ?_); refine goesL_ (some 71) rfl rfl Try.func47 (by kernel_rfl) rfl #[.slice A0 l0.length c0, .int .i64 x10_2] rfl zp1 ?_; (with_reducible refine (laws_at.calls _ _ l0 x10_2 t406 _ ?side1 ?side2 A30.out).mono ?_); (case side1 => repeat (first | exact (Kd.C_below HR0.out HB.out) | (with_reducible refine Kd.C_alloc ?_ _) | (with_reducible refine Kd.C_drewN ?_ _) | (with_reducible refine Kd.C_drew ?_))); (case side2 => exact HC0.out); rintro e w' ⟨rfl, ⟨nd, rfl⟩⟩; refine ⟨_, rfl, ?_⟩))
              go_meet
              case rel => exact ⟨_, (Int.tmod (wrap64 ((wrap64 (Int.tdiv (wrap64 (t406 * t402)) 256)) + x10_2)) t402), zp5, H', ⟨by have := HJ7.out; have := HK2.out; have := HJ24.out; first | omega | exact Nat.le_refl _⟩, ⟨by (with_reducible repeat (first | apply Kd.R_alloc | apply Kd.R_drewN | apply Kd.R_drew)); exact HO_4.out⟩, ⟨by (with_reducible repeat (first | refine blk_drewN ?_ _ | refine blk_drew ?_ | refine blk_alloc ?_ _)); exact BK396.out⟩, ⟨by repeat (first | (with_reducible first | exact HB.out | apply below_alloc | apply pw_below_drewN | apply below_drew1 | refine below_set ?_ GE396.out) | exact HB.out)⟩⟩
            ·rw [if_neg c29] at H
             have c29b0 : decide (8 < t402) = false := decide_eq_false c29
             clear c29
             (first | rw [c29b0] | (simp only [i64_w, i32_w]; rw [c29b0]) | skip)
             have H' := Aside0.mk H
             clear H
             go_wp2
             go_meet
             case rel => exact ⟨_, (x10_2), zp5, H', ⟨by have := HJ7.out; have := HK2.out; have := HJ24.out; first | omega | exact Nat.le_refl _⟩, ⟨by (with_reducible repeat (first | apply Kd.R_alloc | apply Kd.R_drewN | apply Kd.R_drew)); exact HO_4.out⟩, ⟨by (with_reducible repeat (first | refine blk_drewN ?_ _ | refine blk_drew ?_ | refine blk_alloc ?_ _)); exact BK396.out⟩, ⟨by repeat (first | (with_reducible first | exact HB.out | apply below_alloc | apply pw_below_drewN | apply below_drew1 | refine below_set ?_ GE396.out) | exact HB.out)⟩⟩
           case rest =>
            clear HC28
            try clear c1
            try clear c2
            try clear c2b0
            try clear c2b1
            try clear p2
            try clear c3
            try clear c4
            try clear c6
            try clear p6
            try clear c14
            try clear c19
            try clear c19b0
            try clear c20
            try clear c20b0
            try clear c24
            try clear c26
            try clear c26b0
            try clear c27
            try clear c29
            try clear c29b0
            try clear c31
            try clear c31b0
            try clear c31b1
            try clear hcz11_0
            try clear hcz11_1
            try clear hcz11_2
            try clear hcz14_0
            try clear hcz14_1
            try clear hcz14_2
            try clear hcz16_0
            try clear hcz16_1
            try clear hcz16_2
            try clear hcz22_0
            try clear hcz22_1
            try clear hcz22_2
            try clear hfz11_0
            try clear hfz11_1
            try clear hfz11_2
            try clear hfz14_0
            try clear hfz14_1
            try clear hfz14_2
            try clear hfz16_0
            try clear hfz16_1
            try clear hfz16_2
            try clear hfz22_0
            try clear hfz22_1
            try clear hfz22_2
            try clear p2
            obtain ⟨kq, x11_27, rfl, HA, HJ27, HO_4, BK396, HB⟩ := hcut
            cases kq with
            | zero => exact absurd HA.out (by simp [laws_FnBest.j3])
            | succ kj27 =>
             have H := HA.out
             clear HA
             simp only [laws_FnBest.j3] at H
             replace H := Option.bind_eq_some_iff.mp H
             obtain ⟨⟨t407, t410⟩, A320, H⟩ := H
             replace H : ((impl_CostOf.f kj27 t390 t391 t392 t393 t407).bind fun t411 => (if t410 = true then (if t411 < t400 then (some false) else (if t411 = t400 then (if x11_27 < t404 then (some false) else (laws_FnBest.l0 kj27 l0 t393 t400 t402 t404 (wrap64 (x10_2 + 1)) t390 t391 t392)) else (laws_FnBest.l0 kj27 l0 t393 t400 t402 t404 (wrap64 (x10_2 + 1)) t390 t391 t392))) else (some false))) = some r := H
             have A32 := Aside0.mk A320
             clear A320
             replace H := Option.bind_eq_some_iff.mp H
             obtain ⟨t411, A330, H⟩ := H
             replace H : (if t410 = true then (if t411 < t400 then (some false) else (if t411 = t400 then (if x11_27 < t404 then (some false) else (laws_FnBest.l0 kj27 l0 t393 t400 t402 t404 (wrap64 (x10_2 + 1)) t390 t391 t392)) else (laws_FnBest.l0 kj27 l0 t393 t400 t402 t404 (wrap64 (x10_2 + 1)) t390 t391 t392))) else (some false)) = some r := H
             have A33 := Aside0.mk A330
             clear A330
             by_cases c34 : t410 = true
             ·subst c34
              have H1 : (if t411 < t400 then (some false) else (if t411 = t400 then (if x11_27 < t404 then (some false) else (laws_FnBest.l0 kj27 l0 t393 t400 t402 t404 (wrap64 (x10_2 + 1)) t390 t391 t392)) else (laws_FnBest.l0 kj27 l0 t393 t400 t402 t404 (wrap64 (x10_2 + 1)) t390 t391 t392))) = some r := by rw [if_pos rfl] at H; exact H
              clear H
              have H := H1
              clear H1
              by_cases c35 : t411 < t400
              ·rw [if_pos c35] at H
               have c35b0 : decide (t411 < t400) = true := decide_eq_true c35
               clear c35
               obtain rfl := Option.some.inj H
               have hcz36_0 : wc.cell? ⟨gb396, 0, none⟩ = some (.int .i64 t390) := (blk_cell BK396.out 0).trans rfl
               have hcz36_1 : wc.cell? ⟨gb396, 1, none⟩ = some (.int .i64 t391) := (blk_cell BK396.out 1).trans rfl
               have hcz36_2 : wc.cell? ⟨gb396, 2, none⟩ = some (.int .i64 t392) := (blk_cell BK396.out 2).trans rfl
               have hfz36_0 := blk_frozen BK396.out 0
               have hfz36_1 := blk_frozen BK396.out 1
               have hfz36_2 := blk_frozen BK396.out 2
               go_wp2_with (first | ((with_reducible refine gate_callee (f := 37) rfl ?_); refine goesL_ (some 83) rfl rfl Try.func37 (by kernel_rfl) rfl #[.agg #[.int .i64 t390, .int .i64 t391, .int .i64 t392], .slice Ao12 t393.length co12, .int .i64 x11_27] rfl zp1 ?_; (with_reducible refine (impl_BreakingAt.calls kj27 t390 t391 t392 _ _ t393 x11_27 t407 true _ ?side1 ?side2 A32.out).mono ?_); (case side1 => repeat (first | exact (Kd.R_reads' HO_4.out).2.2 | (with_reducible refine Kd.C_alloc ?_ _) | (with_reducible refine Kd.C_drewN ?_ _) | (with_reducible refine Kd.C_drew ?_))); (case side2 => exact (Kd.R_reads' HO_4.out).2.1); rintro e w37 ⟨v408, rfl, ho0, hb⟩; refine ⟨_, rfl, ?_⟩; have n0_ := Aside0.mk (Kd.R_elder' zp25 (Kd.R_base ho0) hb); have n1_ := Aside0.mk (Kd.R_lower (Kd.R_new' ho0 (Kd.R_lt zp25)) (below_size zp7)); have n2_ := Aside0.mk (blk_below (g := gb396) (o := .cells #[.int .i64 t390, .int .i64 t391, .int .i64 t392] 27 (0, 0)) zp23 hb); have n3_ := Aside0.mk (below_step zp7 hb); clear HO_4; clear BK396; clear HB; have HO_4 := n0_; have HO409 := n1_; have BK396 := n2_; have HB := n3_; clear n0_ n1_ n2_ n3_; (try clear hb); (try clear hb2); (try clear hk); (try clear hi); (try clear ho0); have hcz38_0 : w37.cell? ⟨gb396, 0, none⟩ = some (.int .i64 t390) := (blk_cell BK396.out 0).trans rfl; have hcz38_1 : w37.cell? ⟨gb396, 1, none⟩ = some (.int .i64 t391) := (blk_cell BK396.out 1).trans rfl; have hcz38_2 : w37.cell? ⟨gb396, 2, none⟩ = some (.int .i64 t392) := (blk_cell BK396.out 2).trans rfl; have hfz38_0 := blk_frozen BK396.out 0; have hfz38_1 := blk_frozen BK396.out 1; have hfz38_2 := blk_frozen BK396.out 2; obtain ⟨Ao39, co39, eo39⟩ := Kd.R_slice HO409.out; subst eo39) | ((with_reducible refine gate_callee (f := 23) rfl ?_); refine goesL_ (some 89) rfl rfl Try.func23 (by kernel_rfl) rfl #[.agg #[.int .i64 t390, .int .i64 t391, .int .i64 t392], .slice Ao12 t393.length co12, .slice Ao39 t407.length co39] rfl zp1 ?_; (with_reducible refine (impl_CostOf.calls kj27 t390 t391 t392 _ _ t393 _ _ t407 t411 _ ?side1 ?side2 ?side3 ?side4 A33.out).mono ?_); (case side1 => repeat (first | exact (Kd.R_reads' HO_4.out).2.2 | (with_reducible refine Kd.C_alloc ?_ _) | (with_reducible refine Kd.C_drewN ?_ _) | (with_reducible refine Kd.C_drew ?_))); (case side2 => exact (Kd.R_reads' HO_4.out).2.1); (case side3 => repeat (first | exact (Kd.R_reads' HO409.out).2.2 | (with_reducible refine Kd.C_alloc ?_ _) | (with_reducible refine Kd.C_drewN ?_ _) | (with_reducible refine Kd.C_drew ?_))); (case side4 => exact (Kd.R_reads' HO409.out).2.1); rintro e w40 ⟨rfl, hb⟩; refine ⟨_, rfl, ?_⟩; have n0_ := Aside0.mk (Kd.R_below zp25 hb); have n1_ := Aside0.mk (Kd.R_below zp72 hb); have n2_ := Aside0.mk (blk_below (g := gb396) (o := .cells #[.int .i64 t390, .int .i64 t391, .int .i64 t392] 27 (0, 0)) zp23 hb); have n3_ := Aside0.mk (below_step zp7 hb); clear HO_4; clear HO409; clear BK396; clear HB; have HO_4 := n0_; have HO409 := n1_; have BK396 := n2_; have HB := n3_; clear n0_ n1_ n2_ n3_; (try clear hb); (try clear hb2); (try clear hk); (try clear hi)))
               go_ret
               exact ⟨by first | rfl | (simp [errW_none, errW_some] <;> rfl) | (simp [*, errW_none, errW_some] <;> rfl), by repeat (first | (with_reducible first | exact HB.out | apply below_alloc | apply pw_below_drewN | apply below_drew1 | refine below_set ?_ GE396.out) | exact HB.out)⟩
              ·rw [if_neg c35] at H
               have c35b0 : decide (t411 < t400) = false := decide_eq_false c35
               clear c35
               by_cases c41 : t411 = t400
               ·rw [if_pos c41] at H
                have c41b0 : (t411 == t400) = true := beq_iff_eq.mpr c41
                have c41b1 : (t411 != t400) = false := bne_eq_false_iff_eq.mpr c41
                clear c41
                by_cases c42 : x11_27 < t404
                ·rw [if_pos c42] at H
                 have c42b0 : decide (x11_27 < t404) = true := decide_eq_true c42
                 clear c42
                 obtain rfl := Option.some.inj H
                 have hcz43_0 : wc.cell? ⟨gb396, 0, none⟩ = some (.int .i64 t390) := (blk_cell BK396.out 0).trans rfl
                 have hcz43_1 : wc.cell? ⟨gb396, 1, none⟩ = some (.int .i64 t391) := (blk_cell BK396.out 1).trans rfl
                 have hcz43_2 : wc.cell? ⟨gb396, 2, none⟩ = some (.int .i64 t392) := (blk_cell BK396.out 2).trans rfl
                 have hfz43_0 := blk_frozen BK396.out 0
                 have hfz43_1 := blk_frozen BK396.out 1
                 have hfz43_2 := blk_frozen BK396.out 2
                 go_wp2_with (first | ((with_reducible refine gate_callee (f := 37) rfl ?_); refine goesL_ (some 83) rfl rfl Try.func37 (by kernel_rfl) rfl #[.agg #[.int .i64 t390, .int .i64 t391, .int .i64 t392], .slice Ao12 t393.length co12, .int .i64 x11_27] rfl zp1 ?_; (with_reducible refine (impl_BreakingAt.calls kj27 t390 t391 t392 _ _ t393 x11_27 t407 true _ ?side1 ?side2 A32.out).mono ?_); (case side1 => repeat (first | exact (Kd.R_reads' HO_4.out).2.2 | (with_reducible refine Kd.C_alloc ?_ _) | (with_reducible refine Kd.C_drewN ?_ _) | (with_reducible refine Kd.C_drew ?_))); (case side2 => exact (Kd.R_reads' HO_4.out).2.1); rintro e w44 ⟨v408, rfl, ho0, hb⟩; refine ⟨_, rfl, ?_⟩; have n0_ := Aside0.mk (Kd.R_elder' zp25 (Kd.R_base ho0) hb); have n1_ := Aside0.mk (Kd.R_lower (Kd.R_new' ho0 (Kd.R_lt zp25)) (below_size zp7)); have n2_ := Aside0.mk (blk_below (g := gb396) (o := .cells #[.int .i64 t390, .int .i64 t391, .int .i64 t392] 27 (0, 0)) zp23 hb); have n3_ := Aside0.mk (below_step zp7 hb); clear HO_4; clear BK396; clear HB; have HO_4 := n0_; have HO409 := n1_; have BK396 := n2_; have HB := n3_; clear n0_ n1_ n2_ n3_; (try clear hb); (try clear hb2); (try clear hk); (try clear hi); (try clear ho0); have hcz45_0 : w44.cell? ⟨gb396, 0, none⟩ = some (.int .i64 t390) := (blk_cell BK396.out 0).trans rfl; have hcz45_1 : w44.cell? ⟨gb396, 1, none⟩ = some (.int .i64 t391) := (blk_cell BK396.out 1).trans rfl; have hcz45_2 : w44.cell? ⟨gb396, 2, none⟩ = some (.int .i64 t392) := (blk_cell BK396.out 2).trans rfl; have hfz45_0 := blk_frozen BK396.out 0; have hfz45_1 := blk_frozen BK396.out 1; have hfz45_2 := blk_frozen BK396.out 2; obtain ⟨Ao46, co46, eo46⟩ := Kd.R_slice HO409.out; subst eo46) | ((with_reducible refine gate_callee (f := 23) rfl ?_); refine goesL_ (some 89) rfl rfl Try.func23 (by kernel_rfl) rfl #[.agg #[.int .i64 t390, .int .i64 t391, .int .i64 t392], .slice Ao12 t393.length co12, .slice Ao46 t407.length co46] rfl zp1 ?_; (with_reducible refine (impl_CostOf.calls kj27 t390 t391 t392 _ _ t393 _ _ t407 t411 _ ?side1 ?side2 ?side3 ?side4 A33.out).mono ?_); (case side1 => repeat (first | exact (Kd.R_reads' HO_4.out).2.2 | (with_reducible refine Kd.C_alloc ?_ _) | (with_reducible refine Kd.C_drewN ?_ _) | (with_reducible refine Kd.C_drew ?_))); (case side2 => exact (Kd.R_reads' HO_4.out).2.1); (case side3 => repeat (first | exact (Kd.R_reads' HO409.out).2.2 | (with_reducible refine Kd.C_alloc ?_ _) | (with_reducible refine Kd.C_drewN ?_ _) | (with_reducible refine Kd.C_drew ?_))); (case side4 => exact (Kd.R_reads' HO409.out).2.1); rintro e w47 ⟨rfl, hb⟩; refine ⟨_, rfl, ?_⟩; have n0_ := Aside0.mk (Kd.R_below zp25 hb); have n1_ := Aside0.mk (Kd.R_below zp72 hb); have n2_ := Aside0.mk (blk_below (g := gb396) (o := .cells #[.int .i64 t390, .int .i64 t391, .int .i64 t392] 27 (0, 0)) zp23 hb); have n3_ := Aside0.mk (below_step zp7 hb); clear HO_4; clear HO409; clear BK396; clear HB; have HO_4 := n0_; have HO409 := n1_; have BK396 := n2_; have HB := n3_; clear n0_ n1_ n2_ n3_; (try clear hb); (try clear hb2); (try clear hk); (try clear hi)))
                 go_ret
                 exact ⟨by first | rfl | (simp [errW_none, errW_some] <;> rfl) | (simp [*, errW_none, errW_some] <;> rfl), by repeat (first | (with_reducible first | exact HB.out | apply below_alloc | apply pw_below_drewN | apply below_drew1 | refine below_set ?_ GE396.out) | exact HB.out)⟩
                ·rw [if_neg c42] at H
                 have c42b0 : decide (x11_27 < t404) = false := decide_eq_false c42
                 clear c42
                 have H' := Aside0.mk H
                 clear H
                 have hcz48_0 : wc.cell? ⟨gb396, 0, none⟩ = some (.int .i64 t390) := (blk_cell BK396.out 0).trans rfl
                 have hcz48_1 : wc.cell? ⟨gb396, 1, none⟩ = some (.int .i64 t391) := (blk_cell BK396.out 1).trans rfl
                 have hcz48_2 : wc.cell? ⟨gb396, 2, none⟩ = some (.int .i64 t392) := (blk_cell BK396.out 2).trans rfl
                 have hfz48_0 := blk_frozen BK396.out 0
                 have hfz48_1 := blk_frozen BK396.out 1
                 have hfz48_2 := blk_frozen BK396.out 2
                 go_wp2_with (first | ((with_reducible refine gate_callee (f := 37) rfl ?_); refine goesL_ (some 83) rfl rfl Try.func37 (by kernel_rfl) rfl #[.agg #[.int .i64 t390, .int .i64 t391, .int .i64 t392], .slice Ao12 t393.length co12, .int .i64 x11_27] rfl zp1 ?_; (with_reducible refine (impl_BreakingAt.calls kj27 t390 t391 t392 _ _ t393 x11_27 t407 true _ ?side1 ?side2 A32.out).mono ?_); (case side1 => repeat (first | exact (Kd.R_reads' HO_4.out).2.2 | (with_reducible refine Kd.C_alloc ?_ _) | (with_reducible refine Kd.C_drewN ?_ _) | (with_reducible refine Kd.C_drew ?_))); (case side2 => exact (Kd.R_reads' HO_4.out).2.1); rintro e w49 ⟨v408, rfl, ho0, hb⟩; refine ⟨_, rfl, ?_⟩; have n0_ := Aside0.mk (Kd.R_elder' zp25 (Kd.R_base ho0) hb); have n1_ := Aside0.mk (Kd.R_lower (Kd.R_new' ho0 (Kd.R_lt zp25)) (below_size zp7)); have n2_ := Aside0.mk (blk_below (g := gb396) (o := .cells #[.int .i64 t390, .int .i64 t391, .int .i64 t392] 27 (0, 0)) zp23 hb); have n3_ := Aside0.mk (below_step zp7 hb); clear HO_4; clear BK396; clear HB; have HO_4 := n0_; have HO409 := n1_; have BK396 := n2_; have HB := n3_; clear n0_ n1_ n2_ n3_; (try clear hb); (try clear hb2); (try clear hk); (try clear hi); (try clear ho0); have hcz50_0 : w49.cell? ⟨gb396, 0, none⟩ = some (.int .i64 t390) := (blk_cell BK396.out 0).trans rfl; have hcz50_1 : w49.cell? ⟨gb396, 1, none⟩ = some (.int .i64 t391) := (blk_cell BK396.out 1).trans rfl; have hcz50_2 : w49.cell? ⟨gb396, 2, none⟩ = some (.int .i64 t392) := (blk_cell BK396.out 2).trans rfl; have hfz50_0 := blk_frozen BK396.out 0; have hfz50_1 := blk_frozen BK396.out 1; have hfz50_2 := blk_frozen BK396.out 2; obtain ⟨Ao51, co51, eo51⟩ := Kd.R_slice HO409.out; subst eo51) | ((with_reducible refine gate_callee (f := 23) rfl ?_); refine goesL_ (some 89) rfl rfl Try.func23 (by kernel_rfl) rfl #[.agg #[.int .i64 t390, .int .i64 t391, .int .i64 t392], .slice Ao12 t393.length co12, .slice Ao51 t407.length co51] rfl zp1 ?_; (with_reducible refine (impl_CostOf.calls kj27 t390 t391 t392 _ _ t393 _ _ t407 t411 _ ?side1 ?side2 ?side3 ?side4 A33.out).mono ?_); (case side1 => repeat (first | exact (Kd.R_reads' HO_4.out).2.2 | (with_reducible refine Kd.C_alloc ?_ _) | (with_reducible refine Kd.C_drewN ?_ _) | (with_reducible refine Kd.C_drew ?_))); (case side2 => exact (Kd.R_reads' HO_4.out).2.1); (case side3 => repeat (first | exact (Kd.R_reads' HO409.out).2.2 | (with_reducible refine Kd.C_alloc ?_ _) | (with_reducible refine Kd.C_drewN ?_ _) | (with_reducible refine Kd.C_drew ?_))); (case side4 => exact (Kd.R_reads' HO409.out).2.1); rintro e w52 ⟨rfl, hb⟩; refine ⟨_, rfl, ?_⟩; have n0_ := Aside0.mk (Kd.R_below zp25 hb); have n1_ := Aside0.mk (Kd.R_below zp72 hb); have n2_ := Aside0.mk (blk_below (g := gb396) (o := .cells #[.int .i64 t390, .int .i64 t391, .int .i64 t392] 27 (0, 0)) zp23 hb); have n3_ := Aside0.mk (below_step zp7 hb); clear HO_4; clear HO409; clear BK396; clear HB; have HO_4 := n0_; have HO409 := n1_; have BK396 := n2_; have HB := n3_; clear n0_ n1_ n2_ n3_; (try clear hb); (try clear hb2); (try clear hk); (try clear hi)))
                 go_roundg kj27
                 case measure => have := HJ7.out; have := HK2.out; have := HJ24.out; have := HJ27.out; omega
                 case rel => exact ⟨(wrap64 (x10_2 + 1)), zp5, H', ⟨by have := HJ7.out; have := HK2.out; have := HJ24.out; have := HJ27.out; omega⟩, ⟨by (with_reducible repeat (first | apply Kd.R_alloc | apply Kd.R_drewN | apply Kd.R_drew)); exact Kd.R_mono HO_4.out (fun _ hk => trivial)⟩, ⟨by (with_reducible repeat (first | refine blk_drewN ?_ _ | refine blk_drew ?_ | refine blk_alloc ?_ _)); exact BK396.out⟩, ⟨by repeat (first | (with_reducible first | exact HB.out | apply below_alloc | apply pw_below_drewN | apply below_drew1 | refine below_set ?_ GE396.out) | exact HB.out)⟩⟩
               ·rw [if_neg c41] at H
                have c41b0 : (t411 == t400) = false := beq_eq_false_iff_ne.mpr c41
                have c41b1 : (t411 != t400) = true := bne_iff_ne.mpr c41
                have H' := Aside0.mk H
                clear H
                have hcz53_0 : wc.cell? ⟨gb396, 0, none⟩ = some (.int .i64 t390) := (blk_cell BK396.out 0).trans rfl
                have hcz53_1 : wc.cell? ⟨gb396, 1, none⟩ = some (.int .i64 t391) := (blk_cell BK396.out 1).trans rfl
                have hcz53_2 : wc.cell? ⟨gb396, 2, none⟩ = some (.int .i64 t392) := (blk_cell BK396.out 2).trans rfl
                have hfz53_0 := blk_frozen BK396.out 0
                have hfz53_1 := blk_frozen BK396.out 1
                have hfz53_2 := blk_frozen BK396.out 2
                go_wp2_with (first | ((with_reducible refine gate_callee (f := 37) rfl ?_); refine goesL_ (some 83) rfl rfl Try.func37 (by kernel_rfl) rfl #[.agg #[.int .i64 t390, .int .i64 t391, .int .i64 t392], .slice Ao12 t393.length co12, .int .i64 x11_27] rfl zp1 ?_; (with_reducible refine (impl_BreakingAt.calls kj27 t390 t391 t392 _ _ t393 x11_27 t407 true _ ?side1 ?side2 A32.out).mono ?_); (case side1 => repeat (first | exact (Kd.R_reads' HO_4.out).2.2 | (with_reducible refine Kd.C_alloc ?_ _) | (with_reducible refine Kd.C_drewN ?_ _) | (with_reducible refine Kd.C_drew ?_))); (case side2 => exact (Kd.R_reads' HO_4.out).2.1); rintro e w54 ⟨v408, rfl, ho0, hb⟩; refine ⟨_, rfl, ?_⟩; have n0_ := Aside0.mk (Kd.R_elder' zp25 (Kd.R_base ho0) hb); have n1_ := Aside0.mk (Kd.R_lower (Kd.R_new' ho0 (Kd.R_lt zp25)) (below_size zp7)); have n2_ := Aside0.mk (blk_below (g := gb396) (o := .cells #[.int .i64 t390, .int .i64 t391, .int .i64 t392] 27 (0, 0)) zp23 hb); have n3_ := Aside0.mk (below_step zp7 hb); clear HO_4; clear BK396; clear HB; have HO_4 := n0_; have HO409 := n1_; have BK396 := n2_; have HB := n3_; clear n0_ n1_ n2_ n3_; (try clear hb); (try clear hb2); (try clear hk); (try clear hi); (try clear ho0); have hcz55_0 : w54.cell? ⟨gb396, 0, none⟩ = some (.int .i64 t390) := (blk_cell BK396.out 0).trans rfl; have hcz55_1 : w54.cell? ⟨gb396, 1, none⟩ = some (.int .i64 t391) := (blk_cell BK396.out 1).trans rfl; have hcz55_2 : w54.cell? ⟨gb396, 2, none⟩ = some (.int .i64 t392) := (blk_cell BK396.out 2).trans rfl; have hfz55_0 := blk_frozen BK396.out 0; have hfz55_1 := blk_frozen BK396.out 1; have hfz55_2 := blk_frozen BK396.out 2; obtain ⟨Ao56, co56, eo56⟩ := Kd.R_slice HO409.out; subst eo56) | ((with_reducible refine gate_callee (f := 23) rfl ?_); refine goesL_ (some 89) rfl rfl Try.func23 (by kernel_rfl) rfl #[.agg #[.int .i64 t390, .int .i64 t391, .int .i64 t392], .slice Ao12 t393.length co12, .slice Ao56 t407.length co56] rfl zp1 ?_; (with_reducible refine (impl_CostOf.calls kj27 t390 t391 t392 _ _ t393 _ _ t407 t411 _ ?side1 ?side2 ?side3 ?side4 A33.out).mono ?_); (case side1 => repeat (first | exact (Kd.R_reads' HO_4.out).2.2 | (with_reducible refine Kd.C_alloc ?_ _) | (with_reducible refine Kd.C_drewN ?_ _) | (with_reducible refine Kd.C_drew ?_))); (case side2 => exact (Kd.R_reads' HO_4.out).2.1); (case side3 => repeat (first | exact (Kd.R_reads' HO409.out).2.2 | (with_reducible refine Kd.C_alloc ?_ _) | (with_reducible refine Kd.C_drewN ?_ _) | (with_reducible refine Kd.C_drew ?_))); (case side4 => exact (Kd.R_reads' HO409.out).2.1); rintro e w57 ⟨rfl, hb⟩; refine ⟨_, rfl, ?_⟩; have n0_ := Aside0.mk (Kd.R_below zp25 hb); have n1_ := Aside0.mk (Kd.R_below zp72 hb); have n2_ := Aside0.mk (blk_below (g := gb396) (o := .cells #[.int .i64 t390, .int .i64 t391, .int .i64 t392] 27 (0, 0)) zp23 hb); have n3_ := Aside0.mk (below_step zp7 hb); clear HO_4; clear HO409; clear BK396; clear HB; have HO_4 := n0_; have HO409 := n1_; have BK396 := n2_; have HB := n3_; clear n0_ n1_ n2_ n3_; (try clear hb); (try clear hb2); (try clear hk); (try clear hi)))
                go_roundg kj27
                case measure => have := HJ7.out; have := HK2.out; have := HJ24.out; have := HJ27.out; omega
                case rel => exact ⟨(wrap64 (x10_2 + 1)), zp5, H', ⟨by have := HJ7.out; have := HK2.out; have := HJ24.out; have := HJ27.out; omega⟩, ⟨by (with_reducible repeat (first | apply Kd.R_alloc | apply Kd.R_drewN | apply Kd.R_drew)); exact Kd.R_mono HO_4.out (fun _ hk => trivial)⟩, ⟨by (with_reducible repeat (first | refine blk_drewN ?_ _ | refine blk_drew ?_ | refine blk_alloc ?_ _)); exact BK396.out⟩, ⟨by repeat (first | (with_reducible first | exact HB.out | apply below_alloc | apply pw_below_drewN | apply below_drew1 | refine below_set ?_ GE396.out) | exact HB.out)⟩⟩
             ·replace c34 := Bool.eq_false_iff.mpr c34
              subst c34
              have H1 : (some false) = some r := by rw [if_neg (show ¬ (false = true) by decide)] at H; exact H
              clear H
              have H := H1
              clear H1
              obtain rfl := Option.some.inj H
              have hcz58_0 : wc.cell? ⟨gb396, 0, none⟩ = some (.int .i64 t390) := (blk_cell BK396.out 0).trans rfl
              have hcz58_1 : wc.cell? ⟨gb396, 1, none⟩ = some (.int .i64 t391) := (blk_cell BK396.out 1).trans rfl
              have hcz58_2 : wc.cell? ⟨gb396, 2, none⟩ = some (.int .i64 t392) := (blk_cell BK396.out 2).trans rfl
              have hfz58_0 := blk_frozen BK396.out 0
              have hfz58_1 := blk_frozen BK396.out 1
              have hfz58_2 := blk_frozen BK396.out 2
              go_wp2_with (first | ((with_reducible refine gate_callee (f := 37) rfl ?_); refine goesL_ (some 83) rfl rfl Try.func37 (by kernel_rfl) rfl #[.agg #[.int .i64 t390, .int .i64 t391, .int .i64 t392], .slice Ao12 t393.length co12, .int .i64 x11_27] rfl zp1 ?_; (with_reducible refine (impl_BreakingAt.calls kj27 t390 t391 t392 _ _ t393 x11_27 t407 false _ ?side1 ?side2 A32.out).mono ?_); (case side1 => repeat (first | exact (Kd.R_reads' HO_4.out).2.2 | (with_reducible refine Kd.C_alloc ?_ _) | (with_reducible refine Kd.C_drewN ?_ _) | (with_reducible refine Kd.C_drew ?_))); (case side2 => exact (Kd.R_reads' HO_4.out).2.1); rintro e w59 ⟨v408, rfl, ho0, hb⟩; refine ⟨_, rfl, ?_⟩; have n0_ := Aside0.mk (Kd.R_elder' zp25 (Kd.R_base ho0) hb); have n1_ := Aside0.mk (Kd.R_lower (Kd.R_new' ho0 (Kd.R_lt zp25)) (below_size zp7)); have n2_ := Aside0.mk (blk_below (g := gb396) (o := .cells #[.int .i64 t390, .int .i64 t391, .int .i64 t392] 27 (0, 0)) zp23 hb); have n3_ := Aside0.mk (below_step zp7 hb); clear HO_4; clear BK396; clear HB; have HO_4 := n0_; have HO409 := n1_; have BK396 := n2_; have HB := n3_; clear n0_ n1_ n2_ n3_; (try clear hb); (try clear hb2); (try clear hk); (try clear hi); (try clear ho0); have hcz60_0 : w59.cell? ⟨gb396, 0, none⟩ = some (.int .i64 t390) := (blk_cell BK396.out 0).trans rfl; have hcz60_1 : w59.cell? ⟨gb396, 1, none⟩ = some (.int .i64 t391) := (blk_cell BK396.out 1).trans rfl; have hcz60_2 : w59.cell? ⟨gb396, 2, none⟩ = some (.int .i64 t392) := (blk_cell BK396.out 2).trans rfl; have hfz60_0 := blk_frozen BK396.out 0; have hfz60_1 := blk_frozen BK396.out 1; have hfz60_2 := blk_frozen BK396.out 2; obtain ⟨Ao61, co61, eo61⟩ := Kd.R_slice HO409.out; subst eo61) | ((with_reducible refine gate_callee (f := 23) rfl ?_); refine goesL_ (some 89) rfl rfl Try.func23 (by kernel_rfl) rfl #[.agg #[.int .i64 t390, .int .i64 t391, .int .i64 t392], .slice Ao12 t393.length co12, .slice Ao61 t407.length co61] rfl zp1 ?_; (with_reducible refine (impl_CostOf.calls kj27 t390 t391 t392 _ _ t393 _ _ t407 t411 _ ?side1 ?side2 ?side3 ?side4 A33.out).mono ?_); (case side1 => repeat (first | exact (Kd.R_reads' HO_4.out).2.2 | (with_reducible refine Kd.C_alloc ?_ _) | (with_reducible refine Kd.C_drewN ?_ _) | (with_reducible refine Kd.C_drew ?_))); (case side2 => exact (Kd.R_reads' HO_4.out).2.1); (case side3 => repeat (first | exact (Kd.R_reads' HO409.out).2.2 | (with_reducible refine Kd.C_alloc ?_ _) | (with_reducible refine Kd.C_drewN ?_ _) | (with_reducible refine Kd.C_drew ?_))); (case side4 => exact (Kd.R_reads' HO409.out).2.1); rintro e w62 ⟨rfl, hb⟩; refine ⟨_, rfl, ?_⟩; have n0_ := Aside0.mk (Kd.R_below zp25 hb); have n1_ := Aside0.mk (Kd.R_below zp72 hb); have n2_ := Aside0.mk (blk_below (g := gb396) (o := .cells #[.int .i64 t390, .int .i64 t391, .int .i64 t392] 27 (0, 0)) zp23 hb); have n3_ := Aside0.mk (below_step zp7 hb); clear HO_4; clear HO409; clear BK396; clear HB; have HO_4 := n0_; have HO409 := n1_; have BK396 := n2_; have HB := n3_; clear n0_ n1_ n2_ n3_; (try clear hb); (try clear hb2); (try clear hk); (try clear hi)))
              go_ret
              exact ⟨by first | rfl | (simp [errW_none, errW_some] <;> rfl) | (simp [*, errW_none, errW_some] <;> rfl), by repeat (first | (with_reducible first | exact HB.out | apply below_alloc | apply pw_below_drewN | apply below_drew1 | refine below_set ?_ GE396.out) | exact HB.out)⟩
          ·replace c27 := Bool.eq_false_iff.mpr c27
           subst c27
           have H1 : (some true) = some r := by rw [if_neg (show ¬ (false = true) by decide)] at H; exact H
           clear H
           have H := H1
           clear H1
           obtain rfl := Option.some.inj H
           go_wp2
           go_ret
           exact ⟨by first | rfl | (simp [errW_none, errW_some] <;> rfl) | (simp [*, errW_none, errW_some] <;> rfl), by repeat (first | (with_reducible first | exact HB.out | apply below_alloc | apply pw_below_drewN | apply below_drew1 | refine below_set ?_ GE396.out) | exact HB.out)⟩
  ·replace c6 := Bool.eq_false_iff.mpr c6
   subst c6
   have H1 : ((spec_CountBreakings.f k t390 t391 t392 t393).bind fun t403 => (some (decide (t403 < 1)))) = some r := by rw [if_neg (show ¬ (false = true) by decide)] at H; exact H
   clear H
   have H := H1
   clear H1
   replace H := Option.bind_eq_some_iff.mp H
   obtain ⟨t403, A630, H⟩ := H
   replace H : (some (decide (t403 < 1))) = some r := H
   have A63 := Aside0.mk A630
   clear A630
   obtain rfl := Option.some.inj H
   go_enter Try.func14, Try.ntmps14
   go_wp2_with (first | ((with_reducible refine gate_callee (f := 46) rfl ?_); refine goesL_ (some 20) rfl rfl Try.func46 (by kernel_rfl) rfl #[.slice A0 l0.length c0] rfl zp1 ?_; (with_reducible refine (spec_DrawBestBreaking.calls k _ _ l0 t390 t391 t392 t393 _ ?side1 ?side2 A3.out).mono ?_); (case side1 => repeat (first | exact HR0.out | (with_reducible refine Kd.C_alloc ?_ _) | (with_reducible refine Kd.C_drewN ?_ _) | (with_reducible refine Kd.C_drew ?_))); (case side2 => exact HC0.out); rintro e w64 ⟨v394, rfl, ho0, hb⟩; refine ⟨_, rfl, ?_⟩; have n0_ := Aside0.mk (Kd.R_lower ho0 (below_size zp0)); have n1_ := Aside0.mk (below_step zp0 hb); clear HB; have HO395 := n0_; have HB := n1_; clear n0_ n1_; (try clear hb); (try clear hb2); (try clear hk); (try clear hi); (try clear ho0)) | ((with_reducible refine gate_dst (N := 3) rfl ?_); refine box_event ?hg (N := 3) ?hd (cs := #[.int .i64 0, .int .i64 0, .int .i64 0]) (t := 27) ?hr ?_; (case hd => rfl); (case hg => rfl); (case hr => first | (go_simp; done) | (go_simp; rfl)); intro gb396 hg w65 hbox hb; have n0_ := Aside0.mk (Kd.R_below zp50 hb); have n1_ := Aside0.mk (below_step zp0 hb); have n2_ := Aside0.mk (hbox); have n3_ := Aside0.mk ((zp6 : w.heap.size ≤ gb396)); have n4_ := Aside0.mk ((zp6 : w.heap.size ≤ gb396)); clear HO395; clear HB; have HO395 := n0_; have HB := n1_; have BK396 := n2_; have GW396 := n3_; have GE396 := n4_; clear n0_ n1_ n2_ n3_ n4_; clear hb hbox hg; have hcz66_0 : w65.cell? ⟨gb396, 0, none⟩ = some (.int .i64 0) := (blk_cell BK396.out 0).trans rfl; have hcz66_1 : w65.cell? ⟨gb396, 1, none⟩ = some (.int .i64 0) := (blk_cell BK396.out 1).trans rfl; have hcz66_2 : w65.cell? ⟨gb396, 2, none⟩ = some (.int .i64 0) := (blk_cell BK396.out 2).trans rfl; have hfz66_0 := blk_frozen BK396.out 0; have hfz66_1 := blk_frozen BK396.out 1; have hfz66_2 := blk_frozen BK396.out 2; obtain ⟨Ao67, co67, eo67⟩ := Kd.R_slice HO395.out; subst eo67) | ((with_reducible refine gate_callee (f := 39) rfl ?_); refine goesL_ (some 26) rfl rfl Try.func39 (by kernel_rfl) rfl #[.agg #[.int .i64 t390, .int .i64 t391, .int .i64 t392], .slice Ao67 t393.length co67] rfl zp1 ?_; (with_reducible refine (impl_BestBreaking.calls k t390 t391 t392 _ _ t393 t397 t400 false _ ?side1 ?side2 A4.out).mono ?_); (case side1 => refine (Kd.R_reads' (e := 3) (base := w.heap.size) (ok := fun k_ => True) (n := t393.length) (c := co67) ?_).2.2; exact (by (with_reducible repeat (first | apply Kd.R_alloc | apply Kd.R_drewN | apply Kd.R_drew)); exact (Kd.R_mono (Kd.R_far (p := ⟨gb396, 2, none⟩) (Kd.R_far (p := ⟨gb396, 1, none⟩) (Kd.R_far (p := ⟨gb396, 0, none⟩) (Kd.R_types HO395.out BK396.out (by decide)) (fun _ hk => hk.2) (.int .i64 t390)) (fun _ hk => hk.2) (.int .i64 t391)) (fun _ hk => hk.2) (.int .i64 t392)) (fun _ h_ => h_.1)))); (case side2 => exact (Kd.R_reads' HO395.out).2.1); rintro e w68 ⟨v398, rfl, ho0, hb⟩; refine ⟨_, rfl, ?_⟩; have n0_ := Aside0.mk (Kd.R_elder' (by (with_reducible repeat (first | apply Kd.R_alloc | apply Kd.R_drewN | apply Kd.R_drew)); exact (Kd.R_mono (Kd.R_far (p := ⟨gb396, 2, none⟩) (Kd.R_far (p := ⟨gb396, 1, none⟩) (Kd.R_far (p := ⟨gb396, 0, none⟩) (Kd.R_types HO395.out BK396.out (by decide)) (fun _ hk => hk.2) (.int .i64 t390)) (fun _ hk => hk.2) (.int .i64 t391)) (fun _ hk => hk.2) (.int .i64 t392)) (fun _ h_ => h_.1))) (Kd.R_base ho0) hb); have n1_ := Aside0.mk (Kd.R_lower (Kd.R_new' ho0 (Kd.R_lt (by (with_reducible repeat (first | apply Kd.R_alloc | apply Kd.R_drewN | apply Kd.R_drew)); exact (Kd.R_mono (Kd.R_far (p := ⟨gb396, 2, none⟩) (Kd.R_far (p := ⟨gb396, 1, none⟩) (Kd.R_far (p := ⟨gb396, 0, none⟩) (Kd.R_types HO395.out BK396.out (by decide)) (fun _ hk => hk.2) (.int .i64 t390)) (fun _ hk => hk.2) (.int .i64 t391)) (fun _ hk => hk.2) (.int .i64 t392)) (fun _ h_ => h_.1))))) (below_size zp7)); have n2_ := Aside0.mk (blk_below (g := gb396) (o := .cells #[.int .i64 t390, .int .i64 t391, .int .i64 t392] 27 (0, 0)) zp46 hb); have n3_ := Aside0.mk (below_step zp7 hb); clear HO395; clear BK396; clear HB; have HO395 := n0_; have HO399 := n1_; have BK396 := n2_; have HB := n3_; clear n0_ n1_ n2_ n3_; (try clear hb); (try clear hb2); (try clear hk); (try clear hi); (try clear ho0); have hcz69_0 : w68.cell? ⟨gb396, 0, none⟩ = some (.int .i64 t390) := (blk_cell BK396.out 0).trans rfl; have hcz69_1 : w68.cell? ⟨gb396, 1, none⟩ = some (.int .i64 t391) := (blk_cell BK396.out 1).trans rfl; have hcz69_2 : w68.cell? ⟨gb396, 2, none⟩ = some (.int .i64 t392) := (blk_cell BK396.out 2).trans rfl; have hfz69_0 := blk_frozen BK396.out 0; have hfz69_1 := blk_frozen BK396.out 1; have hfz69_2 := blk_frozen BK396.out 2) | ((with_reducible refine gate_callee (f := 29) rfl ?_); refine goesL_ (some 32) rfl rfl Try.func29 (by kernel_rfl) rfl #[.agg #[.int .i64 t390, .int .i64 t391, .int .i64 t392], .slice Ao67 t393.length co67] rfl zp1 ?_; (with_reducible refine (impl_CountBreakings.calls k t390 t391 t392 _ _ t393 t402 _ ?side1 ?side2 A5.out).mono ?_); (case side1 => repeat (first | exact (Kd.R_reads' HO395.out).2.2 | (with_reducible refine Kd.C_alloc ?_ _) | (with_reducible refine Kd.C_drewN ?_ _) | (with_reducible refine Kd.C_drew ?_))); (case side2 => exact (Kd.R_reads' HO395.out).2.1); rintro e w70 ⟨rfl, hb⟩; refine ⟨_, rfl, ?_⟩; have n0_ := Aside0.mk (Kd.R_below zp50 hb); have n1_ := Aside0.mk (Kd.R_below zp73 hb); have n2_ := Aside0.mk (blk_below (g := gb396) (o := .cells #[.int .i64 t390, .int .i64 t391, .int .i64 t392] 27 (0, 0)) zp23 hb); have n3_ := Aside0.mk (below_step zp7 hb); clear HO395; clear HO399; clear BK396; clear HB; have HO395 := n0_; have HO399 := n1_; have BK396 := n2_; have HB := n3_; clear n0_ n1_ n2_ n3_; (try clear hb); (try clear hb2); (try clear hk); (try clear hi); have hcz71_0 : w70.cell? ⟨gb396, 0, none⟩ = some (.int .i64 t390) := (blk_cell BK396.out 0).trans rfl; have hcz71_1 : w70.cell? ⟨gb396, 1, none⟩ = some (.int .i64 t391) := (blk_cell BK396.out 1).trans rfl; have hcz71_2 : w70.cell? ⟨gb396, 2, none⟩ = some (.int .i64 t392) := (blk_cell BK396.out 2).trans rfl; have hfz71_0 := blk_frozen BK396.out 0; have hfz71_1 := blk_frozen BK396.out 1; have hfz71_2 := blk_frozen BK396.out 2) | ((with_reducible refine gate_callee (f := 43) rfl ?_); refine goesL_ (some 37) rfl rfl Try.func43 (by kernel_rfl) rfl #[.agg #[.int .i64 t390, .int .i64 t391, .int .i64 t392], .slice Ao67 t393.length co67] rfl zp1 ?_; (with_reducible refine (spec_CountBreakings.calls k t390 t391 t392 _ _ t393 t403 _ ?side1 ?side2 A63.out).mono ?_); (case side1 => repeat (first | exact (Kd.R_reads' HO395.out).2.2 | (with_reducible refine Kd.C_alloc ?_ _) | (with_reducible refine Kd.C_drewN ?_ _) | (with_reducible refine Kd.C_drew ?_))); (case side2 => exact (Kd.R_reads' HO395.out).2.1); rintro e w72 ⟨rfl, hb⟩; refine ⟨_, rfl, ?_⟩; have n0_ := Aside0.mk (Kd.R_below zp50 hb); have n1_ := Aside0.mk (Kd.R_below zp73 hb); have n2_ := Aside0.mk (blk_below (g := gb396) (o := .cells #[.int .i64 t390, .int .i64 t391, .int .i64 t392] 27 (0, 0)) zp23 hb); have n3_ := Aside0.mk (below_step zp7 hb); clear HO395; clear HO399; clear BK396; clear HB; have HO395 := n0_; have HO399 := n1_; have BK396 := n2_; have HB := n3_; clear n0_ n1_ n2_ n3_; (try clear hb); (try clear hb2); (try clear hk); (try clear hi)))
   go_ret
   exact ⟨by first | rfl | (simp [errW_none, errW_some] <;> rfl) | (simp [*, errW_none, errW_some] <;> rfl), by repeat (first | (with_reducible first | exact HB.out | apply below_alloc | apply pw_below_drewN | apply below_drew1 | refine below_set ?_ GE396.out) | exact HB.out)⟩
def laws_FnBest.Pure : Prop := ∀ (l0 : List Int), l0.length ≤ maxLen → l0.length * 1 ≤ 140737488351232 → (∀ x ∈ l0, (Lit.int .u8 x).wf = true) → ∃ k, laws_FnBest.f k l0 = some true
theorem laws_FnBest.walk (P : laws_FnBest.Pure) (a0 : Option Addr) (len0 cap0 : Nat) (z0 : List Int) (w : World) (w0 : (a0 = none ∧ len0 = 0 ∧ cap0 = 0 ∧ z0 = []) ∨ ∃ x, a0 = some x ∧ len0 ≤ cap0 ∧ cap0 ≤ maxLen ∧ z0.length = cap0 ∧ (∀ i, i < z0.length → w.cell? (x.add i) = some (.int .u8 (z0.getD i 0))) ∧ ∀ n ∈ z0, (Lit.int .u8 n).wf = true) (y0 : len0 * 1 ≤ 140737488351232) :
 Calls Try.prog 14 #[.slice a0 len0 cap0] w fun e w' => e = .returned (.bool true) ∧ Below w.heap.size w w' := by
 obtain ⟨l0, rfl, hr0, hm0, hw0, hc0⟩ := ReadsInt.ofRowC w0
 obtain ⟨k, h⟩ := P l0 hm0 y0 hw0
 refine (laws_FnBest.calls k _ _ l0 true w (Kd.C_of_reads (d := (0 : Int)) (h1 := fun _ => rfl) hr0) hc0 h).mono ?_
 rintro e w' ⟨rfl, hd⟩
 exact ⟨rfl, hd⟩
end Go.Proofs.Ytnbmlblcmjaclaa.PFnBest
