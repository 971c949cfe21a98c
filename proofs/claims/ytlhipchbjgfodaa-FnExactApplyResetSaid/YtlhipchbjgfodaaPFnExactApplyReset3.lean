/- Written by a program of this session with the help of the kit's print: of each Go function a Lean function, and the proof that its call comes to just what that tells. No condition beyond those that each theorem states. -/
import Derived.Test.YtlhipchbjgfodaaPFnExactApplyReset0
import Derived.Test.YtlhipchbjgfodaaPFnExactApplyReset1
import Derived.Test.YtlhipchbjgfodaaPFnExactApplyReset2
namespace Go.Proofs.Ytlhipchbjgfodaa.PFnExactApplyReset
open Go.RowKit Go.Proofs.YtlhipchbjgfodaaW.PrintWords Go.Proofs.YtlhipchbjgfodaaW.PrintLast Go.Proofs.YtlhipchbjgfodaaW.PrintMore
attribute [local go_sem] max2_int min2_int max_two min_two max_three min_three max_four min_four
set_option linter.unusedVariables false
set_option linter.unusedSimpArgs false
mutual
def laws_FnExactApplyReset.j0 : Nat → List ByteArray → Int → Int → List ByteArray → List ByteArray → Bool → List ByteArray → List ByteArray → List ByteArray → Bool → Bool → Option (Bool)
 | 0, _, _, _, _, _, _, _, _, _, _, _ => none
 | k + 1, x0, x1, x2, x3, x10, x11, x12, x13, x14, x15, x61 => if x61 = true then (some false) else ((laws_toStringS.f k x0).bind fun t179 => ((laws_eqStringS.f k x12 t179).bind fun t182 => (if t182 = true then ((laws_toStringS.f k x3).bind fun t183 => ((laws_eqStringS.f k x13 t183).bind fun t186 => (if t186 = true then ((laws_markStringS.f k x12 1).bind fun bt187 => ((laws_markStringS.f k x13 bt187.1).bind fun bt189 => (if bt189.1 < 0 then (laws_FnExactApplyReset.j1 k x0 x1 x2 x3 x10 x11 x14 true) else ((laws_eqStringS.f k x14 x10).bind fun t191 => (if t191 = true then (laws_FnExactApplyReset.j1 k x0 x1 x2 x3 x10 x11 x14 (x15 != x11)) else (laws_FnExactApplyReset.j1 k x0 x1 x2 x3 x10 x11 x14 true)))))) else (some false)))) else (some false))))
def laws_FnExactApplyReset.j1 : Nat → List ByteArray → Int → Int → List ByteArray → List ByteArray → Bool → List ByteArray → Bool → Option (Bool)
 | 0, _, _, _, _, _, _, _, _ => none
 | k + 1, x0, x1, x2, x3, x10, x11, x14, x90 => if x90 = true then (some false) else ((laws_markStringS.f k x14 1).bind fun bt192 => ((laws_heldStringS.f k bt192.2 1).bind fun t194 => (if t194 < 0 then (some false) else (if t194 = bt192.1 then ((laws_toStringS.f k x0).bind fun t195 => ((laws_toStringS.f k x3).bind fun t198 => ((impl_ApplyReset.f k t195 x1 x2 t198).bind fun bt201 => ((laws_eqStringS.f k bt201.1 x10).bind fun t205 => (if t205 = true then (laws_FnExactApplyReset.j2 k bt192.2 bt192.1 (bt201.2 != x11)) else (laws_FnExactApplyReset.j2 k bt192.2 bt192.1 true)))))) else (some false)))))
def laws_FnExactApplyReset.j2 : Nat → List ByteArray → Int → Bool → Option (Bool)
 | 0, _, _, _ => none
 | k + 1, x14, x17, x120 => if x120 = true then (some false) else ((laws_heldStringS.f k x14 1).bind fun t206 => (if t206 < 0 then (some false) else (if t206 = x17 then (some true) else (some false))))
end
def laws_FnExactApplyReset.f (k : Nat) (l0 : List ByteArray) (a1 : Int) (a2 : Int) (l3 : List ByteArray) : Option (Bool) := (laws_szStringS.f k l0 1048576).bind fun t156 => (if t156 < 0 then (some true) else ((laws_szStringS.f k l3 t156).bind fun t157 => (if t157 < 0 then (some true) else ((laws_toStringS.f k l0).bind fun t158 => ((laws_toStringS.f k l3).bind fun t161 => ((spec_ApplyReset.f t158 a1 a2 t161).bind fun bt164 => ((laws_toStringS.f k l0).bind fun t168 => ((laws_toStringS.f k l3).bind fun t171 => ((impl_ApplyReset.f k t168 a1 a2 t171).bind fun bt174 => ((laws_eqStringS.f k bt174.1 bt164.1).bind fun t178 => (if t178 = true then (laws_FnExactApplyReset.j0 k l0 a1 a2 l3 bt164.1 bt164.2 t168 t171 bt174.1 bt174.2 (bt174.2 != bt164.2)) else (laws_FnExactApplyReset.j0 k l0 a1 a2 l3 bt164.1 bt164.2 t168 t171 bt174.1 bt174.2 true))))))))))))
theorem laws_FnExactApplyReset.mono_l : ∀ k, (∀ y0 y1 y2 y3 y4 y5 y6 y7 y8 y9 y10, LeO (laws_FnExactApplyReset.j0 k y0 y1 y2 y3 y4 y5 y6 y7 y8 y9 y10) (laws_FnExactApplyReset.j0 (k + 1) y0 y1 y2 y3 y4 y5 y6 y7 y8 y9 y10)) ∧ (∀ y0 y1 y2 y3 y4 y5 y6 y7, LeO (laws_FnExactApplyReset.j1 k y0 y1 y2 y3 y4 y5 y6 y7) (laws_FnExactApplyReset.j1 (k + 1) y0 y1 y2 y3 y4 y5 y6 y7)) ∧ (∀ y0 y1 y2, LeO (laws_FnExactApplyReset.j2 k y0 y1 y2) (laws_FnExactApplyReset.j2 (k + 1) y0 y1 y2))
 | 0 => ⟨fun _ _ _ _ _ _ _ _ _ _ _ r h => by simp [laws_FnExactApplyReset.j0] at h, fun _ _ _ _ _ _ _ _ r h => by simp [laws_FnExactApplyReset.j1] at h, fun _ _ _ r h => by simp [laws_FnExactApplyReset.j2] at h⟩
 | k + 1 => by
  obtain ⟨ih0, ih1, ih2⟩ := laws_FnExactApplyReset.mono_l k
  refine ⟨?_, ?_, ?_⟩
  ·intro y0 y1 y2 y3 y4 y5 y6 y7 y8 y9 y10
   unfold laws_FnExactApplyReset.j0
   repeat' first
   | (with_reducible exact ih0 _ _ _ _ _ _ _ _ _ _ _)
   | (with_reducible exact ih1 _ _ _ _ _ _ _ _)
   | (with_reducible exact ih2 _ _ _)
   | (with_reducible exact impl_ApplyReset.mono _ _ _ _ _)
   | (with_reducible exact laws_eqStringS.mono _ _ _)
   | (with_reducible exact laws_heldStringS.mono _ _ _)
   | (with_reducible exact laws_markStringS.mono _ _ _)
   | (with_reducible exact laws_szStringS.mono _ _ _)
   | (with_reducible exact laws_toStringS.mono _ _)
   | (with_reducible exact LeO.refl _)
   | (with_reducible exact LeO.none _)
   | (with_reducible refine LeO.ite ?_ ?_)
   | (with_reducible refine LeO.bind ?_ (fun _ => ?_))
   | exact ih0 _ _ _ _ _ _ _ _ _ _ _
   | exact ih1 _ _ _ _ _ _ _ _
   | exact ih2 _ _ _
   | exact impl_ApplyReset.mono _ _ _ _ _
   | exact laws_eqStringS.mono _ _ _
   | exact laws_heldStringS.mono _ _ _
   | exact laws_markStringS.mono _ _ _
   | exact laws_szStringS.mono _ _ _
   | exact laws_toStringS.mono _ _
   | exact LeO.none _
   | refine LeO.ite ?_ ?_
   | refine LeO.bind ?_ (fun _ => ?_)
  ·intro y0 y1 y2 y3 y4 y5 y6 y7
   unfold laws_FnExactApplyReset.j1
   repeat' first
   | (with_reducible exact ih0 _ _ _ _ _ _ _ _ _ _ _)
   | (with_reducible exact ih1 _ _ _ _ _ _ _ _)
   | (with_reducible exact ih2 _ _ _)
   | (with_reducible exact impl_ApplyReset.mono _ _ _ _ _)
   | (with_reducible exact laws_eqStringS.mono _ _ _)
   | (with_reducible exact laws_heldStringS.mono _ _ _)
   | (with_reducible exact laws_markStringS.mono _ _ _)
   | (with_reducible exact laws_szStringS.mono _ _ _)
   | (with_reducible exact laws_toStringS.mono _ _)
   | (with_reducible exact LeO.refl _)
   | (with_reducible exact LeO.none _)
   | (with_reducible refine LeO.ite ?_ ?_)
   | (with_reducible refine LeO.bind ?_ (fun _ => ?_))
   | exact ih0 _ _ _ _ _ _ _ _ _ _ _
   | exact ih1 _ _ _ _ _ _ _ _
   | exact ih2 _ _ _
   | exact impl_ApplyReset.mono _ _ _ _ _
   | exact laws_eqStringS.mono _ _ _
   | exact laws_heldStringS.mono _ _ _
   | exact laws_markStringS.mono _ _ _
   | exact laws_szStringS.mono _ _ _
   | exact laws_toStringS.mono _ _
   | exact LeO.none _
   | refine LeO.ite ?_ ?_
   | refine LeO.bind ?_ (fun _ => ?_)
  ·intro y0 y1 y2
   unfold laws_FnExactApplyReset.j2
   repeat' first
   | (with_reducible exact ih0 _ _ _ _ _ _ _ _ _ _ _)
   | (with_reducible exact ih1 _ _ _ _ _ _ _ _)
   | (with_reducible exact ih2 _ _ _)
   | (with_reducible exact impl_ApplyReset.mono _ _ _ _ _)
   | (with_reducible exact laws_eqStringS.mono _ _ _)
   | (with_reducible exact laws_heldStringS.mono _ _ _)
   | (with_reducible exact laws_markStringS.mono _ _ _)
   | (with_reducible exact laws_szStringS.mono _ _ _)
   | (with_reducible exact laws_toStringS.mono _ _)
   | (with_reducible exact LeO.refl _)
   | (with_reducible exact LeO.none _)
   | (with_reducible refine LeO.ite ?_ ?_)
   | (with_reducible refine LeO.bind ?_ (fun _ => ?_))
   | exact ih0 _ _ _ _ _ _ _ _ _ _ _
   | exact ih1 _ _ _ _ _ _ _ _
   | exact ih2 _ _ _
   | exact impl_ApplyReset.mono _ _ _ _ _
   | exact laws_eqStringS.mono _ _ _
   | exact laws_heldStringS.mono _ _ _
   | exact laws_markStringS.mono _ _ _
   | exact laws_szStringS.mono _ _ _
   | exact laws_toStringS.mono _ _
   | exact LeO.none _
   | refine LeO.ite ?_ ?_
   | refine LeO.bind ?_ (fun _ => ?_)
theorem laws_FnExactApplyReset.mono : ∀ a0 a1 a2 a3 k, LeO (laws_FnExactApplyReset.f k a0 a1 a2 a3) (laws_FnExactApplyReset.f (k + 1) a0 a1 a2 a3) := by
 intro a0 a1 a2 a3 k
 obtain ⟨ih0, ih1, ih2⟩ := laws_FnExactApplyReset.mono_l k
 unfold laws_FnExactApplyReset.f
 repeat' first
  | (with_reducible exact ih0 _ _ _ _ _ _ _ _ _ _ _)
  | (with_reducible exact ih1 _ _ _ _ _ _ _ _)
  | (with_reducible exact ih2 _ _ _)
  | (with_reducible exact impl_ApplyReset.mono _ _ _ _ _)
  | (with_reducible exact laws_eqStringS.mono _ _ _)
  | (with_reducible exact laws_heldStringS.mono _ _ _)
  | (with_reducible exact laws_markStringS.mono _ _ _)
  | (with_reducible exact laws_szStringS.mono _ _ _)
  | (with_reducible exact laws_toStringS.mono _ _)
  | (with_reducible exact LeO.refl _)
  | (with_reducible exact LeO.none _)
  | (with_reducible refine LeO.ite ?_ ?_)
  | (with_reducible refine LeO.bind ?_ (fun _ => ?_))
  | exact ih0 _ _ _ _ _ _ _ _ _ _ _
  | exact ih1 _ _ _ _ _ _ _ _
  | exact ih2 _ _ _
  | exact impl_ApplyReset.mono _ _ _ _ _
  | exact laws_eqStringS.mono _ _ _
  | exact laws_heldStringS.mono _ _ _
  | exact laws_markStringS.mono _ _ _
  | exact laws_szStringS.mono _ _ _
  | exact laws_toStringS.mono _ _
  | exact LeO.none _
  | refine LeO.ite ?_ ?_
  | refine LeO.bind ?_ (fun _ => ?_)
set_option maxHeartbeats 8000000 in
set_option maxRecDepth 100000 in
theorem laws_FnExactApplyReset.calls (k : Nat) (A0 : Option Addr) (c0 : Nat) (l0 : List ByteArray) (a1 : Int) (a2 : Int) (A3 : Option Addr) (c3 : Nat) (l3 : List ByteArray) (r : Bool) (w : World) (hr0 : Kd.C Kd.string w A0 l0.length l0) (hc0 : l0.length ≤ c0) (hr3 : Kd.C Kd.string w A3 l3.length l3) (hc3 : l3.length ≤ c3) (h : laws_FnExactApplyReset.f k l0 a1 a2 l3 = some r) :
 Calls Try.prog 5 #[.slice A0 l0.length c0, .int .i64 a1, .int .i64 a2, .slice A3 l3.length c3] w fun e w' => e = .returned (.bool r) ∧ Below w.heap.size w w' := by
 have HR0 := Aside0.mk hr0
 have HC0 := Aside0.mk hc0
 clear hr0 hc0
 have HR3 := Aside0.mk hr3
 have HC3 := Aside0.mk hc3
 clear hr3 hc3
 have HB := Aside0.mk (Below.refl w.heap.size w)
 have H : ((laws_szStringS.f k l0 1048576).bind fun t156 => (if t156 < 0 then (some true) else ((laws_szStringS.f k l3 t156).bind fun t157 => (if t157 < 0 then (some true) else ((laws_toStringS.f k l0).bind fun t158 => ((laws_toStringS.f k l3).bind fun t161 => ((spec_ApplyReset.f t158 a1 a2 t161).bind fun bt164 => ((laws_toStringS.f k l0).bind fun t168 => ((laws_toStringS.f k l3).bind fun t171 => ((impl_ApplyReset.f k t168 a1 a2 t171).bind fun bt174 => ((laws_eqStringS.f k bt174.1 bt164.1).bind fun t178 => (if t178 = true then (laws_FnExactApplyReset.j0 k l0 a1 a2 l3 bt164.1 bt164.2 t168 t171 bt174.1 bt174.2 (bt174.2 != bt164.2)) else (laws_FnExactApplyReset.j0 k l0 a1 a2 l3 bt164.1 bt164.2 t168 t171 bt174.1 bt174.2 true))))))))))))) = some r := h
 clear h
 replace H := Option.bind_eq_some_iff.mp H
 obtain ⟨t156, A50, H⟩ := H
 replace H : (if t156 < 0 then (some true) else ((laws_szStringS.f k l3 t156).bind fun t157 => (if t157 < 0 then (some true) else ((laws_toStringS.f k l0).bind fun t158 => ((laws_toStringS.f k l3).bind fun t161 => ((spec_ApplyReset.f t158 a1 a2 t161).bind fun bt164 => ((laws_toStringS.f k l0).bind fun t168 => ((laws_toStringS.f k l3).bind fun t171 => ((impl_ApplyReset.f k t168 a1 a2 t171).bind fun bt174 => ((laws_eqStringS.f k bt174.1 bt164.1).bind fun t178 => (if t178 = true then (laws_FnExactApplyReset.j0 k l0 a1 a2 l3 bt164.1 bt164.2 t168 t171 bt174.1 bt174.2 (bt174.2 != bt164.2)) else (laws_FnExactApplyReset.j0 k l0 a1 a2 l3 bt164.1 bt164.2 t168 t171 bt174.1 bt174.2 true)))))))))))) = some r := H
 have A5 := Aside0.mk A50
 clear A50
 by_cases c6 : t156 < 0
 ·rw [if_pos c6] at H
  have c6b0 : decide (t156 < 0) = true := decide_eq_true c6
  clear c6
  obtain rfl := Option.some.inj H
  go_enter Try.func5, Try.ntmps5
  go_wp2_with (first | ((with_reducible refine gate_callee (f := 14) rfl ?_); refine goesL_ (some 23) rfl rfl Try.func14 (by kernel_rfl) rfl #[.slice A0 l0.length c0, .int .i64 1048576] rfl zp1 ?_; (with_reducible refine (laws_szStringS.calls k _ _ l0 1048576 t156 _ ?side1 ?side2 A5.out).mono ?_); (case side1 => repeat (first | exact HR0.out | (with_reducible refine Kd.C_alloc ?_ _) | (with_reducible refine Kd.C_drewN ?_ _) | (with_reducible refine Kd.C_drew ?_))); (case side2 => exact HC0.out); rintro e w' ⟨rfl, ⟨nd, rfl⟩⟩; refine ⟨_, rfl, ?_⟩))
  go_ret
  exact ⟨by first | rfl | (simp [errW_none, errW_some] <;> rfl) | (simp [*, errW_none, errW_some] <;> rfl), by repeat (first | (with_reducible first | exact HB.out | apply below_alloc | apply pw_below_drewN | apply below_drew1) | exact HB.out)⟩
 ·rw [if_neg c6] at H
  have c6b0 : decide (t156 < 0) = false := decide_eq_false c6
  clear c6
  replace H := Option.bind_eq_some_iff.mp H
  obtain ⟨t157, A70, H⟩ := H
  replace H : (if t157 < 0 then (some true) else ((laws_toStringS.f k l0).bind fun t158 => ((laws_toStringS.f k l3).bind fun t161 => ((spec_ApplyReset.f t158 a1 a2 t161).bind fun bt164 => ((laws_toStringS.f k l0).bind fun t168 => ((laws_toStringS.f k l3).bind fun t171 => ((impl_ApplyReset.f k t168 a1 a2 t171).bind fun bt174 => ((laws_eqStringS.f k bt174.1 bt164.1).bind fun t178 => (if t178 = true then (laws_FnExactApplyReset.j0 k l0 a1 a2 l3 bt164.1 bt164.2 t168 t171 bt174.1 bt174.2 (bt174.2 != bt164.2)) else (laws_FnExactApplyReset.j0 k l0 a1 a2 l3 bt164.1 bt164.2 t168 t171 bt174.1 bt174.2 true)))))))))) = some r := H
  have A7 := Aside0.mk A70
  clear A70
  by_cases c8 : t157 < 0
  ·rw [if_pos c8] at H
   have c8b0 : decide (t157 < 0) = true := decide_eq_true c8
   clear c8
   obtain rfl := Option.some.inj H
   go_enter Try.func5, Try.ntmps5
   go_wp2_with (first | ((with_reducible refine gate_callee (f := 14) rfl ?_); refine goesL_ (some 23) rfl rfl Try.func14 (by kernel_rfl) rfl #[.slice A0 l0.length c0, .int .i64 1048576] rfl zp1 ?_; (with_reducible refine (laws_szStringS.calls k _ _ l0 1048576 t156 _ ?side1 ?side2 A5.out).mono ?_); (case side1 => repeat (first | exact HR0.out | (with_reducible refine Kd.C_alloc ?_ _) | (with_reducible refine Kd.C_drewN ?_ _) | (with_reducible refine Kd.C_drew ?_))); (case side2 => exact HC0.out); rintro e w' ⟨rfl, ⟨nd, rfl⟩⟩; refine ⟨_, rfl, ?_⟩) | ((with_reducible refine gate_callee (f := 14) rfl ?_); refine goesL_ (some 28) rfl rfl Try.func14 (by kernel_rfl) rfl #[.slice A3 l3.length c3, .int .i64 t156] rfl zp1 ?_; (with_reducible refine (laws_szStringS.calls k _ _ l3 t156 t157 _ ?side1 ?side2 A7.out).mono ?_); (case side1 => repeat (first | exact HR3.out | (with_reducible refine Kd.C_alloc ?_ _) | (with_reducible refine Kd.C_drewN ?_ _) | (with_reducible refine Kd.C_drew ?_))); (case side2 => exact HC3.out); rintro e w' ⟨rfl, ⟨nd, rfl⟩⟩; refine ⟨_, rfl, ?_⟩))
   go_ret
   exact ⟨by first | rfl | (simp [errW_none, errW_some] <;> rfl) | (simp [*, errW_none, errW_some] <;> rfl), by repeat (first | (with_reducible first | exact HB.out | apply below_alloc | apply pw_below_drewN | apply below_drew1) | exact HB.out)⟩
  ·rw [if_neg c8] at H
   have c8b0 : decide (t157 < 0) = false := decide_eq_false c8
   clear c8
   replace H := Option.bind_eq_some_iff.mp H
   obtain ⟨t158, A90, H⟩ := H
   replace H : ((laws_toStringS.f k l3).bind fun t161 => ((spec_ApplyReset.f t158 a1 a2 t161).bind fun bt164 => ((laws_toStringS.f k l0).bind fun t168 => ((laws_toStringS.f k l3).bind fun t171 => ((impl_ApplyReset.f k t168 a1 a2 t171).bind fun bt174 => ((laws_eqStringS.f k bt174.1 bt164.1).bind fun t178 => (if t178 = true then (laws_FnExactApplyReset.j0 k l0 a1 a2 l3 bt164.1 bt164.2 t168 t171 bt174.1 bt174.2 (bt174.2 != bt164.2)) else (laws_FnExactApplyReset.j0 k l0 a1 a2 l3 bt164.1 bt164.2 t168 t171 bt174.1 bt174.2 true)))))))) = some r := H
   have A9 := Aside0.mk A90
   clear A90
   replace H := Option.bind_eq_some_iff.mp H
   obtain ⟨t161, A100, H⟩ := H
   replace H : ((spec_ApplyReset.f t158 a1 a2 t161).bind fun bt164 => ((laws_toStringS.f k l0).bind fun t168 => ((laws_toStringS.f k l3).bind fun t171 => ((impl_ApplyReset.f k t168 a1 a2 t171).bind fun bt174 => ((laws_eqStringS.f k bt174.1 bt164.1).bind fun t178 => (if t178 = true then (laws_FnExactApplyReset.j0 k l0 a1 a2 l3 bt164.1 bt164.2 t168 t171 bt174.1 bt174.2 (bt174.2 != bt164.2)) else (laws_FnExactApplyReset.j0 k l0 a1 a2 l3 bt164.1 bt164.2 t168 t171 bt174.1 bt174.2 true))))))) = some r := H
   have A10 := Aside0.mk A100
   clear A100
   replace H := Option.bind_eq_some_iff.mp H
   obtain ⟨⟨t164, t165⟩, A110, H⟩ := H
   replace H : ((laws_toStringS.f k l0).bind fun t168 => ((laws_toStringS.f k l3).bind fun t171 => ((impl_ApplyReset.f k t168 a1 a2 t171).bind fun bt174 => ((laws_eqStringS.f k bt174.1 t164).bind fun t178 => (if t178 = true then (laws_FnExactApplyReset.j0 k l0 a1 a2 l3 t164 t165 t168 t171 bt174.1 bt174.2 (bt174.2 != t165)) else (laws_FnExactApplyReset.j0 k l0 a1 a2 l3 t164 t165 t168 t171 bt174.1 bt174.2 true)))))) = some r := H
   have A11 := Aside0.mk A110
   clear A110
   replace H := Option.bind_eq_some_iff.mp H
   obtain ⟨t168, A120, H⟩ := H
   replace H : ((laws_toStringS.f k l3).bind fun t171 => ((impl_ApplyReset.f k t168 a1 a2 t171).bind fun bt174 => ((laws_eqStringS.f k bt174.1 t164).bind fun t178 => (if t178 = true then (laws_FnExactApplyReset.j0 k l0 a1 a2 l3 t164 t165 t168 t171 bt174.1 bt174.2 (bt174.2 != t165)) else (laws_FnExactApplyReset.j0 k l0 a1 a2 l3 t164 t165 t168 t171 bt174.1 bt174.2 true))))) = some r := H
   have A12 := Aside0.mk A120
   clear A120
   replace H := Option.bind_eq_some_iff.mp H
   obtain ⟨t171, A130, H⟩ := H
   replace H : ((impl_ApplyReset.f k t168 a1 a2 t171).bind fun bt174 => ((laws_eqStringS.f k bt174.1 t164).bind fun t178 => (if t178 = true then (laws_FnExactApplyReset.j0 k l0 a1 a2 l3 t164 t165 t168 t171 bt174.1 bt174.2 (bt174.2 != t165)) else (laws_FnExactApplyReset.j0 k l0 a1 a2 l3 t164 t165 t168 t171 bt174.1 bt174.2 true)))) = some r := H
   have A13 := Aside0.mk A130
   clear A130
   replace H := Option.bind_eq_some_iff.mp H
   obtain ⟨⟨t174, t177⟩, A140, H⟩ := H
   replace H : ((laws_eqStringS.f k t174 t164).bind fun t178 => (if t178 = true then (laws_FnExactApplyReset.j0 k l0 a1 a2 l3 t164 t165 t168 t171 t174 t177 (t177 != t165)) else (laws_FnExactApplyReset.j0 k l0 a1 a2 l3 t164 t165 t168 t171 t174 t177 true))) = some r := H
   have A14 := Aside0.mk A140
   clear A140
   have HC15 := Aside0.mk H
   clear H
   go_enter Try.func5, Try.ntmps5
   go_upto_region 12 with (first | ((with_reducible refine gate_callee (f := 14) rfl ?_); refine goesL_ (some 23) rfl rfl Try.func14 (by kernel_rfl) rfl #[.slice A0 l0.length c0, .int .i64 1048576] rfl zp1 ?_; (with_reducible refine (laws_szStringS.calls k _ _ l0 1048576 t156 _ ?side1 ?side2 A5.out).mono ?_); (case side1 => repeat (first | exact HR0.out | (with_reducible refine Kd.C_alloc ?_ _) | (with_reducible refine Kd.C_drewN ?_ _) | (with_reducible refine Kd.C_drew ?_))); (case side2 => exact HC0.out); rintro e w' ⟨rfl, ⟨nd, rfl⟩⟩; refine ⟨_, rfl, ?_⟩) | ((with_reducible refine gate_callee (f := 14) rfl ?_); refine goesL_ (some 28) rfl rfl Try.func14 (by kernel_rfl) rfl #[.slice A3 l3.length c3, .int .i64 t156] rfl zp1 ?_; (with_reducible refine (laws_szStringS.calls k _ _ l3 t156 t157 _ ?side1 ?side2 A7.out).mono ?_); (case side1 => repeat (first | exact HR3.out | (with_reducible refine Kd.C_alloc ?_ _) | (with_reducible refine Kd.C_drewN ?_ _) | (with_reducible refine Kd.C_drew ?_))); (case side2 => exact HC3.out); rintro e w' ⟨rfl, ⟨nd, rfl⟩⟩; refine ⟨_, rfl, ?_⟩) | ((with_reducible refine gate_callee (f := 16) rfl ?_); refine goesL_ (some 33) rfl rfl Try.func16 (by kernel_rfl) rfl #[.slice A0 l0.length c0] rfl zp1 ?_; (with_reducible refine (laws_toStringS.calls k _ _ l0 t158 _ ?side1 ?side2 A9.out).mono ?_); (case side1 => repeat (first | exact HR0.out | (with_reducible refine Kd.C_alloc ?_ _) | (with_reducible refine Kd.C_drewN ?_ _) | (with_reducible refine Kd.C_drew ?_))); (case side2 => exact HC0.out); rintro e w16 ⟨v159, rfl, ho0, hb⟩; refine ⟨_, rfl, ?_⟩; have n0_ := Aside0.mk (Kd.R_lower ho0 (below_size zp0)); have n1_ := Aside0.mk (below_step zp0 hb); clear HB; have HO160 := n0_; have HB := n1_; clear n0_ n1_; (try clear hb); (try clear hb2); (try clear hk); (try clear hi); (try clear ho0)) | ((with_reducible refine gate_callee (f := 16) rfl ?_); refine goesL_ (some 37) rfl rfl Try.func16 (by kernel_rfl) rfl #[.slice A3 l3.length c3] rfl zp1 ?_; (with_reducible refine (laws_toStringS.calls k _ _ l3 t161 _ ?side1 ?side2 A10.out).mono ?_); (case side1 => repeat (first | exact (Kd.C_below HR3.out HB.out) | (with_reducible refine Kd.C_alloc ?_ _) | (with_reducible refine Kd.C_drewN ?_ _) | (with_reducible refine Kd.C_drew ?_))); (case side2 => exact HC3.out); rintro e w17 ⟨v162, rfl, ho0, hb⟩; refine ⟨_, rfl, ?_⟩; have n0_ := Aside0.mk (Kd.R_elder' zp8 (Kd.R_base ho0) hb); have n1_ := Aside0.mk (Kd.R_lower (Kd.R_new' ho0 (Kd.R_lt zp8)) (below_size zp0)); have n2_ := Aside0.mk (below_step zp0 hb); clear HO160; clear HB; have HO160 := n0_; have HO163 := n1_; have HB := n2_; clear n0_ n1_ n2_; (try clear hb); (try clear hb2); (try clear hk); (try clear hi); (try clear ho0); obtain ⟨Ao18, co18, eo18⟩ := Kd.R_slice HO160.out; subst eo18; obtain ⟨Ao19, co19, eo19⟩ := Kd.R_slice HO163.out; subst eo19) | ((with_reducible refine gate_callee (f := 19) rfl ?_); refine goesL_ (some 38) rfl rfl Try.func19 (by kernel_rfl) rfl #[.slice Ao18 t158.length co18, .int .i64 a1, .int .i64 a2, .slice Ao19 t161.length co19] rfl zp1 ?_; (with_reducible refine (spec_ApplyReset.calls _ _ t158 a1 a2 _ _ t161 t164 t165 _ ?side1 ?side2 ?side3 ?side4 A11.out).mono ?_); (case side1 => repeat (first | exact (Kd.R_reads' HO160.out).2.2 | (with_reducible refine Kd.C_alloc ?_ _) | (with_reducible refine Kd.C_drewN ?_ _) | (with_reducible refine Kd.C_drew ?_))); (case side2 => exact (Kd.R_reads' HO160.out).2.1); (case side3 => repeat (first | exact (Kd.R_reads' HO163.out).2.2 | (with_reducible refine Kd.C_alloc ?_ _) | (with_reducible refine Kd.C_drewN ?_ _) | (with_reducible refine Kd.C_drew ?_))); (case side4 => exact (Kd.R_reads' HO163.out).2.1); rintro e w20 ⟨v166, rfl, ho0, hb⟩; refine ⟨_, rfl, ?_⟩; have n0_ := Aside0.mk (Kd.R_elder' zp8 (Kd.R_base ho0) hb); have n1_ := Aside0.mk (Kd.R_elder' zp9 (Kd.R_base ho0) hb); have n2_ := Aside0.mk (Kd.R_lower (Kd.R_new' (Kd.R_new' ho0 (Kd.R_lt zp8)) (Kd.R_lt zp9)) (below_size zp0)); have n3_ := Aside0.mk (below_step zp0 hb); clear HO160; clear HO163; clear HB; have HO160 := n0_; have HO163 := n1_; have HO167 := n2_; have HB := n3_; clear n0_ n1_ n2_ n3_; (try clear hb); (try clear hb2); (try clear hk); (try clear hi); (try clear ho0)) | ((with_reducible refine gate_callee (f := 16) rfl ?_); refine goesL_ (some 42) rfl rfl Try.func16 (by kernel_rfl) rfl #[.slice A0 l0.length c0] rfl zp1 ?_; (with_reducible refine (laws_toStringS.calls k _ _ l0 t168 _ ?side1 ?side2 A12.out).mono ?_); (case side1 => repeat (first | exact (Kd.C_below HR0.out HB.out) | (with_reducible refine Kd.C_alloc ?_ _) | (with_reducible refine Kd.C_drewN ?_ _) | (with_reducible refine Kd.C_drew ?_))); (case side2 => exact HC0.out); rintro e w21 ⟨v169, rfl, ho0, hb⟩; refine ⟨_, rfl, ?_⟩; have n0_ := Aside0.mk (Kd.R_elder' zp8 (Kd.R_base ho0) hb); have n1_ := Aside0.mk (Kd.R_elder' zp9 (Kd.R_base ho0) hb); have n2_ := Aside0.mk (Kd.R_elder' zp10 (Kd.R_base ho0) hb); have n3_ := Aside0.mk (Kd.R_lower (Kd.R_new' (Kd.R_new' (Kd.R_new' ho0 (Kd.R_lt zp8)) (Kd.R_lt zp9)) (Kd.R_lt zp10)) (below_size zp0)); have n4_ := Aside0.mk (below_step zp0 hb); clear HO160; clear HO163; clear HO167; clear HB; have HO160 := n0_; have HO163 := n1_; have HO167 := n2_; have HO170 := n3_; have HB := n4_; clear n0_ n1_ n2_ n3_ n4_; (try clear hb); (try clear hb2); (try clear hk); (try clear hi); (try clear ho0)) | ((with_reducible refine gate_callee (f := 16) rfl ?_); refine goesL_ (some 44) rfl rfl Try.func16 (by kernel_rfl) rfl #[.slice A3 l3.length c3] rfl zp1 ?_; (with_reducible refine (laws_toStringS.calls k _ _ l3 t171 _ ?side1 ?side2 A13.out).mono ?_); (case side1 => repeat (first | exact (Kd.C_below HR3.out HB.out) | (with_reducible refine Kd.C_alloc ?_ _) | (with_reducible refine Kd.C_drewN ?_ _) | (with_reducible refine Kd.C_drew ?_))); (case side2 => exact HC3.out); rintro e w22 ⟨v172, rfl, ho0, hb⟩; refine ⟨_, rfl, ?_⟩; have n0_ := Aside0.mk (Kd.R_elder' zp8 (Kd.R_base ho0) hb); have n1_ := Aside0.mk (Kd.R_elder' zp9 (Kd.R_base ho0) hb); have n2_ := Aside0.mk (Kd.R_elder' zp10 (Kd.R_base ho0) hb); have n3_ := Aside0.mk (Kd.R_elder' zp14 (Kd.R_base ho0) hb); have n4_ := Aside0.mk (Kd.R_lower (Kd.R_new' (Kd.R_new' (Kd.R_new' (Kd.R_new' ho0 (Kd.R_lt zp8)) (Kd.R_lt zp9)) (Kd.R_lt zp10)) (Kd.R_lt zp14)) (below_size zp0)); have n5_ := Aside0.mk (below_step zp0 hb); clear HO160; clear HO163; clear HO167; clear HO170; clear HB; have HO160 := n0_; have HO163 := n1_; have HO167 := n2_; have HO170 := n3_; have HO173 := n4_; have HB := n5_; clear n0_ n1_ n2_ n3_ n4_ n5_; (try clear hb); (try clear hb2); (try clear hk); (try clear hi); (try clear ho0); obtain ⟨Ao23, co23, eo23⟩ := Kd.R_slice HO170.out; subst eo23; obtain ⟨Ao24, co24, eo24⟩ := Kd.R_slice HO173.out; subst eo24) | ((with_reducible refine gate_callee (f := 20) rfl ?_); refine goesL_ (some 50) rfl rfl Try.func20 (by kernel_rfl) rfl #[.slice Ao23 t168.length co23, .int .i64 a1, .int .i64 a2, .slice Ao24 t171.length co24] rfl zp1 ?_; (with_reducible refine (impl_ApplyReset.calls k (fun k_ => some k_ = (.slice Ao23 t168.length co23 : Value).ownBlock) _ _ t168 a1 a2 (fun k_ => some k_ = (.slice Ao24 t171.length co24 : Value).ownBlock) _ _ t171 t174 t177 _ ?side1 ?side2 A14.out).mono ?_); (case side1 => exact Kd.R_V (Kd.R_tight rfl (HO170.out))); (case side2 => exact Kd.R_V (Kd.R_tight rfl (HO173.out))); rintro e w25 ⟨v175, rfl, ho0, hb⟩; refine ⟨_, rfl, ?_⟩; have n0_ := Aside0.mk (Kd.R_elder' zp8 (Kd.R_base ho0) hb); have n1_ := Aside0.mk (Kd.R_elder' zp9 (Kd.R_base ho0) hb); have n2_ := Aside0.mk (Kd.R_elder' zp10 (Kd.R_base ho0) hb); have n3_ := Aside0.mk (Kd.R_elder' zp14 (Kd.R_base ho0) hb); have n4_ := Aside0.mk (Kd.R_elder' (by (with_reducible repeat (first | apply Kd.R_alloc | apply Kd.R_drewN | apply Kd.R_drew)); exact HO173.out) (Kd.R_base ho0) hb); have n5_ := Aside0.mk (Kd.R_lower (Kd.R_new' (Kd.R_new' (Kd.R_new' (Kd.R_new' (Kd.R_new' (Kd.R_mono (ok' := fun k_ => True) ho0 (fun _ hk_ => trivial)) (Kd.R_lt zp8)) (Kd.R_lt zp9)) (Kd.R_lt zp10)) (Kd.R_lt zp14)) (Kd.R_lt (by (with_reducible repeat (first | apply Kd.R_alloc | apply Kd.R_drewN | apply Kd.R_drew)); exact HO173.out))) (below_size zp0)); have n6_ := Aside0.mk (below_step zp0 hb); clear HO160; clear HO163; clear HO167; clear HO170; clear HO173; clear HB; have HO160 := n0_; have HO163 := n1_; have HO167 := n2_; have HO170 := n3_; have HO173 := n4_; have HO176 := n5_; have HB := n6_; clear n0_ n1_ n2_ n3_ n4_ n5_ n6_; (try clear hb); (try clear hb2); (try clear hk); (try clear hi); (try clear ho0)))
   (try simp only [Act.put, List.setIfInBounds_toArray, List.set_cons_zero, List.set_cons_succ])
   go_cut [61] (fun v61 wc => ∃ (kq : Nat) (x61_14 : Bool), v61 = .bool x61_14 ∧ Aside0 (laws_FnExactApplyReset.j0 kq l0 a1 a2 l3 t164 t165 t168 t171 t174 t177 x61_14 = some r) ∧ Aside0 (kq ≤ k) ∧ Aside0 (Kd.R Kd.string 9 wc w.heap.size (fun k_ => some k_ ≠ ((.slice Ao23 t168.length co23) : Value).ownBlock ∧ some k_ ≠ ((.slice Ao24 t171.length co24) : Value).ownBlock ∧ some k_ ≠ (v175 : Value).ownBlock) v166 t164) ∧ Aside0 (Kd.R Kd.string 9 wc w.heap.size (fun k_ => some k_ ≠ (v166 : Value).ownBlock ∧ some k_ ≠ ((.slice Ao24 t171.length co24) : Value).ownBlock ∧ some k_ ≠ (v175 : Value).ownBlock) (.slice Ao23 t168.length co23) t168) ∧ Aside0 (Kd.R Kd.string 9 wc w.heap.size (fun k_ => some k_ ≠ (v166 : Value).ownBlock ∧ some k_ ≠ ((.slice Ao23 t168.length co23) : Value).ownBlock ∧ some k_ ≠ (v175 : Value).ownBlock) (.slice Ao24 t171.length co24) t171) ∧ Aside0 (Kd.R Kd.string 9 wc w.heap.size (fun k_ => some k_ ≠ (v166 : Value).ownBlock ∧ some k_ ≠ ((.slice Ao23 t168.length co23) : Value).ownBlock ∧ some k_ ≠ ((.slice Ao24 t171.length co24) : Value).ownBlock) v175 t174) ∧ Aside0 (Below w.heap.size w wc))
   case first =>
    have H := HC15.out
    clear HC15
    replace H := Option.bind_eq_some_iff.mp H
    obtain ⟨t178, A260, H⟩ := H
    replace H : (if t178 = true then (laws_FnExactApplyReset.j0 k l0 a1 a2 l3 t164 t165 t168 t171 t174 t177 (t177 != t165)) else (laws_FnExactApplyReset.j0 k l0 a1 a2 l3 t164 t165 t168 t171 t174 t177 true)) = some r := H
    have A26 := Aside0.mk A260
    clear A260
    by_cases c27 : t178 = true
    ·subst c27
     have H1 : (laws_FnExactApplyReset.j0 k l0 a1 a2 l3 t164 t165 t168 t171 t174 t177 (t177 != t165)) = some r := by rw [if_pos rfl] at H; exact H
     clear H
     have H := H1
     clear H1
     have H' := Aside0.mk H
     clear H
     obtain ⟨Ao28, co28, eo28⟩ := Kd.R_slice HO176.out
     subst eo28
     obtain ⟨Ao29, co29, eo29⟩ := Kd.R_slice HO167.out
     subst eo29
     go_wp2_with (first | ((with_reducible refine gate_callee (f := 18) rfl ?_); refine goesL_ (some 55) rfl rfl Try.func18 (by kernel_rfl) rfl #[.slice Ao28 t174.length co28, .slice Ao29 t164.length co29] rfl zp1 ?_; (with_reducible refine (laws_eqStringS.calls k _ _ t174 _ _ t164 true _ ?side1 ?side2 ?side3 ?side4 A26.out).mono ?_); (case side1 => repeat (first | exact (Kd.R_reads' HO176.out).2.2 | (with_reducible refine Kd.C_alloc ?_ _) | (with_reducible refine Kd.C_drewN ?_ _) | (with_reducible refine Kd.C_drew ?_))); (case side2 => exact (Kd.R_reads' HO176.out).2.1); (case side3 => repeat (first | exact (Kd.R_reads' HO167.out).2.2 | (with_reducible refine Kd.C_alloc ?_ _) | (with_reducible refine Kd.C_drewN ?_ _) | (with_reducible refine Kd.C_drew ?_))); (case side4 => exact (Kd.R_reads' HO167.out).2.1); rintro e w' ⟨rfl, ⟨nd, rfl⟩⟩; refine ⟨_, rfl, ?_⟩))
     go_meet
     case rel => exact ⟨_, ((t177 != t165)), zp5, H', ⟨by first | omega | exact Nat.le_refl _⟩, ⟨by (with_reducible repeat (first | apply Kd.R_alloc | apply Kd.R_drewN | apply Kd.R_drew)); exact Kd.R_mono HO167.out (fun _ hk => ⟨hk.1.1.2, ⟨hk.1.2, hk.2⟩⟩)⟩, ⟨by (with_reducible repeat (first | apply Kd.R_alloc | apply Kd.R_drewN | apply Kd.R_drew)); exact Kd.R_mono HO170.out (fun _ hk => ⟨hk.1.1.2, ⟨hk.1.2, hk.2⟩⟩)⟩, ⟨by (with_reducible repeat (first | apply Kd.R_alloc | apply Kd.R_drewN | apply Kd.R_drew)); exact Kd.R_mono HO173.out (fun _ hk => ⟨hk.1.1.2, ⟨hk.1.2, hk.2⟩⟩)⟩, ⟨by (with_reducible repeat (first | apply Kd.R_alloc | apply Kd.R_drewN | apply Kd.R_drew)); exact Kd.R_mono HO176.out (fun _ hk => ⟨hk.1.1.2, ⟨hk.1.2, hk.2⟩⟩)⟩, ⟨by repeat (first | (with_reducible first | exact HB.out | apply below_alloc | apply pw_below_drewN | apply below_drew1) | exact HB.out)⟩⟩
    ·replace c27 := Bool.eq_false_iff.mpr c27
     subst c27
     have H1 : (laws_FnExactApplyReset.j0 k l0 a1 a2 l3 t164 t165 t168 t171 t174 t177 true) = some r := by rw [if_neg (show ¬ (false = true) by decide)] at H; exact H
     clear H
     have H := H1
     clear H1
     have H' := Aside0.mk H
     clear H
     obtain ⟨Ao30, co30, eo30⟩ := Kd.R_slice HO176.out
     subst eo30
     obtain ⟨Ao31, co31, eo31⟩ := Kd.R_slice HO167.out
     subst eo31
     go_wp2_with (first | ((with_reducible refine gate_callee (f := 18) rfl ?_); refine goesL_ (some 55) rfl rfl Try.func18 (by kernel_rfl) rfl #[.slice Ao30 t174.length co30, .slice Ao31 t164.length co31] rfl zp1 ?_; (with_reducible refine (laws_eqStringS.calls k _ _ t174 _ _ t164 false _ ?side1 ?side2 ?side3 ?side4 A26.out).mono ?_); (case side1 => repeat (first | exact (Kd.R_reads' HO176.out).2.2 | (with_reducible refine Kd.C_alloc ?_ _) | (with_reducible refine Kd.C_drewN ?_ _) | (with_reducible refine Kd.C_drew ?_))); (case side2 => exact (Kd.R_reads' HO176.out).2.1); (case side3 => repeat (first | exact (Kd.R_reads' HO167.out).2.2 | (with_reducible refine Kd.C_alloc ?_ _) | (with_reducible refine Kd.C_drewN ?_ _) | (with_reducible refine Kd.C_drew ?_))); (case side4 => exact (Kd.R_reads' HO167.out).2.1); rintro e w' ⟨rfl, ⟨nd, rfl⟩⟩; refine ⟨_, rfl, ?_⟩))
     go_meet
     case rel => exact ⟨_, (true), zp5, H', ⟨by first | omega | exact Nat.le_refl _⟩, ⟨by (with_reducible repeat (first | apply Kd.R_alloc | apply Kd.R_drewN | apply Kd.R_drew)); exact Kd.R_mono HO167.out (fun _ hk => ⟨hk.1.1.2, ⟨hk.1.2, hk.2⟩⟩)⟩, ⟨by (with_reducible repeat (first | apply Kd.R_alloc | apply Kd.R_drewN | apply Kd.R_drew)); exact Kd.R_mono HO170.out (fun _ hk => ⟨hk.1.1.2, ⟨hk.1.2, hk.2⟩⟩)⟩, ⟨by (with_reducible repeat (first | apply Kd.R_alloc | apply Kd.R_drewN | apply Kd.R_drew)); exact Kd.R_mono HO173.out (fun _ hk => ⟨hk.1.1.2, ⟨hk.1.2, hk.2⟩⟩)⟩, ⟨by (with_reducible repeat (first | apply Kd.R_alloc | apply Kd.R_drewN | apply Kd.R_drew)); exact Kd.R_mono HO176.out (fun _ hk => ⟨hk.1.1.2, ⟨hk.1.2, hk.2⟩⟩)⟩, ⟨by repeat (first | (with_reducible first | exact HB.out | apply below_alloc | apply pw_below_drewN | apply below_drew1) | exact HB.out)⟩⟩
   case rest =>
    clear HC15
    try clear c1
    try clear c2
    try clear p2
    try clear c3
    try clear c5
    try clear c6
    try clear c6b0
    try clear c8
    try clear c8b0
    try clear c14
    try clear c16
    try clear c18
    try clear c19
    try clear c20
    try clear c27
    obtain ⟨kq, x61_14, rfl, HA, HJ14, HO_10, HO_12, HO_13, HO_14, HB⟩ := hcut
    cases kq with
    | zero => exact absurd HA.out (by simp [laws_FnExactApplyReset.j0])
    | succ kj14 =>
     have H := HA.out
     clear HA
     simp only [laws_FnExactApplyReset.j0] at H
     by_cases c32 : x61_14 = true
     ·subst c32
      have H1 : (some false) = some r := by rw [if_pos rfl] at H; exact H
      clear H
      have H := H1
      clear H1
      obtain rfl := Option.some.inj H
      go_wp2
      go_ret
      exact ⟨by first | rfl | (simp [errW_none, errW_some] <;> rfl) | (simp [*, errW_none, errW_some] <;> rfl), by repeat (first | (with_reducible first | exact HB.out | apply below_alloc | apply pw_below_drewN | apply below_drew1) | exact HB.out)⟩
     ·replace c32 := Bool.eq_false_iff.mpr c32
      subst c32
      have H1 : ((laws_toStringS.f kj14 l0).bind fun t179 => ((laws_eqStringS.f kj14 t168 t179).bind fun t182 => (if t182 = true then ((laws_toStringS.f kj14 l3).bind fun t183 => ((laws_eqStringS.f kj14 t171 t183).bind fun t186 => (if t186 = true then ((laws_markStringS.f kj14 t168 1).bind fun bt187 => ((laws_markStringS.f kj14 t171 bt187.1).bind fun bt189 => (if bt189.1 < 0 then (laws_FnExactApplyReset.j1 kj14 l0 a1 a2 l3 t164 t165 t174 true) else ((laws_eqStringS.f kj14 t174 t164).bind fun t191 => (if t191 = true then (laws_FnExactApplyReset.j1 kj14 l0 a1 a2 l3 t164 t165 t174 (t177 != t165)) else (laws_FnExactApplyReset.j1 kj14 l0 a1 a2 l3 t164 t165 t174 true)))))) else (some false)))) else (some false)))) = some r := by rw [if_neg (show ¬ (false = true) by decide)] at H; exact H
      clear H
      have H := H1
      clear H1
      replace H := Option.bind_eq_some_iff.mp H
      obtain ⟨t179, A330, H⟩ := H
      replace H : ((laws_eqStringS.f kj14 t168 t179).bind fun t182 => (if t182 = true then ((laws_toStringS.f kj14 l3).bind fun t183 => ((laws_eqStringS.f kj14 t171 t183).bind fun t186 => (if t186 = true then ((laws_markStringS.f kj14 t168 1).bind fun bt187 => ((laws_markStringS.f kj14 t171 bt187.1).bind fun bt189 => (if bt189.1 < 0 then (laws_FnExactApplyReset.j1 kj14 l0 a1 a2 l3 t164 t165 t174 true) else ((laws_eqStringS.f kj14 t174 t164).bind fun t191 => (if t191 = true then (laws_FnExactApplyReset.j1 kj14 l0 a1 a2 l3 t164 t165 t174 (t177 != t165)) else (laws_FnExactApplyReset.j1 kj14 l0 a1 a2 l3 t164 t165 t174 true)))))) else (some false)))) else (some false))) = some r := H
      have A33 := Aside0.mk A330
      clear A330
      replace H := Option.bind_eq_some_iff.mp H
      obtain ⟨t182, A340, H⟩ := H
      replace H : (if t182 = true then ((laws_toStringS.f kj14 l3).bind fun t183 => ((laws_eqStringS.f kj14 t171 t183).bind fun t186 => (if t186 = true then ((laws_markStringS.f kj14 t168 1).bind fun bt187 => ((laws_markStringS.f kj14 t171 bt187.1).bind fun bt189 => (if bt189.1 < 0 then (laws_FnExactApplyReset.j1 kj14 l0 a1 a2 l3 t164 t165 t174 true) else ((laws_eqStringS.f kj14 t174 t164).bind fun t191 => (if t191 = true then (laws_FnExactApplyReset.j1 kj14 l0 a1 a2 l3 t164 t165 t174 (t177 != t165)) else (laws_FnExactApplyReset.j1 kj14 l0 a1 a2 l3 t164 t165 t174 true)))))) else (some false)))) else (some false)) = some r := H
      have A34 := Aside0.mk A340
      clear A340
      by_cases c35 : t182 = true
      ·subst c35
       have H1 : ((laws_toStringS.f kj14 l3).bind fun t183 => ((laws_eqStringS.f kj14 t171 t183).bind fun t186 => (if t186 = true then ((laws_markStringS.f kj14 t168 1).bind fun bt187 => ((laws_markStringS.f kj14 t171 bt187.1).bind fun bt189 => (if bt189.1 < 0 then (laws_FnExactApplyReset.j1 kj14 l0 a1 a2 l3 t164 t165 t174 true) else ((laws_eqStringS.f kj14 t174 t164).bind fun t191 => (if t191 = true then (laws_FnExactApplyReset.j1 kj14 l0 a1 a2 l3 t164 t165 t174 (t177 != t165)) else (laws_FnExactApplyReset.j1 kj14 l0 a1 a2 l3 t164 t165 t174 true)))))) else (some false)))) = some r := by rw [if_pos rfl] at H; exact H
       clear H
       have H := H1
       clear H1
       replace H := Option.bind_eq_some_iff.mp H
       obtain ⟨t183, A360, H⟩ := H
       replace H : ((laws_eqStringS.f kj14 t171 t183).bind fun t186 => (if t186 = true then ((laws_markStringS.f kj14 t168 1).bind fun bt187 => ((laws_markStringS.f kj14 t171 bt187.1).bind fun bt189 => (if bt189.1 < 0 then (laws_FnExactApplyReset.j1 kj14 l0 a1 a2 l3 t164 t165 t174 true) else ((laws_eqStringS.f kj14 t174 t164).bind fun t191 => (if t191 = true then (laws_FnExactApplyReset.j1 kj14 l0 a1 a2 l3 t164 t165 t174 (t177 != t165)) else (laws_FnExactApplyReset.j1 kj14 l0 a1 a2 l3 t164 t165 t174 true)))))) else (some false))) = some r := H
       have A36 := Aside0.mk A360
       clear A360
       replace H := Option.bind_eq_some_iff.mp H
       obtain ⟨t186, A370, H⟩ := H
       replace H : (if t186 = true then ((laws_markStringS.f kj14 t168 1).bind fun bt187 => ((laws_markStringS.f kj14 t171 bt187.1).bind fun bt189 => (if bt189.1 < 0 then (laws_FnExactApplyReset.j1 kj14 l0 a1 a2 l3 t164 t165 t174 true) else ((laws_eqStringS.f kj14 t174 t164).bind fun t191 => (if t191 = true then (laws_FnExactApplyReset.j1 kj14 l0 a1 a2 l3 t164 t165 t174 (t177 != t165)) else (laws_FnExactApplyReset.j1 kj14 l0 a1 a2 l3 t164 t165 t174 true)))))) else (some false)) = some r := H
       have A37 := Aside0.mk A370
       clear A370
       by_cases c38 : t186 = true
       ·subst c38
        have H1 : ((laws_markStringS.f kj14 t168 1).bind fun bt187 => ((laws_markStringS.f kj14 t171 bt187.1).bind fun bt189 => (if bt189.1 < 0 then (laws_FnExactApplyReset.j1 kj14 l0 a1 a2 l3 t164 t165 t174 true) else ((laws_eqStringS.f kj14 t174 t164).bind fun t191 => (if t191 = true then (laws_FnExactApplyReset.j1 kj14 l0 a1 a2 l3 t164 t165 t174 (t177 != t165)) else (laws_FnExactApplyReset.j1 kj14 l0 a1 a2 l3 t164 t165 t174 true)))))) = some r := by rw [if_pos rfl] at H; exact H
        clear H
        have H := H1
        clear H1
        replace H := Option.bind_eq_some_iff.mp H
        obtain ⟨⟨t187, t188⟩, A390, H⟩ := H
        replace H : ((laws_markStringS.f kj14 t171 t187).bind fun bt189 => (if bt189.1 < 0 then (laws_FnExactApplyReset.j1 kj14 l0 a1 a2 l3 t164 t165 t174 true) else ((laws_eqStringS.f kj14 t174 t164).bind fun t191 => (if t191 = true then (laws_FnExactApplyReset.j1 kj14 l0 a1 a2 l3 t164 t165 t174 (t177 != t165)) else (laws_FnExactApplyReset.j1 kj14 l0 a1 a2 l3 t164 t165 t174 true))))) = some r := H
        have A39 := Aside0.mk A390
        clear A390
        replace H := Option.bind_eq_some_iff.mp H
        obtain ⟨⟨t189, t190⟩, A400, H⟩ := H
        replace H : (if t189 < 0 then (laws_FnExactApplyReset.j1 kj14 l0 a1 a2 l3 t164 t165 t174 true) else ((laws_eqStringS.f kj14 t174 t164).bind fun t191 => (if t191 = true then (laws_FnExactApplyReset.j1 kj14 l0 a1 a2 l3 t164 t165 t174 (t177 != t165)) else (laws_FnExactApplyReset.j1 kj14 l0 a1 a2 l3 t164 t165 t174 true)))) = some r := H
        have A40 := Aside0.mk A400
        clear A400
        have HC41 := Aside0.mk H
        clear H
        go_upto_region 21 with (first | ((with_reducible refine gate_callee (f := 16) rfl ?_); refine goesL_ (some 64) rfl rfl Try.func16 (by kernel_rfl) rfl #[.slice A0 l0.length c0] rfl zp1 ?_; (with_reducible refine (laws_toStringS.calls kj14 _ _ l0 t179 _ ?side1 ?side2 A33.out).mono ?_); (case side1 => repeat (first | exact (Kd.C_below HR0.out HB.out) | (with_reducible refine Kd.C_alloc ?_ _) | (with_reducible refine Kd.C_drewN ?_ _) | (with_reducible refine Kd.C_drew ?_))); (case side2 => exact HC0.out); rintro e w42 ⟨v180, rfl, ho0, hb⟩; refine ⟨_, rfl, ?_⟩; have n0_ := Aside0.mk (Kd.R_elder' zp4 (Kd.R_base ho0) hb); have n1_ := Aside0.mk (Kd.R_elder' zp7 (Kd.R_base ho0) hb); have n2_ := Aside0.mk (Kd.R_elder' zp6 (Kd.R_base ho0) hb); have n3_ := Aside0.mk (Kd.R_elder' zp2 (Kd.R_base ho0) hb); have n4_ := Aside0.mk (Kd.R_lower (Kd.R_new' (Kd.R_new' (Kd.R_new' (Kd.R_new' ho0 (Kd.R_lt zp4)) (Kd.R_lt zp7)) (Kd.R_lt zp6)) (Kd.R_lt zp2)) (below_size zp0)); have n5_ := Aside0.mk (below_step zp0 hb); clear HO_10; clear HO_12; clear HO_13; clear HO_14; clear HB; have HO_10 := n0_; have HO_12 := n1_; have HO_13 := n2_; have HO_14 := n3_; have HO181 := n4_; have HB := n5_; clear n0_ n1_ n2_ n3_ n4_ n5_; (try clear hb); (try clear hb2); (try clear hk); (try clear hi); (try clear ho0); obtain ⟨Ao43, co43, eo43⟩ := Kd.R_slice HO181.out; subst eo43) | ((with_reducible refine gate_callee (f := 18) rfl ?_); refine goesL_ (some 65) rfl rfl Try.func18 (by kernel_rfl) rfl #[.slice Ao23 t168.length co23, .slice Ao43 t179.length co43] rfl zp1 ?_; (with_reducible refine (laws_eqStringS.calls kj14 _ _ t168 _ _ t179 true _ ?side1 ?side2 ?side3 ?side4 A34.out).mono ?_); (case side1 => repeat (first | exact (Kd.R_reads' HO_12.out).2.2 | (with_reducible refine Kd.C_alloc ?_ _) | (with_reducible refine Kd.C_drewN ?_ _) | (with_reducible refine Kd.C_drew ?_))); (case side2 => exact (Kd.R_reads' HO_12.out).2.1); (case side3 => repeat (first | exact (Kd.R_reads' HO181.out).2.2 | (with_reducible refine Kd.C_alloc ?_ _) | (with_reducible refine Kd.C_drewN ?_ _) | (with_reducible refine Kd.C_drew ?_))); (case side4 => exact (Kd.R_reads' HO181.out).2.1); rintro e w' ⟨rfl, ⟨nd, rfl⟩⟩; refine ⟨_, rfl, ?_⟩) | ((with_reducible refine gate_callee (f := 16) rfl ?_); refine goesL_ (some 69) rfl rfl Try.func16 (by kernel_rfl) rfl #[.slice A3 l3.length c3] rfl zp1 ?_; (with_reducible refine (laws_toStringS.calls kj14 _ _ l3 t183 _ ?side1 ?side2 A36.out).mono ?_); (case side1 => repeat (first | exact (Kd.C_below HR3.out zp0) | (with_reducible refine Kd.C_alloc ?_ _) | (with_reducible refine Kd.C_drewN ?_ _) | (with_reducible refine Kd.C_drew ?_))); (case side2 => exact HC3.out); rintro e w44 ⟨v184, rfl, ho0, hb⟩; refine ⟨_, rfl, ?_⟩; have n0_ := Aside0.mk (Kd.R_elder' zp4 (Kd.R_base ho0) hb); have n1_ := Aside0.mk (Kd.R_elder' zp7 (Kd.R_base ho0) hb); have n2_ := Aside0.mk (Kd.R_elder' zp6 (Kd.R_base ho0) hb); have n3_ := Aside0.mk (Kd.R_elder' zp2 (Kd.R_base ho0) hb); have n4_ := Aside0.mk (Kd.R_elder' zp13 (Kd.R_base ho0) hb); have n5_ := Aside0.mk (Kd.R_lower (Kd.R_new' (Kd.R_new' (Kd.R_new' (Kd.R_new' (Kd.R_new' ho0 (Kd.R_lt zp4)) (Kd.R_lt zp7)) (Kd.R_lt zp6)) (Kd.R_lt zp2)) (Kd.R_lt zp13)) (below_size zp0)); have n6_ := Aside0.mk (below_step zp0 hb); clear HO_10; clear HO_12; clear HO_13; clear HO_14; clear HO181; clear HB; have HO_10 := n0_; have HO_12 := n1_; have HO_13 := n2_; have HO_14 := n3_; have HO181 := n4_; have HO185 := n5_; have HB := n6_; clear n0_ n1_ n2_ n3_ n4_ n5_ n6_; (try clear hb); (try clear hb2); (try clear hk); (try clear hi); (try clear ho0); obtain ⟨Ao45, co45, eo45⟩ := Kd.R_slice HO185.out; subst eo45) | ((with_reducible refine gate_callee (f := 18) rfl ?_); refine goesL_ (some 70) rfl rfl Try.func18 (by kernel_rfl) rfl #[.slice Ao24 t171.length co24, .slice Ao45 t183.length co45] rfl zp1 ?_; (with_reducible refine (laws_eqStringS.calls kj14 _ _ t171 _ _ t183 true _ ?side1 ?side2 ?side3 ?side4 A37.out).mono ?_); (case side1 => repeat (first | exact (Kd.R_reads' HO_13.out).2.2 | (with_reducible refine Kd.C_alloc ?_ _) | (with_reducible refine Kd.C_drewN ?_ _) | (with_reducible refine Kd.C_drew ?_))); (case side2 => exact (Kd.R_reads' HO_13.out).2.1); (case side3 => repeat (first | exact (Kd.R_reads' HO185.out).2.2 | (with_reducible refine Kd.C_alloc ?_ _) | (with_reducible refine Kd.C_drewN ?_ _) | (with_reducible refine Kd.C_drew ?_))); (case side4 => exact (Kd.R_reads' HO185.out).2.1); rintro e w' ⟨rfl, ⟨nd, rfl⟩⟩; refine ⟨_, rfl, ?_⟩) | ((with_reducible refine gate_callee (f := 21) rfl ?_); refine goesL_ (some 74) rfl rfl Try.func21 (by kernel_rfl) rfl #[.slice Ao23 t168.length co23, .int .i64 1] rfl zp1 ?_; (with_reducible refine (laws_markStringS.calls kj14 (fun k_ => some k_ = (.slice Ao23 t168.length co23 : Value).ownBlock) (.slice Ao23 t168.length co23) t168 1 t187 t188 w _ ?side1 ?side2 A39.out).mono ?_); (case side1 => repeat (first | (with_reducible first | exact HB.out | apply below_alloc | apply pw_below_drewN | apply below_drew1) | exact HB.out)); (case side2 => exact Kd.R_tight rfl HO_12.out); rintro e w46 ⟨rfl, hy0, hb, hkp⟩; refine ⟨_, rfl, ?_⟩; have n0_ := Aside0.mk (Kd.R_mono (ok' := fun k_ => some k_ ≠ (.slice Ao23 t168.length co23 : Value).ownBlock ∧ some k_ ≠ (.slice Ao24 t171.length co24 : Value).ownBlock ∧ some k_ ≠ (v175 : Value).ownBlock ∧ some k_ ≠ (.slice Ao43 t179.length co43 : Value).ownBlock ∧ some k_ ≠ (.slice Ao45 t183.length co45 : Value).ownBlock) (Kd.R_keptB (HO_10.out) hkp (fun k_ hk_ hs_ => (hk_.1.1.1) hs_)) (fun k_ hk_ => ⟨hk_.1.1.1.1, hk_.1.1.1.2.1, hk_.1.1.1.2.2, hk_.1.1.2, hk_.1.2⟩)); have n1_ := Aside0.mk (Kd.R_reok rfl hy0 (fun k_ e_ => HO_12.out.1 k_ e_)); have n2_ := Aside0.mk (Kd.R_mono (ok' := fun k_ => some k_ ≠ (v166 : Value).ownBlock ∧ some k_ ≠ (.slice Ao23 t168.length co23 : Value).ownBlock ∧ some k_ ≠ (v175 : Value).ownBlock ∧ some k_ ≠ (.slice Ao43 t179.length co43 : Value).ownBlock ∧ some k_ ≠ (.slice Ao45 t183.length co45 : Value).ownBlock) (Kd.R_keptB (HO_13.out) hkp (fun k_ hk_ hs_ => (hk_.1.1.2.1) hs_)) (fun k_ hk_ => ⟨hk_.1.1.1.1, hk_.1.1.1.2.1, hk_.1.1.1.2.2, hk_.1.1.2, hk_.1.2⟩)); have n3_ := Aside0.mk (Kd.R_mono (ok' := fun k_ => some k_ ≠ (v166 : Value).ownBlock ∧ some k_ ≠ (.slice Ao23 t168.length co23 : Value).ownBlock ∧ some k_ ≠ (.slice Ao24 t171.length co24 : Value).ownBlock ∧ some k_ ≠ (.slice Ao43 t179.length co43 : Value).ownBlock ∧ some k_ ≠ (.slice Ao45 t183.length co45 : Value).ownBlock) (Kd.R_keptB (HO_14.out) hkp (fun k_ hk_ hs_ => (hk_.1.1.2.1) hs_)) (fun k_ hk_ => ⟨hk_.1.1.1.1, hk_.1.1.1.2.1, hk_.1.1.1.2.2, hk_.1.1.2, hk_.1.2⟩)); have n4_ := Aside0.mk (Kd.R_mono (ok' := fun k_ => some k_ ≠ (v166 : Value).ownBlock ∧ some k_ ≠ (.slice Ao23 t168.length co23 : Value).ownBlock ∧ some k_ ≠ (.slice Ao24 t171.length co24 : Value).ownBlock ∧ some k_ ≠ (v175 : Value).ownBlock ∧ some k_ ≠ (.slice Ao45 t183.length co45 : Value).ownBlock) (Kd.R_keptB (HO181.out) hkp (fun k_ hk_ hs_ => (hk_.1.1.1.2) hs_)) (fun k_ hk_ => ⟨hk_.1.1.1.1.1.2, hk_.1.1.1.1.2, hk_.1.1.1.2, hk_.1.1.2, hk_.1.2⟩)); have n5_ := Aside0.mk (Kd.R_mono (ok' := fun k_ => some k_ ≠ (v166 : Value).ownBlock ∧ some k_ ≠ (.slice Ao23 t168.length co23 : Value).ownBlock ∧ some k_ ≠ (.slice Ao24 t171.length co24 : Value).ownBlock ∧ some k_ ≠ (v175 : Value).ownBlock ∧ some k_ ≠ (.slice Ao43 t179.length co43 : Value).ownBlock) (Kd.R_keptB (HO185.out) hkp (fun k_ hk_ hs_ => (hk_.1.1.1.2) hs_)) (fun k_ hk_ => ⟨hk_.1.1.1.1.1.2, hk_.1.1.1.1.2, hk_.1.1.1.2, hk_.1.1.2, hk_.1.2⟩)); have n6_ := Aside0.mk (hb); clear HO_10; clear HO_12; clear HO_13; clear HO_14; clear HO181; clear HO185; clear HB; have HO_10 := n0_; have HO_12 := n1_; have HO_13 := n2_; have HO_14 := n3_; have HO181 := n4_; have HO185 := n5_; have HB := n6_; clear n0_ n1_ n2_ n3_ n4_ n5_ n6_; (try clear hb); (try clear hkp); (try clear hy0)) | ((with_reducible refine gate_callee (f := 21) rfl ?_); refine goesL_ (some 77) rfl rfl Try.func21 (by kernel_rfl) rfl #[.slice Ao24 t171.length co24, .int .i64 t187] rfl zp1 ?_; (with_reducible refine (laws_markStringS.calls kj14 (fun k_ => some k_ = (.slice Ao24 t171.length co24 : Value).ownBlock) (.slice Ao24 t171.length co24) t171 t187 t189 t190 w _ ?side1 ?side2 A40.out).mono ?_); (case side1 => repeat (first | (with_reducible first | exact HB.out | apply below_alloc | apply pw_below_drewN | apply below_drew1) | exact HB.out)); (case side2 => exact Kd.R_tight rfl HO_13.out); rintro e w47 ⟨rfl, hy0, hb, hkp⟩; refine ⟨_, rfl, ?_⟩; have n0_ := Aside0.mk (Kd.R_mono (ok' := fun k_ => some k_ ≠ (.slice Ao23 t168.length co23 : Value).ownBlock ∧ some k_ ≠ (.slice Ao24 t171.length co24 : Value).ownBlock ∧ some k_ ≠ (v175 : Value).ownBlock ∧ some k_ ≠ (.slice Ao43 t179.length co43 : Value).ownBlock ∧ some k_ ≠ (.slice Ao45 t183.length co45 : Value).ownBlock) (Kd.R_keptB (HO_10.out) hkp (fun k_ hk_ hs_ => (hk_.2.1) hs_)) (fun k_ hk_ => ⟨hk_.1.1, hk_.1.2.1, hk_.1.2.2.1, hk_.1.2.2.2.1, hk_.1.2.2.2.2⟩)); have n1_ := Aside0.mk (Kd.R_mono (ok' := fun k_ => some k_ ≠ (v166 : Value).ownBlock ∧ some k_ ≠ (.slice Ao24 t171.length co24 : Value).ownBlock ∧ some k_ ≠ (v175 : Value).ownBlock ∧ some k_ ≠ (.slice Ao43 t179.length co43 : Value).ownBlock ∧ some k_ ≠ (.slice Ao45 t183.length co45 : Value).ownBlock) (Kd.R_keptB (HO_12.out) hkp (fun k_ hk_ hs_ => (hk_.1.1.2.1) hs_)) (fun k_ hk_ => ⟨hk_.1.1.1.1, hk_.1.1.1.2.1, hk_.1.1.1.2.2, hk_.1.1.2, hk_.1.2⟩)); have n2_ := Aside0.mk (Kd.R_reok rfl hy0 (fun k_ e_ => HO_13.out.1 k_ e_)); have n3_ := Aside0.mk (Kd.R_mono (ok' := fun k_ => some k_ ≠ (v166 : Value).ownBlock ∧ some k_ ≠ (.slice Ao23 t168.length co23 : Value).ownBlock ∧ some k_ ≠ (.slice Ao24 t171.length co24 : Value).ownBlock ∧ some k_ ≠ (.slice Ao43 t179.length co43 : Value).ownBlock ∧ some k_ ≠ (.slice Ao45 t183.length co45 : Value).ownBlock) (Kd.R_keptB (HO_14.out) hkp (fun k_ hk_ hs_ => (hk_.2.2.1) hs_)) (fun k_ hk_ => ⟨hk_.1.1, hk_.1.2.1, hk_.1.2.2.1, hk_.1.2.2.2.1, hk_.1.2.2.2.2⟩)); have n4_ := Aside0.mk (Kd.R_mono (ok' := fun k_ => some k_ ≠ (v166 : Value).ownBlock ∧ some k_ ≠ (.slice Ao23 t168.length co23 : Value).ownBlock ∧ some k_ ≠ (.slice Ao24 t171.length co24 : Value).ownBlock ∧ some k_ ≠ (v175 : Value).ownBlock ∧ some k_ ≠ (.slice Ao45 t183.length co45 : Value).ownBlock) (Kd.R_keptB (HO181.out) hkp (fun k_ hk_ hs_ => (hk_.2.2.1) hs_)) (fun k_ hk_ => ⟨hk_.1.1, hk_.1.2.1, hk_.1.2.2.1, hk_.1.2.2.2.1, hk_.1.2.2.2.2⟩)); have n5_ := Aside0.mk (Kd.R_mono (ok' := fun k_ => some k_ ≠ (v166 : Value).ownBlock ∧ some k_ ≠ (.slice Ao23 t168.length co23 : Value).ownBlock ∧ some k_ ≠ (.slice Ao24 t171.length co24 : Value).ownBlock ∧ some k_ ≠ (v175 : Value).ownBlock ∧ some k_ ≠ (.slice Ao43 t179.length co43 : Value).ownBlock) (Kd.R_keptB (HO185.out) hkp (fun k_ hk_ hs_ => (hk_.2.2.1) hs_)) (fun k_ hk_ => ⟨hk_.1.1, hk_.1.2.1, hk_.1.2.2.1, hk_.1.2.2.2.1, hk_.1.2.2.2.2⟩)); have n6_ := Aside0.mk (hb); clear HO_10; clear HO_12; clear HO_13; clear HO_14; clear HO181; clear HO185; clear HB; have HO_10 := n0_; have HO_12 := n1_; have HO_13 := n2_; have HO_14 := n3_; have HO181 := n4_; have HO185 := n5_; have HB := n6_; clear n0_ n1_ n2_ n3_ n4_ n5_ n6_; (try clear hb); (try clear hkp); (try clear hy0)))
        (try simp only [Act.put, List.setIfInBounds_toArray, List.set_cons_zero, List.set_cons_succ])
        go_cut [90] (fun v90 wc => ∃ (kq : Nat) (x90_40 : Bool), v90 = .bool x90_40 ∧ Aside0 (laws_FnExactApplyReset.j1 kq l0 a1 a2 l3 t164 t165 t174 x90_40 = some r) ∧ Aside0 (kq ≤ kj14) ∧ Aside0 (Kd.R Kd.string 9 wc w.heap.size (fun k_ => some k_ ≠ (v175 : Value).ownBlock) v166 t164) ∧ Aside0 (Kd.R Kd.string 9 wc w.heap.size (fun k_ => some k_ ≠ (v166 : Value).ownBlock) v175 t174) ∧ Aside0 (Below w.heap.size w wc))
        case first =>
         have H := HC41.out
         clear HC41
         by_cases c48 : t189 < 0
         ·rw [if_pos c48] at H
          have c48b0 : decide (t189 < 0) = true := decide_eq_true c48
          clear c48
          (first | rw [c48b0] | (simp only [i64_w, i32_w]; rw [c48b0]) | skip)
          have H' := Aside0.mk H
          clear H
          go_wp2
          go_meet
          case rel => exact ⟨_, (true), zp5, H', ⟨by have := HJ14.out; first | omega | exact Nat.le_refl _⟩, ⟨by (with_reducible repeat (first | apply Kd.R_alloc | apply Kd.R_drewN | apply Kd.R_drew)); exact Kd.R_mono HO_10.out (fun _ hk => hk.2.2.1)⟩, ⟨by (with_reducible repeat (first | apply Kd.R_alloc | apply Kd.R_drewN | apply Kd.R_drew)); exact Kd.R_mono HO_14.out (fun _ hk => hk.1)⟩, ⟨by repeat (first | (with_reducible first | exact HB.out | apply below_alloc | apply pw_below_drewN | apply below_drew1) | exact HB.out)⟩⟩
         ·rw [if_neg c48] at H
          have c48b0 : decide (t189 < 0) = false := decide_eq_false c48
          clear c48
          (first | rw [c48b0] | (simp only [i64_w, i32_w]; rw [c48b0]) | skip)
          replace H := Option.bind_eq_some_iff.mp H
          obtain ⟨t191, A490, H⟩ := H
          replace H : (if t191 = true then (laws_FnExactApplyReset.j1 kj14 l0 a1 a2 l3 t164 t165 t174 (t177 != t165)) else (laws_FnExactApplyReset.j1 kj14 l0 a1 a2 l3 t164 t165 t174 true)) = some r := H
          have A49 := Aside0.mk A490
          clear A490
          by_cases c50 : t191 = true
          ·subst c50
           have H1 : (laws_FnExactApplyReset.j1 kj14 l0 a1 a2 l3 t164 t165 t174 (t177 != t165)) = some r := by rw [if_pos rfl] at H; exact H
           clear H
           have H := H1
           clear H1
           have H' := Aside0.mk H
           clear H
           obtain ⟨Ao51, co51, eo51⟩ := Kd.R_slice HO_14.out
           subst eo51
           obtain ⟨Ao52, co52, eo52⟩ := Kd.R_slice HO_10.out
           subst eo52
           go_wp2_with (first | (go_at_call 18; (with_reducible refine (laws_eqStringS.calls kj14 _ _ t174 _ _ t164 true _ ?side1 ?side2 ?side3 ?side4 A49.out).mono ?_); (case side1 => repeat (first | exact (Kd.R_reads' HO_14.out).2.2 | (with_reducible refine Kd.C_alloc ?_ _) | (with_reducible refine Kd.C_drewN ?_ _) | (with_reducible refine Kd.C_drew ?_))); (case side2 => exact (Kd.R_reads' HO_14.out).2.1); (case side3 => repeat (first | exact (Kd.R_reads' HO_10.out).2.2 | (with_reducible refine Kd.C_alloc ?_ _) | (with_reducible refine Kd.C_drewN ?_ _) | (with_reducible refine Kd.C_drew ?_))); (case side4 => exact (Kd.R_reads' HO_10.out).2.1); rintro e w' ⟨rfl, ⟨nd, rfl⟩⟩))
           go_meet
           case rel => exact ⟨_, ((t177 != t165)), zp5, H', ⟨by have := HJ14.out; first | omega | exact Nat.le_refl _⟩, ⟨by (with_reducible repeat (first | apply Kd.R_alloc | apply Kd.R_drewN | apply Kd.R_drew)); exact Kd.R_mono HO_10.out (fun _ hk => hk.2.2.1)⟩, ⟨by (with_reducible repeat (first | apply Kd.R_alloc | apply Kd.R_drewN | apply Kd.R_drew)); exact Kd.R_mono HO_14.out (fun _ hk => hk.1)⟩, ⟨by repeat (first | (with_reducible first | exact HB.out | apply below_alloc | apply pw_below_drewN | apply below_drew1) | exact HB.out)⟩⟩
          ·replace c50 := Bool.eq_false_iff.mpr c50
           subst c50
           have H1 : (laws_FnExactApplyReset.j1 kj14 l0 a1 a2 l3 t164 t165 t174 true) = some r := by rw [if_neg (show ¬ (false = true) by decide)] at H; exact H
           clear H
           have H := H1
           clear H1
           have H' := Aside0.mk H
           clear H
           obtain ⟨Ao53, co53, eo53⟩ := Kd.R_slice HO_14.out
           subst eo53
           obtain ⟨Ao54, co54, eo54⟩ := Kd.R_slice HO_10.out
           subst eo54
           go_wp2_with (first | (go_at_call 18; (with_reducible refine (laws_eqStringS.calls kj14 _ _ t174 _ _ t164 false _ ?side1 ?side2 ?side3 ?side4 A49.out).mono ?_); (case side1 => repeat (first | exact (Kd.R_reads' HO_14.out).2.2 | (with_reducible refine Kd.C_alloc ?_ _) | (with_reducible refine Kd.C_drewN ?_ _) | (with_reducible refine Kd.C_drew ?_))); (case side2 => exact (Kd.R_reads' HO_14.out).2.1); (case side3 => repeat (first | exact (Kd.R_reads' HO_10.out).2.2 | (with_reducible refine Kd.C_alloc ?_ _) | (with_reducible refine Kd.C_drewN ?_ _) | (with_reducible refine Kd.C_drew ?_))); (case side4 => exact (Kd.R_reads' HO_10.out).2.1); rintro e w' ⟨rfl, ⟨nd, rfl⟩⟩))
           go_meet
           case rel => exact ⟨_, (true), zp5, H', ⟨by have := HJ14.out; first | omega | exact Nat.le_refl _⟩, ⟨by (with_reducible repeat (first | apply Kd.R_alloc | apply Kd.R_drewN | apply Kd.R_drew)); exact Kd.R_mono HO_10.out (fun _ hk => hk.2.2.1)⟩, ⟨by (with_reducible repeat (first | apply Kd.R_alloc | apply Kd.R_drewN | apply Kd.R_drew)); exact Kd.R_mono HO_14.out (fun _ hk => hk.1)⟩, ⟨by repeat (first | (with_reducible first | exact HB.out | apply below_alloc | apply pw_below_drewN | apply below_drew1) | exact HB.out)⟩⟩
        case rest =>
         clear HC41
         try clear c1
         try clear c2
         try clear p2
         try clear c3
         try clear c4
         try clear c5
         try clear c6
         try clear c6b0
         try clear c8
         try clear c8b0
         try clear c14
         try clear c16
         try clear c18
         try clear c19
         try clear c20
         try clear c21
         try clear c27
         try clear c32
         try clear c35
         try clear c38
         try clear c48
         try clear c48b0
         try clear c50
         try clear p2
         obtain ⟨kq, x90_40, rfl, HA, HJ40, HO_10, HO_14, HB⟩ := hcut
         cases kq with
         | zero => exact absurd HA.out (by simp [laws_FnExactApplyReset.j1])
         | succ kj40 =>
          have H := HA.out
          clear HA
          simp only [laws_FnExactApplyReset.j1] at H
          by_cases c55 : x90_40 = true
          ·subst c55
           have H1 : (some false) = some r := by rw [if_pos rfl] at H; exact H
           clear H
           have H := H1
           clear H1
           obtain rfl := Option.some.inj H
           go_wp2
           go_ret
           exact ⟨by first | rfl | (simp [errW_none, errW_some] <;> rfl) | (simp [*, errW_none, errW_some] <;> rfl), by repeat (first | (with_reducible first | exact HB.out | apply below_alloc | apply pw_below_drewN | apply below_drew1) | exact HB.out)⟩
          ·replace c55 := Bool.eq_false_iff.mpr c55
           subst c55
           have H1 : ((laws_markStringS.f kj40 t174 1).bind fun bt192 => ((laws_heldStringS.f kj40 bt192.2 1).bind fun t194 => (if t194 < 0 then (some false) else (if t194 = bt192.1 then ((laws_toStringS.f kj40 l0).bind fun t195 => ((laws_toStringS.f kj40 l3).bind fun t198 => ((impl_ApplyReset.f kj40 t195 a1 a2 t198).bind fun bt201 => ((laws_eqStringS.f kj40 bt201.1 t164).bind fun t205 => (if t205 = true then (laws_FnExactApplyReset.j2 kj40 bt192.2 bt192.1 (bt201.2 != t165)) else (laws_FnExactApplyReset.j2 kj40 bt192.2 bt192.1 true)))))) else (some false))))) = some r := by rw [if_neg (show ¬ (false = true) by decide)] at H; exact H
           clear H
           have H := H1
           clear H1
           replace H := Option.bind_eq_some_iff.mp H
           obtain ⟨⟨t192, t193⟩, A560, H⟩ := H
           replace H : ((laws_heldStringS.f kj40 t193 1).bind fun t194 => (if t194 < 0 then (some false) else (if t194 = t192 then ((laws_toStringS.f kj40 l0).bind fun t195 => ((laws_toStringS.f kj40 l3).bind fun t198 => ((impl_ApplyReset.f kj40 t195 a1 a2 t198).bind fun bt201 => ((laws_eqStringS.f kj40 bt201.1 t164).bind fun t205 => (if t205 = true then (laws_FnExactApplyReset.j2 kj40 t193 t192 (bt201.2 != t165)) else (laws_FnExactApplyReset.j2 kj40 t193 t192 true)))))) else (some false)))) = some r := H
           have A56 := Aside0.mk A560
           clear A560
           replace H := Option.bind_eq_some_iff.mp H
           obtain ⟨t194, A570, H⟩ := H
           replace H : (if t194 < 0 then (some false) else (if t194 = t192 then ((laws_toStringS.f kj40 l0).bind fun t195 => ((laws_toStringS.f kj40 l3).bind fun t198 => ((impl_ApplyReset.f kj40 t195 a1 a2 t198).bind fun bt201 => ((laws_eqStringS.f kj40 bt201.1 t164).bind fun t205 => (if t205 = true then (laws_FnExactApplyReset.j2 kj40 t193 t192 (bt201.2 != t165)) else (laws_FnExactApplyReset.j2 kj40 t193 t192 true)))))) else (some false))) = some r := H
           have A57 := Aside0.mk A570
           clear A570
           by_cases c58 : t194 < 0
           ·rw [if_pos c58] at H
            have c58b0 : decide (t194 < 0) = true := decide_eq_true c58
            clear c58
            obtain rfl := Option.some.inj H
            obtain ⟨Ao59, co59, eo59⟩ := Kd.R_slice HO_14.out
            subst eo59
            go_wp2_with (first | ((with_reducible refine gate_callee (f := 21) rfl ?_); refine goesL_ (some 93) rfl rfl Try.func21 (by kernel_rfl) rfl #[.slice Ao59 t174.length co59, .int .i64 1] rfl zp1 ?_; (with_reducible refine (laws_markStringS.calls kj40 (fun k_ => some k_ = (.slice Ao59 t174.length co59 : Value).ownBlock) (.slice Ao59 t174.length co59) t174 1 t192 t193 w _ ?side1 ?side2 A56.out).mono ?_); (case side1 => repeat (first | (with_reducible first | exact HB.out | apply below_alloc | apply pw_below_drewN | apply below_drew1) | exact HB.out)); (case side2 => exact Kd.R_tight rfl HO_14.out); rintro e w60 ⟨rfl, hy0, hb, hkp⟩; refine ⟨_, rfl, ?_⟩; have n0_ := Aside0.mk (Kd.R_mono (ok' := fun k_ => some k_ ≠ (.slice Ao59 t174.length co59 : Value).ownBlock) (Kd.R_keptB (HO_10.out) hkp (fun k_ hk_ hs_ => (hk_) hs_)) (fun k_ hk_ => hk_.1)); have n1_ := Aside0.mk (Kd.R_reok rfl hy0 (fun k_ e_ => HO_14.out.1 k_ e_)); have n2_ := Aside0.mk (hb); clear HO_10; clear HO_14; clear HB; have HO_10 := n0_; have HO_14 := n1_; have HB := n2_; clear n0_ n1_ n2_; (try clear hb); (try clear hkp); (try clear hy0)) | ((with_reducible refine gate_callee (f := 22) rfl ?_); refine goesL_ (some 96) rfl rfl Try.func22 (by kernel_rfl) rfl #[.slice Ao59 t193.length co59, .int .i64 1] rfl zp11 ?_; (with_reducible refine (laws_heldStringS.calls kj40 _ _ t193 1 t194 _ ?side1 ?side2 A57.out).mono ?_); (case side1 => repeat (first | exact (Kd.R_reads' HO_14.out).2.2 | (with_reducible refine Kd.C_alloc ?_ _) | (with_reducible refine Kd.C_drewN ?_ _) | (with_reducible refine Kd.C_drew ?_))); (case side2 => rw [show t193.length = t174.length from (Kd.R_reads' HO_14.out).1.symm]; exact (Kd.R_reads' HO_14.out).2.1); rintro e w61 ⟨rfl, hb⟩; refine ⟨_, rfl, ?_⟩; have n0_ := Aside0.mk (Kd.R_below zp4 hb); have n1_ := Aside0.mk (Kd.R_below zp2 hb); have n2_ := Aside0.mk (below_step zp0 hb); clear HO_10; clear HO_14; clear HB; have HO_10 := n0_; have HO_14 := n1_; have HB := n2_; clear n0_ n1_ n2_; (try clear hb); (try clear hb2); (try clear hk); (try clear hi)))
            go_ret
            exact ⟨by first | rfl | (simp [errW_none, errW_some] <;> rfl) | (simp [*, errW_none, errW_some] <;> rfl), by repeat (first | (with_reducible first | exact HB.out | apply below_alloc | apply pw_below_drewN | apply below_drew1) | exact HB.out)⟩
           ·rw [if_neg c58] at H
            have c58b0 : decide (t194 < 0) = false := decide_eq_false c58
            clear c58
            by_cases c62 : t194 = t192
            ·rw [if_pos c62] at H
             have c62b0 : (t194 == t192) = true := beq_iff_eq.mpr c62
             have c62b1 : (t194 != t192) = false := bne_eq_false_iff_eq.mpr c62
             clear c62
             replace H := Option.bind_eq_some_iff.mp H
             obtain ⟨t195, A630, H⟩ := H
             replace H : ((laws_toStringS.f kj40 l3).bind fun t198 => ((impl_ApplyReset.f kj40 t195 a1 a2 t198).bind fun bt201 => ((laws_eqStringS.f kj40 bt201.1 t164).bind fun t205 => (if t205 = true then (laws_FnExactApplyReset.j2 kj40 t193 t192 (bt201.2 != t165)) else (laws_FnExactApplyReset.j2 kj40 t193 t192 true))))) = some r := H
             have A63 := Aside0.mk A630
             clear A630
             replace H := Option.bind_eq_some_iff.mp H
             obtain ⟨t198, A640, H⟩ := H
             replace H : ((impl_ApplyReset.f kj40 t195 a1 a2 t198).bind fun bt201 => ((laws_eqStringS.f kj40 bt201.1 t164).bind fun t205 => (if t205 = true then (laws_FnExactApplyReset.j2 kj40 t193 t192 (bt201.2 != t165)) else (laws_FnExactApplyReset.j2 kj40 t193 t192 true)))) = some r := H
             have A64 := Aside0.mk A640
             clear A640
             replace H := Option.bind_eq_some_iff.mp H
             obtain ⟨⟨t201, t204⟩, A650, H⟩ := H
             replace H : ((laws_eqStringS.f kj40 t201 t164).bind fun t205 => (if t205 = true then (laws_FnExactApplyReset.j2 kj40 t193 t192 (t204 != t165)) else (laws_FnExactApplyReset.j2 kj40 t193 t192 true))) = some r := H
             have A65 := Aside0.mk A650
             clear A650
             have HC66 := Aside0.mk H
             clear H
             obtain ⟨Ao67, co67, eo67⟩ := Kd.R_slice HO_14.out
             subst eo67
             go_upto_region 32 with (first | ((with_reducible refine gate_callee (f := 21) rfl ?_); refine goesL_ (some 93) rfl rfl Try.func21 (by kernel_rfl) rfl #[.slice Ao67 t174.length co67, .int .i64 1] rfl zp1 ?_; (with_reducible refine (laws_markStringS.calls kj40 (fun k_ => some k_ = (.slice Ao67 t174.length co67 : Value).ownBlock) (.slice Ao67 t174.length co67) t174 1 t192 t193 w _ ?side1 ?side2 A56.out).mono ?_); (case side1 => repeat (first | (with_reducible first | exact HB.out | apply below_alloc | apply pw_below_drewN | apply below_drew1) | exact HB.out)); (case side2 => exact Kd.R_tight rfl HO_14.out); rintro e w68 ⟨rfl, hy0, hb, hkp⟩; refine ⟨_, rfl, ?_⟩; have n0_ := Aside0.mk (Kd.R_mono (ok' := fun k_ => some k_ ≠ (.slice Ao67 t174.length co67 : Value).ownBlock) (Kd.R_keptB (HO_10.out) hkp (fun k_ hk_ hs_ => (hk_) hs_)) (fun k_ hk_ => hk_.1)); have n1_ := Aside0.mk (Kd.R_reok rfl hy0 (fun k_ e_ => HO_14.out.1 k_ e_)); have n2_ := Aside0.mk (hb); clear HO_10; clear HO_14; clear HB; have HO_10 := n0_; have HO_14 := n1_; have HB := n2_; clear n0_ n1_ n2_; (try clear hb); (try clear hkp); (try clear hy0)) | ((with_reducible refine gate_callee (f := 22) rfl ?_); refine goesL_ (some 96) rfl rfl Try.func22 (by kernel_rfl) rfl #[.slice Ao67 t193.length co67, .int .i64 1] rfl zp11 ?_; (with_reducible refine (laws_heldStringS.calls kj40 _ _ t193 1 t194 _ ?side1 ?side2 A57.out).mono ?_); (case side1 => repeat (first | exact (Kd.R_reads' HO_14.out).2.2 | (with_reducible refine Kd.C_alloc ?_ _) | (with_reducible refine Kd.C_drewN ?_ _) | (with_reducible refine Kd.C_drew ?_))); (case side2 => rw [show t193.length = t174.length from (Kd.R_reads' HO_14.out).1.symm]; exact (Kd.R_reads' HO_14.out).2.1); rintro e w69 ⟨rfl, hb⟩; refine ⟨_, rfl, ?_⟩; have n0_ := Aside0.mk (Kd.R_below zp4 hb); have n1_ := Aside0.mk (Kd.R_below zp2 hb); have n2_ := Aside0.mk (below_step zp0 hb); clear HO_10; clear HO_14; clear HB; have HO_10 := n0_; have HO_14 := n1_; have HB := n2_; clear n0_ n1_ n2_; (try clear hb); (try clear hb2); (try clear hk); (try clear hi)) | ((with_reducible refine gate_callee (f := 16) rfl ?_); refine goesL_ (some 104) rfl rfl Try.func16 (by kernel_rfl) rfl #[.slice A0 l0.length c0] rfl zp1 ?_; (with_reducible refine (laws_toStringS.calls kj40 _ _ l0 t195 _ ?side1 ?side2 A63.out).mono ?_); (case side1 => repeat (first | exact (Kd.C_below HR0.out HB.out) | (with_reducible refine Kd.C_alloc ?_ _) | (with_reducible refine Kd.C_drewN ?_ _) | (with_reducible refine Kd.C_drew ?_))); (case side2 => exact HC0.out); rintro e w70 ⟨v196, rfl, ho0, hb⟩; refine ⟨_, rfl, ?_⟩; have n0_ := Aside0.mk (Kd.R_elder' zp4 (Kd.R_base ho0) hb); have n1_ := Aside0.mk (Kd.R_elder' zp2 (Kd.R_base ho0) hb); have n2_ := Aside0.mk (Kd.R_lower (Kd.R_new' (Kd.R_new' ho0 (Kd.R_lt zp4)) (Kd.R_lt zp2)) (below_size zp0)); have n3_ := Aside0.mk (below_step zp0 hb); clear HO_10; clear HO_14; clear HB; have HO_10 := n0_; have HO_14 := n1_; have HO197 := n2_; have HB := n3_; clear n0_ n1_ n2_ n3_; (try clear hb); (try clear hb2); (try clear hk); (try clear hi); (try clear ho0)) | ((with_reducible refine gate_callee (f := 16) rfl ?_); refine goesL_ (some 108) rfl rfl Try.func16 (by kernel_rfl) rfl #[.slice A3 l3.length c3] rfl zp1 ?_; (with_reducible refine (laws_toStringS.calls kj40 _ _ l3 t198 _ ?side1 ?side2 A64.out).mono ?_); (case side1 => repeat (first | exact (Kd.C_below HR3.out HB.out) | (with_reducible refine Kd.C_alloc ?_ _) | (with_reducible refine Kd.C_drewN ?_ _) | (with_reducible refine Kd.C_drew ?_))); (case side2 => exact HC3.out); rintro e w71 ⟨v199, rfl, ho0, hb⟩; refine ⟨_, rfl, ?_⟩; have n0_ := Aside0.mk (Kd.R_elder' zp4 (Kd.R_base ho0) hb); have n1_ := Aside0.mk (Kd.R_elder' zp2 (Kd.R_base ho0) hb); have n2_ := Aside0.mk (Kd.R_elder' zp12 (Kd.R_base ho0) hb); have n3_ := Aside0.mk (Kd.R_lower (Kd.R_new' (Kd.R_new' (Kd.R_new' ho0 (Kd.R_lt zp4)) (Kd.R_lt zp2)) (Kd.R_lt zp12)) (below_size zp0)); have n4_ := Aside0.mk (below_step zp0 hb); clear HO_10; clear HO_14; clear HO197; clear HB; have HO_10 := n0_; have HO_14 := n1_; have HO197 := n2_; have HO200 := n3_; have HB := n4_; clear n0_ n1_ n2_ n3_ n4_; (try clear hb); (try clear hb2); (try clear hk); (try clear hi); (try clear ho0); obtain ⟨Ao72, co72, eo72⟩ := Kd.R_slice HO197.out; subst eo72; obtain ⟨Ao73, co73, eo73⟩ := Kd.R_slice HO200.out; subst eo73) | ((with_reducible refine gate_callee (f := 20) rfl ?_); refine goesL_ (some 109) rfl rfl Try.func20 (by kernel_rfl) rfl #[.slice Ao72 t195.length co72, .int .i64 a1, .int .i64 a2, .slice Ao73 t198.length co73] rfl zp1 ?_; (with_reducible refine (impl_ApplyReset.calls kj40 (fun k_ => some k_ = (.slice Ao72 t195.length co72 : Value).ownBlock) _ _ t195 a1 a2 (fun k_ => some k_ = (.slice Ao73 t198.length co73 : Value).ownBlock) _ _ t198 t201 t204 _ ?side1 ?side2 A65.out).mono ?_); (case side1 => exact Kd.R_V (Kd.R_tight rfl (HO197.out))); (case side2 => exact Kd.R_V (Kd.R_tight rfl (HO200.out))); rintro e w74 ⟨v202, rfl, ho0, hb⟩; refine ⟨_, rfl, ?_⟩; have n0_ := Aside0.mk (Kd.R_elder' zp4 (Kd.R_base ho0) hb); have n1_ := Aside0.mk (Kd.R_elder' zp2 (Kd.R_base ho0) hb); have n2_ := Aside0.mk (Kd.R_elder' zp12 (Kd.R_base ho0) hb); have n3_ := Aside0.mk (Kd.R_elder' (by (with_reducible repeat (first | apply Kd.R_alloc | apply Kd.R_drewN | apply Kd.R_drew)); exact HO200.out) (Kd.R_base ho0) hb); have n4_ := Aside0.mk (Kd.R_lower (Kd.R_new' (Kd.R_new' (Kd.R_new' (Kd.R_new' (Kd.R_mono (ok' := fun k_ => True) ho0 (fun _ hk_ => trivial)) (Kd.R_lt zp4)) (Kd.R_lt zp2)) (Kd.R_lt zp12)) (Kd.R_lt (by (with_reducible repeat (first | apply Kd.R_alloc | apply Kd.R_drewN | apply Kd.R_drew)); exact HO200.out))) (below_size zp0)); have n5_ := Aside0.mk (below_step zp0 hb); clear HO_10; clear HO_14; clear HO197; clear HO200; clear HB; have HO_10 := n0_; have HO_14 := n1_; have HO197 := n2_; have HO200 := n3_; have HO203 := n4_; have HB := n5_; clear n0_ n1_ n2_ n3_ n4_ n5_; (try clear hb); (try clear hb2); (try clear hk); (try clear hi); (try clear ho0)))
             (try simp only [Act.put, List.setIfInBounds_toArray, List.set_cons_zero, List.set_cons_succ])
             go_cut [120] (fun v120 wc => ∃ (kq : Nat) (x120_65 : Bool), v120 = .bool x120_65 ∧ Aside0 (laws_FnExactApplyReset.j2 kq t193 t192 x120_65 = some r) ∧ Aside0 (kq ≤ kj40) ∧ Aside0 (Kd.R Kd.string 9 wc w.heap.size (fun _ => True) (.slice Ao67 t174.length co67) t193) ∧ Aside0 (Below w.heap.size w wc))
             case first =>
              have H := HC66.out
              clear HC66
              replace H := Option.bind_eq_some_iff.mp H
              obtain ⟨t205, A750, H⟩ := H
              replace H : (if t205 = true then (laws_FnExactApplyReset.j2 kj40 t193 t192 (t204 != t165)) else (laws_FnExactApplyReset.j2 kj40 t193 t192 true)) = some r := H
              have A75 := Aside0.mk A750
              clear A750
              by_cases c76 : t205 = true
              ·subst c76
               have H1 : (laws_FnExactApplyReset.j2 kj40 t193 t192 (t204 != t165)) = some r := by rw [if_pos rfl] at H; exact H
               clear H
               have H := H1
               clear H1
               have H' := Aside0.mk H
               clear H
               obtain ⟨Ao77, co77, eo77⟩ := Kd.R_slice HO203.out
               subst eo77
               obtain ⟨Ao78, co78, eo78⟩ := Kd.R_slice HO_10.out
               subst eo78
               go_wp2_with (first | ((with_reducible refine gate_callee (f := 18) rfl ?_); refine goesL_ (some 114) rfl rfl Try.func18 (by kernel_rfl) rfl #[.slice Ao77 t201.length co77, .slice Ao78 t164.length co78] rfl zp1 ?_; (with_reducible refine (laws_eqStringS.calls kj40 _ _ t201 _ _ t164 true _ ?side1 ?side2 ?side3 ?side4 A75.out).mono ?_); (case side1 => repeat (first | exact (Kd.R_reads' HO203.out).2.2 | (with_reducible refine Kd.C_alloc ?_ _) | (with_reducible refine Kd.C_drewN ?_ _) | (with_reducible refine Kd.C_drew ?_))); (case side2 => exact (Kd.R_reads' HO203.out).2.1); (case side3 => repeat (first | exact (Kd.R_reads' HO_10.out).2.2 | (with_reducible refine Kd.C_alloc ?_ _) | (with_reducible refine Kd.C_drewN ?_ _) | (with_reducible refine Kd.C_drew ?_))); (case side4 => exact (Kd.R_reads' HO_10.out).2.1); rintro e w' ⟨rfl, ⟨nd, rfl⟩⟩; refine ⟨_, rfl, ?_⟩))
               go_meet
               case rel => exact ⟨_, ((t204 != t165)), zp5, H', ⟨by have := HJ14.out; have := HJ40.out; first | omega | exact Nat.le_refl _⟩, ⟨by (with_reducible repeat (first | apply Kd.R_alloc | apply Kd.R_drewN | apply Kd.R_drew)); exact Kd.R_mono HO_14.out (fun _ hk => trivial)⟩, ⟨by repeat (first | (with_reducible first | exact HB.out | apply below_alloc | apply pw_below_drewN | apply below_drew1) | exact HB.out)⟩⟩
              ·replace c76 := Bool.eq_false_iff.mpr c76
               subst c76
               have H1 : (laws_FnExactApplyReset.j2 kj40 t193 t192 true) = some r := by rw [if_neg (show ¬ (false = true) by decide)] at H; exact H
               clear H
               have H := H1
               clear H1
               have H' := Aside0.mk H
               clear H
               obtain ⟨Ao79, co79, eo79⟩ := Kd.R_slice HO203.out
               subst eo79
               obtain ⟨Ao80, co80, eo80⟩ := Kd.R_slice HO_10.out
               subst eo80
               go_wp2_with (first | ((with_reducible refine gate_callee (f := 18) rfl ?_); refine goesL_ (some 114) rfl rfl Try.func18 (by kernel_rfl) rfl #[.slice Ao79 t201.length co79, .slice Ao80 t164.length co80] rfl zp1 ?_; (with_reducible refine (laws_eqStringS.calls kj40 _ _ t201 _ _ t164 false _ ?side1 ?side2 ?side3 ?side4 A75.out).mono ?_); (case side1 => repeat (first | exact (Kd.R_reads' HO203.out).2.2 | (with_reducible refine Kd.C_alloc ?_ _) | (with_reducible refine Kd.C_drewN ?_ _) | (with_reducible refine Kd.C_drew ?_))); (case side2 => exact (Kd.R_reads' HO203.out).2.1); (case side3 => repeat (first | exact (Kd.R_reads' HO_10.out).2.2 | (with_reducible refine Kd.C_alloc ?_ _) | (with_reducible refine Kd.C_drewN ?_ _) | (with_reducible refine Kd.C_drew ?_))); (case side4 => exact (Kd.R_reads' HO_10.out).2.1); rintro e w' ⟨rfl, ⟨nd, rfl⟩⟩; refine ⟨_, rfl, ?_⟩))
               go_meet
               case rel => exact ⟨_, (true), zp5, H', ⟨by have := HJ14.out; have := HJ40.out; first | omega | exact Nat.le_refl _⟩, ⟨by (with_reducible repeat (first | apply Kd.R_alloc | apply Kd.R_drewN | apply Kd.R_drew)); exact Kd.R_mono HO_14.out (fun _ hk => trivial)⟩, ⟨by repeat (first | (with_reducible first | exact HB.out | apply below_alloc | apply pw_below_drewN | apply below_drew1) | exact HB.out)⟩⟩
             case rest =>
              clear HC66
              try clear c1
              try clear c2
              try clear p2
              try clear c3
              try clear c4
              try clear c5
              try clear c6
              try clear c6b0
              try clear c7
              try clear c8
              try clear c8b0
              try clear c14
              try clear c16
              try clear c18
              try clear c19
              try clear c20
              try clear c21
              try clear c22
              try clear c27
              try clear c32
              try clear c35
              try clear c38
              try clear c48
              try clear c48b0
              try clear c50
              try clear c55
              try clear c58
              try clear c58b0
              try clear c62
              try clear c62b0
              try clear c62b1
              try clear c76
              try clear p2
              obtain ⟨kq, x120_65, rfl, HA, HJ65, HO_14, HB⟩ := hcut
              have hl14_65 := (Kd.R_reads' HO_14.out).1
              rw [hl14_65] at HO_14
              (try simp only [hl14_65])
              cases kq with
              | zero => exact absurd HA.out (by simp [laws_FnExactApplyReset.j2])
              | succ kj65 =>
               have H := HA.out
               clear HA
               simp only [laws_FnExactApplyReset.j2] at H
               by_cases c81 : x120_65 = true
               ·subst c81
                have H1 : (some false) = some r := by rw [if_pos rfl] at H; exact H
                clear H
                have H := H1
                clear H1
                obtain rfl := Option.some.inj H
                go_wp2
                go_ret
                exact ⟨by first | rfl | (simp [errW_none, errW_some] <;> rfl) | (simp [*, errW_none, errW_some] <;> rfl), by repeat (first | (with_reducible first | exact HB.out | apply below_alloc | apply pw_below_drewN | apply below_drew1) | exact HB.out)⟩
               ·replace c81 := Bool.eq_false_iff.mpr c81
                subst c81
                have H1 : ((laws_heldStringS.f kj65 t193 1).bind fun t206 => (if t206 < 0 then (some false) else (if t206 = t192 then (some true) else (some false)))) = some r := by rw [if_neg (show ¬ (false = true) by decide)] at H; exact H
                clear H
                have H := H1
                clear H1
                replace H := Option.bind_eq_some_iff.mp H
                obtain ⟨t206, A820, H⟩ := H
                replace H : (if t206 < 0 then (some false) else (if t206 = t192 then (some true) else (some false))) = some r := H
                have A82 := Aside0.mk A820
                clear A820
                by_cases c83 : t206 < 0
                ·rw [if_pos c83] at H
                 have c83b0 : decide (t206 < 0) = true := decide_eq_true c83
                 clear c83
                 obtain rfl := Option.some.inj H
                 go_wp2_with (first | ((with_reducible refine gate_callee (f := 22) rfl ?_); refine goesL_ (some 123) rfl rfl Try.func22 (by kernel_rfl) rfl #[.slice Ao67 t193.length co67, .int .i64 1] rfl zp1 ?_; (with_reducible refine (laws_heldStringS.calls kj65 _ _ t193 1 t206 _ ?side1 ?side2 A82.out).mono ?_); (case side1 => repeat (first | exact (Kd.R_reads' HO_14.out).2.2 | (with_reducible refine Kd.C_alloc ?_ _) | (with_reducible refine Kd.C_drewN ?_ _) | (with_reducible refine Kd.C_drew ?_))); (case side2 => exact (Kd.R_reads' HO_14.out).2.1); rintro e w84 ⟨rfl, hb⟩; refine ⟨_, rfl, ?_⟩; have n0_ := Aside0.mk (Kd.R_below zp2 hb); have n1_ := Aside0.mk (below_step zp0 hb); clear HO_14; clear HB; have HO_14 := n0_; have HB := n1_; clear n0_ n1_; (try clear hb); (try clear hb2); (try clear hk); (try clear hi)))
                 go_ret
                 exact ⟨by first | rfl | (simp [errW_none, errW_some] <;> rfl) | (simp [*, errW_none, errW_some] <;> rfl), by repeat (first | (with_reducible first | exact HB.out | apply below_alloc | apply pw_below_drewN | apply below_drew1) | exact HB.out)⟩
                ·rw [if_neg c83] at H
                 have c83b0 : decide (t206 < 0) = false := decide_eq_false c83
                 clear c83
                 by_cases c85 : t206 = t192
                 ·rw [if_pos c85] at H
                  have c85b0 : (t206 == t192) = true := beq_iff_eq.mpr c85
                  have c85b1 : (t206 != t192) = false := bne_eq_false_iff_eq.mpr c85
                  clear c85
                  obtain rfl := Option.some.inj H
                  go_wp2_with (first | ((with_reducible refine gate_callee (f := 22) rfl ?_); refine goesL_ (some 123) rfl rfl Try.func22 (by kernel_rfl) rfl #[.slice Ao67 t193.length co67, .int .i64 1] rfl zp1 ?_; (with_reducible refine (laws_heldStringS.calls kj65 _ _ t193 1 t206 _ ?side1 ?side2 A82.out).mono ?_); (case side1 => repeat (first | exact (Kd.R_reads' HO_14.out).2.2 | (with_reducible refine Kd.C_alloc ?_ _) | (with_reducible refine Kd.C_drewN ?_ _) | (with_reducible refine Kd.C_drew ?_))); (case side2 => exact (Kd.R_reads' HO_14.out).2.1); rintro e w86 ⟨rfl, hb⟩; refine ⟨_, rfl, ?_⟩; have n0_ := Aside0.mk (Kd.R_below zp2 hb); have n1_ := Aside0.mk (below_step zp0 hb); clear HO_14; clear HB; have HO_14 := n0_; have HB := n1_; clear n0_ n1_; (try clear hb); (try clear hb2); (try clear hk); (try clear hi)))
                  go_ret
                  exact ⟨by first | rfl | (simp [errW_none, errW_some] <;> rfl) | (simp [*, errW_none, errW_some] <;> rfl), by repeat (first | (with_reducible first | exact HB.out | apply below_alloc | apply pw_below_drewN | apply below_drew1) | exact HB.out)⟩
                 ·rw [if_neg c85] at H
                  have c85b0 : (t206 == t192) = false := beq_eq_false_iff_ne.mpr c85
                  have c85b1 : (t206 != t192) = true := bne_iff_ne.mpr c85
                  obtain rfl := Option.some.inj H
                  go_wp2_with (first | ((with_reducible refine gate_callee (f := 22) rfl ?_); refine goesL_ (some 123) rfl rfl Try.func22 (by kernel_rfl) rfl #[.slice Ao67 t193.length co67, .int .i64 1] rfl zp1 ?_; (with_reducible refine (laws_heldStringS.calls kj65 _ _ t193 1 t206 _ ?side1 ?side2 A82.out).mono ?_); (case side1 => repeat (first | exact (Kd.R_reads' HO_14.out).2.2 | (with_reducible refine Kd.C_alloc ?_ _) | (with_reducible refine Kd.C_drewN ?_ _) | (with_reducible refine Kd.C_drew ?_))); (case side2 => exact (Kd.R_reads' HO_14.out).2.1); rintro e w87 ⟨rfl, hb⟩; refine ⟨_, rfl, ?_⟩; have n0_ := Aside0.mk (Kd.R_below zp2 hb); have n1_ := Aside0.mk (below_step zp0 hb); clear HO_14; clear HB; have HO_14 := n0_; have HB := n1_; clear n0_ n1_; (try clear hb); (try clear hb2); (try clear hk); (try clear hi)))
                  go_ret
                  exact ⟨by first | rfl | (simp [errW_none, errW_some] <;> rfl) | (simp [*, errW_none, errW_some] <;> rfl), by repeat (first | (with_reducible first | exact HB.out | apply below_alloc | apply pw_below_drewN | apply below_drew1) | exact HB.out)⟩
            ·rw [if_neg c62] at H
             have c62b0 : (t194 == t192) = false := beq_eq_false_iff_ne.mpr c62
             have c62b1 : (t194 != t192) = true := bne_iff_ne.mpr c62
             obtain rfl := Option.some.inj H
             obtain ⟨Ao88, co88, eo88⟩ := Kd.R_slice HO_14.out
             subst eo88
             go_wp2_with (first | ((with_reducible refine gate_callee (f := 21) rfl ?_); refine goesL_ (some 93) rfl rfl Try.func21 (by kernel_rfl) rfl #[.slice Ao88 t174.length co88, .int .i64 1] rfl zp1 ?_; (with_reducible refine (laws_markStringS.calls kj40 (fun k_ => some k_ = (.slice Ao88 t174.length co88 : Value).ownBlock) (.slice Ao88 t174.length co88) t174 1 t192 t193 w _ ?side1 ?side2 A56.out).mono ?_); (case side1 => repeat (first | (with_reducible first | exact HB.out | apply below_alloc | apply pw_below_drewN | apply below_drew1) | exact HB.out)); (case side2 => exact Kd.R_tight rfl HO_14.out); rintro e w89 ⟨rfl, hy0, hb, hkp⟩; refine ⟨_, rfl, ?_⟩; have n0_ := Aside0.mk (Kd.R_mono (ok' := fun k_ => some k_ ≠ (.slice Ao88 t174.length co88 : Value).ownBlock) (Kd.R_keptB (HO_10.out) hkp (fun k_ hk_ hs_ => (hk_) hs_)) (fun k_ hk_ => hk_.1)); have n1_ := Aside0.mk (Kd.R_reok rfl hy0 (fun k_ e_ => HO_14.out.1 k_ e_)); have n2_ := Aside0.mk (hb); clear HO_10; clear HO_14; clear HB; have HO_10 := n0_; have HO_14 := n1_; have HB := n2_; clear n0_ n1_ n2_; (try clear hb); (try clear hkp); (try clear hy0)) | ((with_reducible refine gate_callee (f := 22) rfl ?_); refine goesL_ (some 96) rfl rfl Try.func22 (by kernel_rfl) rfl #[.slice Ao88 t193.length co88, .int .i64 1] rfl zp11 ?_; (with_reducible refine (laws_heldStringS.calls kj40 _ _ t193 1 t194 _ ?side1 ?side2 A57.out).mono ?_); (case side1 => repeat (first | exact (Kd.R_reads' HO_14.out).2.2 | (with_reducible refine Kd.C_alloc ?_ _) | (with_reducible refine Kd.C_drewN ?_ _) | (with_reducible refine Kd.C_drew ?_))); (case side2 => rw [show t193.length = t174.length from (Kd.R_reads' HO_14.out).1.symm]; exact (Kd.R_reads' HO_14.out).2.1); rintro e w90 ⟨rfl, hb⟩; refine ⟨_, rfl, ?_⟩; have n0_ := Aside0.mk (Kd.R_below zp4 hb); have n1_ := Aside0.mk (Kd.R_below zp2 hb); have n2_ := Aside0.mk (below_step zp0 hb); clear HO_10; clear HO_14; clear HB; have HO_10 := n0_; have HO_14 := n1_; have HB := n2_; clear n0_ n1_ n2_; (try clear hb); (try clear hb2); (try clear hk); (try clear hi)))
             go_ret
             exact ⟨by first | rfl | (simp [errW_none, errW_some] <;> rfl) | (simp [*, errW_none, errW_some] <;> rfl), by repeat (first | (with_reducible first | exact HB.out | apply below_alloc | apply pw_below_drewN | apply below_drew1) | exact HB.out)⟩
       ·replace c38 := Bool.eq_false_iff.mpr c38
        subst c38
        have H1 : (some false) = some r := by rw [if_neg (show ¬ (false = true) by decide)] at H; exact H
        clear H
        have H := H1
        clear H1
        obtain rfl := Option.some.inj H
        go_wp2_with (first | ((with_reducible refine gate_callee (f := 16) rfl ?_); refine goesL_ (some 64) rfl rfl Try.func16 (by kernel_rfl) rfl #[.slice A0 l0.length c0] rfl zp1 ?_; (with_reducible refine (laws_toStringS.calls kj14 _ _ l0 t179 _ ?side1 ?side2 A33.out).mono ?_); (case side1 => repeat (first | exact (Kd.C_below HR0.out HB.out) | (with_reducible refine Kd.C_alloc ?_ _) | (with_reducible refine Kd.C_drewN ?_ _) | (with_reducible refine Kd.C_drew ?_))); (case side2 => exact HC0.out); rintro e w91 ⟨v180, rfl, ho0, hb⟩; refine ⟨_, rfl, ?_⟩; have n0_ := Aside0.mk (Kd.R_elder' zp4 (Kd.R_base ho0) hb); have n1_ := Aside0.mk (Kd.R_elder' zp7 (Kd.R_base ho0) hb); have n2_ := Aside0.mk (Kd.R_elder' zp6 (Kd.R_base ho0) hb); have n3_ := Aside0.mk (Kd.R_elder' zp2 (Kd.R_base ho0) hb); have n4_ := Aside0.mk (Kd.R_lower (Kd.R_new' (Kd.R_new' (Kd.R_new' (Kd.R_new' ho0 (Kd.R_lt zp4)) (Kd.R_lt zp7)) (Kd.R_lt zp6)) (Kd.R_lt zp2)) (below_size zp0)); have n5_ := Aside0.mk (below_step zp0 hb); clear HO_10; clear HO_12; clear HO_13; clear HO_14; clear HB; have HO_10 := n0_; have HO_12 := n1_; have HO_13 := n2_; have HO_14 := n3_; have HO181 := n4_; have HB := n5_; clear n0_ n1_ n2_ n3_ n4_ n5_; (try clear hb); (try clear hb2); (try clear hk); (try clear hi); (try clear ho0); obtain ⟨Ao92, co92, eo92⟩ := Kd.R_slice HO181.out; subst eo92) | ((with_reducible refine gate_callee (f := 18) rfl ?_); refine goesL_ (some 65) rfl rfl Try.func18 (by kernel_rfl) rfl #[.slice Ao23 t168.length co23, .slice Ao92 t179.length co92] rfl zp1 ?_; (with_reducible refine (laws_eqStringS.calls kj14 _ _ t168 _ _ t179 true _ ?side1 ?side2 ?side3 ?side4 A34.out).mono ?_); (case side1 => repeat (first | exact (Kd.R_reads' HO_12.out).2.2 | (with_reducible refine Kd.C_alloc ?_ _) | (with_reducible refine Kd.C_drewN ?_ _) | (with_reducible refine Kd.C_drew ?_))); (case side2 => exact (Kd.R_reads' HO_12.out).2.1); (case side3 => repeat (first | exact (Kd.R_reads' HO181.out).2.2 | (with_reducible refine Kd.C_alloc ?_ _) | (with_reducible refine Kd.C_drewN ?_ _) | (with_reducible refine Kd.C_drew ?_))); (case side4 => exact (Kd.R_reads' HO181.out).2.1); rintro e w' ⟨rfl, ⟨nd, rfl⟩⟩; refine ⟨_, rfl, ?_⟩) | ((with_reducible refine gate_callee (f := 16) rfl ?_); refine goesL_ (some 69) rfl rfl Try.func16 (by kernel_rfl) rfl #[.slice A3 l3.length c3] rfl zp1 ?_; (with_reducible refine (laws_toStringS.calls kj14 _ _ l3 t183 _ ?side1 ?side2 A36.out).mono ?_); (case side1 => repeat (first | exact (Kd.C_below HR3.out zp0) | (with_reducible refine Kd.C_alloc ?_ _) | (with_reducible refine Kd.C_drewN ?_ _) | (with_reducible refine Kd.C_drew ?_))); (case side2 => exact HC3.out); rintro e w93 ⟨v184, rfl, ho0, hb⟩; refine ⟨_, rfl, ?_⟩; have n0_ := Aside0.mk (Kd.R_elder' zp4 (Kd.R_base ho0) hb); have n1_ := Aside0.mk (Kd.R_elder' zp7 (Kd.R_base ho0) hb); have n2_ := Aside0.mk (Kd.R_elder' zp6 (Kd.R_base ho0) hb); have n3_ := Aside0.mk (Kd.R_elder' zp2 (Kd.R_base ho0) hb); have n4_ := Aside0.mk (Kd.R_elder' zp13 (Kd.R_base ho0) hb); have n5_ := Aside0.mk (Kd.R_lower (Kd.R_new' (Kd.R_new' (Kd.R_new' (Kd.R_new' (Kd.R_new' ho0 (Kd.R_lt zp4)) (Kd.R_lt zp7)) (Kd.R_lt zp6)) (Kd.R_lt zp2)) (Kd.R_lt zp13)) (below_size zp0)); have n6_ := Aside0.mk (below_step zp0 hb); clear HO_10; clear HO_12; clear HO_13; clear HO_14; clear HO181; clear HB; have HO_10 := n0_; have HO_12 := n1_; have HO_13 := n2_; have HO_14 := n3_; have HO181 := n4_; have HO185 := n5_; have HB := n6_; clear n0_ n1_ n2_ n3_ n4_ n5_ n6_; (try clear hb); (try clear hb2); (try clear hk); (try clear hi); (try clear ho0); obtain ⟨Ao94, co94, eo94⟩ := Kd.R_slice HO185.out; subst eo94) | ((with_reducible refine gate_callee (f := 18) rfl ?_); refine goesL_ (some 70) rfl rfl Try.func18 (by kernel_rfl) rfl #[.slice Ao24 t171.length co24, .slice Ao94 t183.length co94] rfl zp1 ?_; (with_reducible refine (laws_eqStringS.calls kj14 _ _ t171 _ _ t183 false _ ?side1 ?side2 ?side3 ?side4 A37.out).mono ?_); (case side1 => repeat (first | exact (Kd.R_reads' HO_13.out).2.2 | (with_reducible refine Kd.C_alloc ?_ _) | (with_reducible refine Kd.C_drewN ?_ _) | (with_reducible refine Kd.C_drew ?_))); (case side2 => exact (Kd.R_reads' HO_13.out).2.1); (case side3 => repeat (first | exact (Kd.R_reads' HO185.out).2.2 | (with_reducible refine Kd.C_alloc ?_ _) | (with_reducible refine Kd.C_drewN ?_ _) | (with_reducible refine Kd.C_drew ?_))); (case side4 => exact (Kd.R_reads' HO185.out).2.1); rintro e w' ⟨rfl, ⟨nd, rfl⟩⟩; refine ⟨_, rfl, ?_⟩))
        go_ret
        exact ⟨by first | rfl | (simp [errW_none, errW_some] <;> rfl) | (simp [*, errW_none, errW_some] <;> rfl), by repeat (first | (with_reducible first | exact HB.out | apply below_alloc | apply pw_below_drewN | apply below_drew1) | exact HB.out)⟩
      ·replace c35 := Bool.eq_false_iff.mpr c35
       subst c35
       have H1 : (some false) = some r := by rw [if_neg (show ¬ (false = true) by decide)] at H; exact H
       clear H
       have H := H1
       clear H1
       obtain rfl := Option.some.inj H
       go_wp2_with (first | ((with_reducible refine gate_callee (f := 16) rfl ?_); refine goesL_ (some 64) rfl rfl Try.func16 (by kernel_rfl) rfl #[.slice A0 l0.length c0] rfl zp1 ?_; (with_reducible refine (laws_toStringS.calls kj14 _ _ l0 t179 _ ?side1 ?side2 A33.out).mono ?_); (case side1 => repeat (first | exact (Kd.C_below HR0.out HB.out) | (with_reducible refine Kd.C_alloc ?_ _) | (with_reducible refine Kd.C_drewN ?_ _) | (with_reducible refine Kd.C_drew ?_))); (case side2 => exact HC0.out); rintro e w95 ⟨v180, rfl, ho0, hb⟩; refine ⟨_, rfl, ?_⟩; have n0_ := Aside0.mk (Kd.R_elder' zp4 (Kd.R_base ho0) hb); have n1_ := Aside0.mk (Kd.R_elder' zp7 (Kd.R_base ho0) hb); have n2_ := Aside0.mk (Kd.R_elder' zp6 (Kd.R_base ho0) hb); have n3_ := Aside0.mk (Kd.R_elder' zp2 (Kd.R_base ho0) hb); have n4_ := Aside0.mk (Kd.R_lower (Kd.R_new' (Kd.R_new' (Kd.R_new' (Kd.R_new' ho0 (Kd.R_lt zp4)) (Kd.R_lt zp7)) (Kd.R_lt zp6)) (Kd.R_lt zp2)) (below_size zp0)); have n5_ := Aside0.mk (below_step zp0 hb); clear HO_10; clear HO_12; clear HO_13; clear HO_14; clear HB; have HO_10 := n0_; have HO_12 := n1_; have HO_13 := n2_; have HO_14 := n3_; have HO181 := n4_; have HB := n5_; clear n0_ n1_ n2_ n3_ n4_ n5_; (try clear hb); (try clear hb2); (try clear hk); (try clear hi); (try clear ho0); obtain ⟨Ao96, co96, eo96⟩ := Kd.R_slice HO181.out; subst eo96) | ((with_reducible refine gate_callee (f := 18) rfl ?_); refine goesL_ (some 65) rfl rfl Try.func18 (by kernel_rfl) rfl #[.slice Ao23 t168.length co23, .slice Ao96 t179.length co96] rfl zp1 ?_; (with_reducible refine (laws_eqStringS.calls kj14 _ _ t168 _ _ t179 false _ ?side1 ?side2 ?side3 ?side4 A34.out).mono ?_); (case side1 => repeat (first | exact (Kd.R_reads' HO_12.out).2.2 | (with_reducible refine Kd.C_alloc ?_ _) | (with_reducible refine Kd.C_drewN ?_ _) | (with_reducible refine Kd.C_drew ?_))); (case side2 => exact (Kd.R_reads' HO_12.out).2.1); (case side3 => repeat (first | exact (Kd.R_reads' HO181.out).2.2 | (with_reducible refine Kd.C_alloc ?_ _) | (with_reducible refine Kd.C_drewN ?_ _) | (with_reducible refine Kd.C_drew ?_))); (case side4 => exact (Kd.R_reads' HO181.out).2.1); rintro e w' ⟨rfl, ⟨nd, rfl⟩⟩; refine ⟨_, rfl, ?_⟩))
       go_ret
       exact ⟨by first | rfl | (simp [errW_none, errW_some] <;> rfl) | (simp [*, errW_none, errW_some] <;> rfl), by repeat (first | (with_reducible first | exact HB.out | apply below_alloc | apply pw_below_drewN | apply below_drew1) | exact HB.out)⟩
def laws_FnExactApplyReset.Pure : Prop := ∀ (l0 : List ByteArray) (a1 : Int) (a2 : Int) (l3 : List ByteArray), (l0.length ≤ maxLen ∧ ∀ y2_ ∈ l0, y2_.size ≤ maxLen) → (Lit.int .i64 a1).wf = true → (Lit.int .i64 a2).wf = true → (l3.length ≤ maxLen ∧ ∀ y2_ ∈ l3, y2_.size ≤ maxLen) → ∃ k, laws_FnExactApplyReset.f k l0 a1 a2 l3 = some true
end Go.Proofs.Ytlhipchbjgfodaa.PFnExactApplyReset
