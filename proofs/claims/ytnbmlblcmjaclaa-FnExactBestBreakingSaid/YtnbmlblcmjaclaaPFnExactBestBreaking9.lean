/- Written by a program of this session with the help of the kit's print: of each Go function a Lean function, and the proof that its call comes to just what that tells. No condition beyond those that each theorem states. -/
import Derived.Test.YtnbmlblcmjaclaaPFnExactBestBreaking0
import Derived.Test.YtnbmlblcmjaclaaPFnExactBestBreaking1
import Derived.Test.YtnbmlblcmjaclaaPFnExactBestBreaking4
import Derived.Test.YtnbmlblcmjaclaaPFnExactBestBreaking8
namespace Go.Proofs.Ytnbmlblcmjaclaa.PFnExactBestBreaking
open Go.RowKit Go.Proofs.YtnbmlblcmjaclaaW.PrintWords Go.Proofs.YtnbmlblcmjaclaaW.PrintLast Go.Proofs.YtnbmlblcmjaclaaW.PrintMore
attribute [local go_sem] max2_int min2_int max_two min_two max_three min_three max_four min_four
set_option linter.unusedVariables false
set_option linter.unusedSimpArgs false
mutual
def laws_FnExactBestBreaking.j0 : Nat → List Int → List Int → Int → Bool → List Int → List Int → Int → Bool → Bool → Int → Int → Int → Option (Bool)
 | 0, _, _, _, _, _, _, _, _, _, _, _, _ => none
 | k + 1, x1, x5, x6, x7, x8, x9, x10, x11, x53, x250000, x250001, x250002 => if x53 = true then (some false) else ((laws_toIntS.f k x1).bind fun t273 => ((laws_eqIntS.f k x8 t273).bind fun t276 => (if t276 = true then ((laws_markIntS.f k x8 1).bind fun bt277 => (if bt277.1 < 0 then (laws_FnExactBestBreaking.j1 k x1 x5 x6 x7 x9 true x250000 x250001 x250002) else ((laws_eqIntS.f k x9 x5).bind fun t279 => (if t279 = true then (if x10 = x6 then (laws_FnExactBestBreaking.j1 k x1 x5 x6 x7 x9 (x11 != x7) x250000 x250001 x250002) else (laws_FnExactBestBreaking.j1 k x1 x5 x6 x7 x9 true x250000 x250001 x250002)) else (laws_FnExactBestBreaking.j1 k x1 x5 x6 x7 x9 true x250000 x250001 x250002))))) else (some false))))
def laws_FnExactBestBreaking.j1 : Nat → List Int → List Int → Int → Bool → List Int → Bool → Int → Int → Int → Option (Bool)
 | 0, _, _, _, _, _, _, _, _, _ => none
 | k + 1, x1, x5, x6, x7, x9, x79, x250000, x250001, x250002 => if x79 = true then (some false) else ((laws_markIntS.f k x9 1).bind fun bt280 => ((laws_heldIntS.f k bt280.2 1).bind fun t282 => (if t282 < 0 then (some false) else (if t282 = bt280.1 then ((laws_toMeasure.f x250000 x250001 x250002).bind fun bt283 => ((laws_toIntS.f k x1).bind fun t286 => ((impl_BestBreaking.f k bt283.1 bt283.2.1 bt283.2.2 t286).bind fun bt289 => ((laws_eqIntS.f k bt289.1 x5).bind fun t294 => (if t294 = true then (if bt289.2.1 = x6 then (laws_FnExactBestBreaking.j2 k bt280.2 bt280.1 (bt289.2.2 != x7)) else (laws_FnExactBestBreaking.j2 k bt280.2 bt280.1 true)) else (laws_FnExactBestBreaking.j2 k bt280.2 bt280.1 true)))))) else (some false)))))
def laws_FnExactBestBreaking.j2 : Nat → List Int → Int → Bool → Option (Bool)
 | 0, _, _, _ => none
 | k + 1, x9, x13, x113 => if x113 = true then (some false) else ((laws_heldIntS.f k x9 1).bind fun t295 => (if t295 < 0 then (some false) else (if t295 = x13 then (some true) else (some false))))
end
def laws_FnExactBestBreaking.f (k : Nat) (a0_0 : Int) (a0_1 : Int) (a0_2 : Int) (l1 : List Int) : Option (Bool) := if (l1.length : Int) > 1048576 then (some true) else ((laws_toMeasure.f a0_0 a0_1 a0_2).bind fun bt250 => ((laws_toIntS.f k l1).bind fun t253 => ((spec_BestBreaking.f k bt250.1 bt250.2.1 bt250.2.2 t253).bind fun bt256 => ((laws_toIntS.f k l1).bind fun t261 => ((laws_toMeasure.f a0_0 a0_1 a0_2).bind fun bt264 => ((impl_BestBreaking.f k bt264.1 bt264.2.1 bt264.2.2 t261).bind fun bt267 => ((laws_eqIntS.f k bt267.1 bt256.1).bind fun t272 => (if t272 = true then (if bt267.2.1 = bt256.2.1 then (laws_FnExactBestBreaking.j0 k l1 bt256.1 bt256.2.1 bt256.2.2 t261 bt267.1 bt267.2.1 bt267.2.2 (bt267.2.2 != bt256.2.2) a0_0 a0_1 a0_2) else (laws_FnExactBestBreaking.j0 k l1 bt256.1 bt256.2.1 bt256.2.2 t261 bt267.1 bt267.2.1 bt267.2.2 true a0_0 a0_1 a0_2)) else (laws_FnExactBestBreaking.j0 k l1 bt256.1 bt256.2.1 bt256.2.2 t261 bt267.1 bt267.2.1 bt267.2.2 true a0_0 a0_1 a0_2)))))))))
theorem laws_FnExactBestBreaking.mono_l : ∀ k, (∀ y0 y1 y2 y3 y4 y5 y6 y7 y8 y9 y10 y11, LeO (laws_FnExactBestBreaking.j0 k y0 y1 y2 y3 y4 y5 y6 y7 y8 y9 y10 y11) (laws_FnExactBestBreaking.j0 (k + 1) y0 y1 y2 y3 y4 y5 y6 y7 y8 y9 y10 y11)) ∧ (∀ y0 y1 y2 y3 y4 y5 y6 y7 y8, LeO (laws_FnExactBestBreaking.j1 k y0 y1 y2 y3 y4 y5 y6 y7 y8) (laws_FnExactBestBreaking.j1 (k + 1) y0 y1 y2 y3 y4 y5 y6 y7 y8)) ∧ (∀ y0 y1 y2, LeO (laws_FnExactBestBreaking.j2 k y0 y1 y2) (laws_FnExactBestBreaking.j2 (k + 1) y0 y1 y2))
 | 0 => ⟨fun _ _ _ _ _ _ _ _ _ _ _ _ r h => by simp [laws_FnExactBestBreaking.j0] at h, fun _ _ _ _ _ _ _ _ _ r h => by simp [laws_FnExactBestBreaking.j1] at h, fun _ _ _ r h => by simp [laws_FnExactBestBreaking.j2] at h⟩
 | k + 1 => by
  obtain ⟨ih0, ih1, ih2⟩ := laws_FnExactBestBreaking.mono_l k
  refine ⟨?_, ?_, ?_⟩
  ·intro y0 y1 y2 y3 y4 y5 y6 y7 y8 y9 y10 y11
   unfold laws_FnExactBestBreaking.j0
   repeat' first
   | (with_reducible exact ih0 _ _ _ _ _ _ _ _ _ _ _ _)
   | (with_reducible exact ih1 _ _ _ _ _ _ _ _ _)
   | (with_reducible exact ih2 _ _ _)
   | (with_reducible exact impl_BestBreaking.mono _ _ _ _ _)
   | (with_reducible exact laws_eqIntS.mono _ _ _)
   | (with_reducible exact laws_heldIntS.mono _ _ _)
   | (with_reducible exact laws_markIntS.mono _ _ _)
   | (with_reducible exact laws_toIntS.mono _ _)
   | (with_reducible exact spec_BestBreaking.mono _ _ _ _ _)
   | (with_reducible exact LeO.refl _)
   | (with_reducible exact LeO.none _)
   | (with_reducible refine LeO.ite ?_ ?_)
   | (with_reducible refine LeO.bind ?_ (fun _ => ?_))
   | exact ih0 _ _ _ _ _ _ _ _ _ _ _ _
   | exact ih1 _ _ _ _ _ _ _ _ _
   | exact ih2 _ _ _
   | exact impl_BestBreaking.mono _ _ _ _ _
   | exact laws_eqIntS.mono _ _ _
   | exact laws_heldIntS.mono _ _ _
   | exact laws_markIntS.mono _ _ _
   | exact laws_toIntS.mono _ _
   | exact spec_BestBreaking.mono _ _ _ _ _
   | exact LeO.none _
   | refine LeO.ite ?_ ?_
   | refine LeO.bind ?_ (fun _ => ?_)
  ·intro y0 y1 y2 y3 y4 y5 y6 y7 y8
   unfold laws_FnExactBestBreaking.j1
   repeat' first
   | (with_reducible exact ih0 _ _ _ _ _ _ _ _ _ _ _ _)
   | (with_reducible exact ih1 _ _ _ _ _ _ _ _ _)
   | (with_reducible exact ih2 _ _ _)
   | (with_reducible exact impl_BestBreaking.mono _ _ _ _ _)
   | (with_reducible exact laws_eqIntS.mono _ _ _)
   | (with_reducible exact laws_heldIntS.mono _ _ _)
   | (with_reducible exact laws_markIntS.mono _ _ _)
   | (with_reducible exact laws_toIntS.mono _ _)
   | (with_reducible exact spec_BestBreaking.mono _ _ _ _ _)
   | (with_reducible exact LeO.refl _)
   | (with_reducible exact LeO.none _)
   | (with_reducible refine LeO.ite ?_ ?_)
   | (with_reducible refine LeO.bind ?_ (fun _ => ?_))
   | exact ih0 _ _ _ _ _ _ _ _ _ _ _ _
   | exact ih1 _ _ _ _ _ _ _ _ _
   | exact ih2 _ _ _
   | exact impl_BestBreaking.mono _ _ _ _ _
   | exact laws_eqIntS.mono _ _ _
   | exact laws_heldIntS.mono _ _ _
   | exact laws_markIntS.mono _ _ _
   | exact laws_toIntS.mono _ _
   | exact spec_BestBreaking.mono _ _ _ _ _
   | exact LeO.none _
   | refine LeO.ite ?_ ?_
   | refine LeO.bind ?_ (fun _ => ?_)
  ·intro y0 y1 y2
   unfold laws_FnExactBestBreaking.j2
   repeat' first
   | (with_reducible exact ih0 _ _ _ _ _ _ _ _ _ _ _ _)
   | (with_reducible exact ih1 _ _ _ _ _ _ _ _ _)
   | (with_reducible exact ih2 _ _ _)
   | (with_reducible exact impl_BestBreaking.mono _ _ _ _ _)
   | (with_reducible exact laws_eqIntS.mono _ _ _)
   | (with_reducible exact laws_heldIntS.mono _ _ _)
   | (with_reducible exact laws_markIntS.mono _ _ _)
   | (with_reducible exact laws_toIntS.mono _ _)
   | (with_reducible exact spec_BestBreaking.mono _ _ _ _ _)
   | (with_reducible exact LeO.refl _)
   | (with_reducible exact LeO.none _)
   | (with_reducible refine LeO.ite ?_ ?_)
   | (with_reducible refine LeO.bind ?_ (fun _ => ?_))
   | exact ih0 _ _ _ _ _ _ _ _ _ _ _ _
   | exact ih1 _ _ _ _ _ _ _ _ _
   | exact ih2 _ _ _
   | exact impl_BestBreaking.mono _ _ _ _ _
   | exact laws_eqIntS.mono _ _ _
   | exact laws_heldIntS.mono _ _ _
   | exact laws_markIntS.mono _ _ _
   | exact laws_toIntS.mono _ _
   | exact spec_BestBreaking.mono _ _ _ _ _
   | exact LeO.none _
   | refine LeO.ite ?_ ?_
   | refine LeO.bind ?_ (fun _ => ?_)
theorem laws_FnExactBestBreaking.mono : ∀ a0 a1 a2 a3 k, LeO (laws_FnExactBestBreaking.f k a0 a1 a2 a3) (laws_FnExactBestBreaking.f (k + 1) a0 a1 a2 a3) := by
 intro a0 a1 a2 a3 k
 obtain ⟨ih0, ih1, ih2⟩ := laws_FnExactBestBreaking.mono_l k
 unfold laws_FnExactBestBreaking.f
 repeat' first
  | (with_reducible exact ih0 _ _ _ _ _ _ _ _ _ _ _ _)
  | (with_reducible exact ih1 _ _ _ _ _ _ _ _ _)
  | (with_reducible exact ih2 _ _ _)
  | (with_reducible exact impl_BestBreaking.mono _ _ _ _ _)
  | (with_reducible exact laws_eqIntS.mono _ _ _)
  | (with_reducible exact laws_heldIntS.mono _ _ _)
  | (with_reducible exact laws_markIntS.mono _ _ _)
  | (with_reducible exact laws_toIntS.mono _ _)
  | (with_reducible exact spec_BestBreaking.mono _ _ _ _ _)
  | (with_reducible exact LeO.refl _)
  | (with_reducible exact LeO.none _)
  | (with_reducible refine LeO.ite ?_ ?_)
  | (with_reducible refine LeO.bind ?_ (fun _ => ?_))
  | exact ih0 _ _ _ _ _ _ _ _ _ _ _ _
  | exact ih1 _ _ _ _ _ _ _ _ _
  | exact ih2 _ _ _
  | exact impl_BestBreaking.mono _ _ _ _ _
  | exact laws_eqIntS.mono _ _ _
  | exact laws_heldIntS.mono _ _ _
  | exact laws_markIntS.mono _ _ _
  | exact laws_toIntS.mono _ _
  | exact spec_BestBreaking.mono _ _ _ _ _
  | exact LeO.none _
  | refine LeO.ite ?_ ?_
  | refine LeO.bind ?_ (fun _ => ?_)
set_option maxHeartbeats 8000000 in
set_option maxRecDepth 100000 in
theorem laws_FnExactBestBreaking.calls (k : Nat) (a0_0 : Int) (a0_1 : Int) (a0_2 : Int) (A1 : Option Addr) (c1 : Nat) (l1 : List Int) (r : Bool) (w : World) (hr1 : Kd.C (Kd.int .i64) w A1 l1.length l1) (hc1 : l1.length ≤ c1) (h : laws_FnExactBestBreaking.f k a0_0 a0_1 a0_2 l1 = some r) :
 Calls Try.prog 9 #[.agg #[.int .i64 a0_0, .int .i64 a0_1, .int .i64 a0_2], .slice A1 l1.length c1] w fun e w' => e = .returned (.bool r) ∧ Below w.heap.size w w' := by
 have hu23 := Try.underlying23
 have HR1 := Aside0.mk hr1
 have HC1 := Aside0.mk hc1
 clear hr1 hc1
 have HB := Aside0.mk (Below.refl w.heap.size w)
 have H : (if (l1.length : Int) > 1048576 then (some true) else ((laws_toMeasure.f a0_0 a0_1 a0_2).bind fun bt250 => ((laws_toIntS.f k l1).bind fun t253 => ((spec_BestBreaking.f k bt250.1 bt250.2.1 bt250.2.2 t253).bind fun bt256 => ((laws_toIntS.f k l1).bind fun t261 => ((laws_toMeasure.f a0_0 a0_1 a0_2).bind fun bt264 => ((impl_BestBreaking.f k bt264.1 bt264.2.1 bt264.2.2 t261).bind fun bt267 => ((laws_eqIntS.f k bt267.1 bt256.1).bind fun t272 => (if t272 = true then (if bt267.2.1 = bt256.2.1 then (laws_FnExactBestBreaking.j0 k l1 bt256.1 bt256.2.1 bt256.2.2 t261 bt267.1 bt267.2.1 bt267.2.2 (bt267.2.2 != bt256.2.2) a0_0 a0_1 a0_2) else (laws_FnExactBestBreaking.j0 k l1 bt256.1 bt256.2.1 bt256.2.2 t261 bt267.1 bt267.2.1 bt267.2.2 true a0_0 a0_1 a0_2)) else (laws_FnExactBestBreaking.j0 k l1 bt256.1 bt256.2.1 bt256.2.2 t261 bt267.1 bt267.2.1 bt267.2.2 true a0_0 a0_1 a0_2)))))))))) = some r := h
 clear h
 by_cases c3 : (l1.length : Int) > 1048576
 ·rw [if_pos c3] at H
  have c3b0 : decide (1048576 < (l1.length : Int)) = true := decide_eq_true c3
  have c3b1 : decide (1048576 < l1.length) = true := decide_eq_true zp38
  clear c3
  obtain rfl := Option.some.inj H
  go_enter Try.func9, Try.ntmps9
  go_wp2_with (first | ((with_reducible refine gate_dst (N := 2) rfl ?_); refine box_event ?hg (N := 2) ?hd (cs := #[.int .i64 a0_0, .int .i64 a0_1, .int .i64 a0_2]) (t := 23) ?hr ?_; (case hd => rfl); (case hg => rfl); (case hr => first | (go_simp; done) | (go_simp; rfl)); intro gb249 hg w4 hbox hb; have n0_ := Aside0.mk (below_step zp0 hb); have n1_ := Aside0.mk (hbox); have n2_ := Aside0.mk ((zp4 : w.heap.size ≤ gb249)); have n3_ := Aside0.mk ((zp4 : w.heap.size ≤ gb249)); clear HB; have HB := n0_; have BK249 := n1_; have GW249 := n2_; have GE249 := n3_; clear n0_ n1_ n2_ n3_; clear hb hbox hg))
  go_ret
  exact ⟨by first | rfl | (simp [errW_none, errW_some] <;> rfl) | (simp [*, errW_none, errW_some] <;> rfl), by repeat (first | (with_reducible first | exact HB.out | apply below_alloc | apply pw_below_drewN | apply below_drew1 | refine below_set ?_ GE249.out) | exact HB.out)⟩
 ·rw [if_neg c3] at H
  have c3b0 : decide (1048576 < (l1.length : Int)) = false := decide_eq_false c3
  have c3b1 : decide (1048576 < l1.length) = false := decide_eq_false zp38
  clear c3
  replace H := Option.bind_eq_some_iff.mp H
  obtain ⟨⟨t250, t251, t252⟩, A50, H⟩ := H
  replace H : ((laws_toIntS.f k l1).bind fun t253 => ((spec_BestBreaking.f k t250 t251 t252 t253).bind fun bt256 => ((laws_toIntS.f k l1).bind fun t261 => ((laws_toMeasure.f a0_0 a0_1 a0_2).bind fun bt264 => ((impl_BestBreaking.f k bt264.1 bt264.2.1 bt264.2.2 t261).bind fun bt267 => ((laws_eqIntS.f k bt267.1 bt256.1).bind fun t272 => (if t272 = true then (if bt267.2.1 = bt256.2.1 then (laws_FnExactBestBreaking.j0 k l1 bt256.1 bt256.2.1 bt256.2.2 t261 bt267.1 bt267.2.1 bt267.2.2 (bt267.2.2 != bt256.2.2) a0_0 a0_1 a0_2) else (laws_FnExactBestBreaking.j0 k l1 bt256.1 bt256.2.1 bt256.2.2 t261 bt267.1 bt267.2.1 bt267.2.2 true a0_0 a0_1 a0_2)) else (laws_FnExactBestBreaking.j0 k l1 bt256.1 bt256.2.1 bt256.2.2 t261 bt267.1 bt267.2.1 bt267.2.2 true a0_0 a0_1 a0_2)))))))) = some r := H
  have A5 := Aside0.mk A50
  clear A50
  replace H := Option.bind_eq_some_iff.mp H
  obtain ⟨t253, A60, H⟩ := H
  replace H : ((spec_BestBreaking.f k t250 t251 t252 t253).bind fun bt256 => ((laws_toIntS.f k l1).bind fun t261 => ((laws_toMeasure.f a0_0 a0_1 a0_2).bind fun bt264 => ((impl_BestBreaking.f k bt264.1 bt264.2.1 bt264.2.2 t261).bind fun bt267 => ((laws_eqIntS.f k bt267.1 bt256.1).bind fun t272 => (if t272 = true then (if bt267.2.1 = bt256.2.1 then (laws_FnExactBestBreaking.j0 k l1 bt256.1 bt256.2.1 bt256.2.2 t261 bt267.1 bt267.2.1 bt267.2.2 (bt267.2.2 != bt256.2.2) a0_0 a0_1 a0_2) else (laws_FnExactBestBreaking.j0 k l1 bt256.1 bt256.2.1 bt256.2.2 t261 bt267.1 bt267.2.1 bt267.2.2 true a0_0 a0_1 a0_2)) else (laws_FnExactBestBreaking.j0 k l1 bt256.1 bt256.2.1 bt256.2.2 t261 bt267.1 bt267.2.1 bt267.2.2 true a0_0 a0_1 a0_2))))))) = some r := H
  have A6 := Aside0.mk A60
  clear A60
  replace H := Option.bind_eq_some_iff.mp H
  obtain ⟨⟨t256, t259, t260⟩, A70, H⟩ := H
  replace H : ((laws_toIntS.f k l1).bind fun t261 => ((laws_toMeasure.f a0_0 a0_1 a0_2).bind fun bt264 => ((impl_BestBreaking.f k bt264.1 bt264.2.1 bt264.2.2 t261).bind fun bt267 => ((laws_eqIntS.f k bt267.1 t256).bind fun t272 => (if t272 = true then (if bt267.2.1 = t259 then (laws_FnExactBestBreaking.j0 k l1 t256 t259 t260 t261 bt267.1 bt267.2.1 bt267.2.2 (bt267.2.2 != t260) a0_0 a0_1 a0_2) else (laws_FnExactBestBreaking.j0 k l1 t256 t259 t260 t261 bt267.1 bt267.2.1 bt267.2.2 true a0_0 a0_1 a0_2)) else (laws_FnExactBestBreaking.j0 k l1 t256 t259 t260 t261 bt267.1 bt267.2.1 bt267.2.2 true a0_0 a0_1 a0_2)))))) = some r := H
  have A7 := Aside0.mk A70
  clear A70
  replace H := Option.bind_eq_some_iff.mp H
  obtain ⟨t261, A80, H⟩ := H
  replace H : ((laws_toMeasure.f a0_0 a0_1 a0_2).bind fun bt264 => ((impl_BestBreaking.f k bt264.1 bt264.2.1 bt264.2.2 t261).bind fun bt267 => ((laws_eqIntS.f k bt267.1 t256).bind fun t272 => (if t272 = true then (if bt267.2.1 = t259 then (laws_FnExactBestBreaking.j0 k l1 t256 t259 t260 t261 bt267.1 bt267.2.1 bt267.2.2 (bt267.2.2 != t260) a0_0 a0_1 a0_2) else (laws_FnExactBestBreaking.j0 k l1 t256 t259 t260 t261 bt267.1 bt267.2.1 bt267.2.2 true a0_0 a0_1 a0_2)) else (laws_FnExactBestBreaking.j0 k l1 t256 t259 t260 t261 bt267.1 bt267.2.1 bt267.2.2 true a0_0 a0_1 a0_2))))) = some r := H
  have A8 := Aside0.mk A80
  clear A80
  replace H := Option.bind_eq_some_iff.mp H
  obtain ⟨⟨t264, t265, t266⟩, A90, H⟩ := H
  replace H : ((impl_BestBreaking.f k t264 t265 t266 t261).bind fun bt267 => ((laws_eqIntS.f k bt267.1 t256).bind fun t272 => (if t272 = true then (if bt267.2.1 = t259 then (laws_FnExactBestBreaking.j0 k l1 t256 t259 t260 t261 bt267.1 bt267.2.1 bt267.2.2 (bt267.2.2 != t260) a0_0 a0_1 a0_2) else (laws_FnExactBestBreaking.j0 k l1 t256 t259 t260 t261 bt267.1 bt267.2.1 bt267.2.2 true a0_0 a0_1 a0_2)) else (laws_FnExactBestBreaking.j0 k l1 t256 t259 t260 t261 bt267.1 bt267.2.1 bt267.2.2 true a0_0 a0_1 a0_2)))) = some r := H
  have A9 := Aside0.mk A90
  clear A90
  replace H := Option.bind_eq_some_iff.mp H
  obtain ⟨⟨t267, t270, t271⟩, A100, H⟩ := H
  replace H : ((laws_eqIntS.f k t267 t256).bind fun t272 => (if t272 = true then (if t270 = t259 then (laws_FnExactBestBreaking.j0 k l1 t256 t259 t260 t261 t267 t270 t271 (t271 != t260) a0_0 a0_1 a0_2) else (laws_FnExactBestBreaking.j0 k l1 t256 t259 t260 t261 t267 t270 t271 true a0_0 a0_1 a0_2)) else (laws_FnExactBestBreaking.j0 k l1 t256 t259 t260 t261 t267 t270 t271 true a0_0 a0_1 a0_2))) = some r := H
  have A10 := Aside0.mk A100
  clear A100
  have HC11 := Aside0.mk H
  clear H
  go_enter Try.func9, Try.ntmps9
  go_upto_region 6 with (first | ((with_reducible refine gate_dst (N := 2) rfl ?_); refine box_event ?hg (N := 2) ?hd (cs := #[.int .i64 a0_0, .int .i64 a0_1, .int .i64 a0_2]) (t := 23) ?hr ?_; (case hd => rfl); (case hg => rfl); (case hr => first | (go_simp; done) | (go_simp; rfl)); intro gb249 hg w12 hbox hb; have n0_ := Aside0.mk (below_step zp0 hb); have n1_ := Aside0.mk (hbox); have n2_ := Aside0.mk ((zp4 : w.heap.size ≤ gb249)); have n3_ := Aside0.mk ((zp4 : w.heap.size ≤ gb249)); clear HB; have HB := n0_; have BK249 := n1_; have GW249 := n2_; have GE249 := n3_; clear n0_ n1_ n2_ n3_; clear hb hbox hg; have hcz13_0 : w12.cell? ⟨gb249, 0, none⟩ = some (.int .i64 a0_0) := (blk_cell BK249.out 0).trans rfl; have hcz13_1 : w12.cell? ⟨gb249, 1, none⟩ = some (.int .i64 a0_1) := (blk_cell BK249.out 1).trans rfl; have hcz13_2 : w12.cell? ⟨gb249, 2, none⟩ = some (.int .i64 a0_2) := (blk_cell BK249.out 2).trans rfl; have hfz13_0 := blk_frozen BK249.out 0; have hfz13_1 := blk_frozen BK249.out 1; have hfz13_2 := blk_frozen BK249.out 2) | ((with_reducible refine gate_callee (f := 16) rfl ?_); refine goesL_ (some 23) rfl rfl Try.func16 (by kernel_rfl) rfl #[.agg #[.int .i64 a0_0, .int .i64 a0_1, .int .i64 a0_2]] rfl zp2 ?_; (with_reducible refine (laws_toMeasure.calls a0_0 a0_1 a0_2 t250 t251 t252 _ A5.out).mono ?_); rintro e w14 ⟨rfl, hb⟩; refine ⟨_, rfl, ?_⟩; have n0_ := Aside0.mk (blk_below (g := gb249) (o := .cells #[.int .i64 a0_0, .int .i64 a0_1, .int .i64 a0_2] 23 (0, 0)) zp13 hb); have n1_ := Aside0.mk (below_step zp7 hb); clear BK249; clear HB; have BK249 := n0_; have HB := n1_; clear n0_ n1_; (try clear hb); (try clear hb2); (try clear hk); (try clear hi)) | ((with_reducible refine gate_callee (f := 17) rfl ?_); refine goesL_ (some 25) rfl rfl Try.func17 (by kernel_rfl) rfl #[.slice A1 l1.length c1] rfl zp2 ?_; (with_reducible refine (laws_toIntS.calls k _ _ l1 t253 _ ?side1 ?side2 A6.out).mono ?_); (case side1 => repeat (first | exact (Kd.C_below HR1.out HB.out) | (with_reducible refine Kd.C_alloc ?_ _) | (with_reducible refine Kd.C_drewN ?_ _) | (with_reducible refine Kd.C_drew ?_))); (case side2 => exact HC1.out); rintro e w15 ⟨v254, rfl, ho0, hb⟩; refine ⟨_, rfl, ?_⟩; have n0_ := Aside0.mk (Kd.R_lower ho0 (below_size zp7)); have n1_ := Aside0.mk (blk_below (g := gb249) (o := .cells #[.int .i64 a0_0, .int .i64 a0_1, .int .i64 a0_2] 23 (0, 0)) zp13 hb); have n2_ := Aside0.mk (below_step zp7 hb); clear BK249; clear HB; have HO255 := n0_; have BK249 := n1_; have HB := n2_; clear n0_ n1_ n2_; (try clear hb); (try clear hb2); (try clear hk); (try clear hi); (try clear ho0); obtain ⟨Ao16, co16, eo16⟩ := Kd.R_slice HO255.out; subst eo16) | ((with_reducible refine gate_callee (f := 38) rfl ?_); refine goesL_ (some 26) rfl rfl Try.func38 (by kernel_rfl) rfl #[.agg #[.int .i64 t250, .int .i64 t251, .int .i64 t252], .slice Ao16 t253.length co16] rfl zp2 ?_; (with_reducible refine (spec_BestBreaking.calls k t250 t251 t252 _ _ t253 t256 t259 t260 _ ?side1 ?side2 A7.out).mono ?_); (case side1 => repeat (first | exact (Kd.R_reads' HO255.out).2.2 | (with_reducible refine Kd.C_alloc ?_ _) | (with_reducible refine Kd.C_drewN ?_ _) | (with_reducible refine Kd.C_drew ?_))); (case side2 => exact (Kd.R_reads' HO255.out).2.1); rintro e w17 ⟨v257, rfl, ho0, hb⟩; refine ⟨_, rfl, ?_⟩; have n0_ := Aside0.mk (Kd.R_elder' zp24 (Kd.R_base ho0) hb); have n1_ := Aside0.mk (Kd.R_lower (Kd.R_new' ho0 (Kd.R_lt zp24)) (below_size zp7)); have n2_ := Aside0.mk (blk_below (g := gb249) (o := .cells #[.int .i64 a0_0, .int .i64 a0_1, .int .i64 a0_2] 23 (0, 0)) zp13 hb); have n3_ := Aside0.mk (below_step zp7 hb); clear HO255; clear BK249; clear HB; have HO255 := n0_; have HO258 := n1_; have BK249 := n2_; have HB := n3_; clear n0_ n1_ n2_ n3_; (try clear hb); (try clear hb2); (try clear hk); (try clear hi); (try clear ho0)) | ((with_reducible refine gate_callee (f := 17) rfl ?_); refine goesL_ (some 31) rfl rfl Try.func17 (by kernel_rfl) rfl #[.slice A1 l1.length c1] rfl zp2 ?_; (with_reducible refine (laws_toIntS.calls k _ _ l1 t261 _ ?side1 ?side2 A8.out).mono ?_); (case side1 => repeat (first | exact (Kd.C_below HR1.out HB.out) | (with_reducible refine Kd.C_alloc ?_ _) | (with_reducible refine Kd.C_drewN ?_ _) | (with_reducible refine Kd.C_drew ?_))); (case side2 => exact HC1.out); rintro e w18 ⟨v262, rfl, ho0, hb⟩; refine ⟨_, rfl, ?_⟩; have n0_ := Aside0.mk (Kd.R_elder' zp24 (Kd.R_base ho0) hb); have n1_ := Aside0.mk (Kd.R_elder' zp34 (Kd.R_base ho0) hb); have n2_ := Aside0.mk (Kd.R_lower (Kd.R_new' (Kd.R_new' ho0 (Kd.R_lt zp24)) (Kd.R_lt zp34)) (below_size zp7)); have n3_ := Aside0.mk (blk_below (g := gb249) (o := .cells #[.int .i64 a0_0, .int .i64 a0_1, .int .i64 a0_2] 23 (0, 0)) zp13 hb); have n4_ := Aside0.mk (below_step zp7 hb); clear HO255; clear HO258; clear BK249; clear HB; have HO255 := n0_; have HO258 := n1_; have HO263 := n2_; have BK249 := n3_; have HB := n4_; clear n0_ n1_ n2_ n3_ n4_; (try clear hb); (try clear hb2); (try clear hk); (try clear hi); (try clear ho0); have hcz19_0 : w18.cell? ⟨gb249, 0, none⟩ = some (.int .i64 a0_0) := (blk_cell BK249.out 0).trans rfl; have hcz19_1 : w18.cell? ⟨gb249, 1, none⟩ = some (.int .i64 a0_1) := (blk_cell BK249.out 1).trans rfl; have hcz19_2 : w18.cell? ⟨gb249, 2, none⟩ = some (.int .i64 a0_2) := (blk_cell BK249.out 2).trans rfl; have hfz19_0 := blk_frozen BK249.out 0; have hfz19_1 := blk_frozen BK249.out 1; have hfz19_2 := blk_frozen BK249.out 2) | ((with_reducible refine gate_callee (f := 16) rfl ?_); refine goesL_ (some 34) rfl rfl Try.func16 (by kernel_rfl) rfl #[.agg #[.int .i64 a0_0, .int .i64 a0_1, .int .i64 a0_2]] rfl zp2 ?_; (with_reducible refine (laws_toMeasure.calls a0_0 a0_1 a0_2 t264 t265 t266 _ A9.out).mono ?_); rintro e w20 ⟨rfl, hb⟩; refine ⟨_, rfl, ?_⟩; have n0_ := Aside0.mk (Kd.R_below zp24 hb); have n1_ := Aside0.mk (Kd.R_below zp34 hb); have n2_ := Aside0.mk (Kd.R_below zp49 hb); have n3_ := Aside0.mk (blk_below (g := gb249) (o := .cells #[.int .i64 a0_0, .int .i64 a0_1, .int .i64 a0_2] 23 (0, 0)) zp13 hb); have n4_ := Aside0.mk (below_step zp7 hb); clear HO255; clear HO258; clear HO263; clear BK249; clear HB; have HO255 := n0_; have HO258 := n1_; have HO263 := n2_; have BK249 := n3_; have HB := n4_; clear n0_ n1_ n2_ n3_ n4_; (try clear hb); (try clear hb2); (try clear hk); (try clear hi); obtain ⟨Ao21, co21, eo21⟩ := Kd.R_slice HO263.out; subst eo21) | ((with_reducible refine gate_callee (f := 39) rfl ?_); refine goesL_ (some 36) rfl rfl Try.func39 (by kernel_rfl) rfl #[.agg #[.int .i64 t264, .int .i64 t265, .int .i64 t266], .slice Ao21 t261.length co21] rfl zp2 ?_; (with_reducible refine (impl_BestBreaking.calls k t264 t265 t266 _ _ t261 t267 t270 t271 _ ?side1 ?side2 A10.out).mono ?_); (case side1 => repeat (first | exact (Kd.R_reads' HO263.out).2.2 | (with_reducible refine Kd.C_alloc ?_ _) | (with_reducible refine Kd.C_drewN ?_ _) | (with_reducible refine Kd.C_drew ?_))); (case side2 => exact (Kd.R_reads' HO263.out).2.1); rintro e w22 ⟨v268, rfl, ho0, hb⟩; refine ⟨_, rfl, ?_⟩; have n0_ := Aside0.mk (Kd.R_elder' zp24 (Kd.R_base ho0) hb); have n1_ := Aside0.mk (Kd.R_elder' zp34 (Kd.R_base ho0) hb); have n2_ := Aside0.mk (Kd.R_elder' zp49 (Kd.R_base ho0) hb); have n3_ := Aside0.mk (Kd.R_lower (Kd.R_new' (Kd.R_new' (Kd.R_new' ho0 (Kd.R_lt zp24)) (Kd.R_lt zp34)) (Kd.R_lt zp49)) (below_size zp7)); have n4_ := Aside0.mk (blk_below (g := gb249) (o := .cells #[.int .i64 a0_0, .int .i64 a0_1, .int .i64 a0_2] 23 (0, 0)) zp13 hb); have n5_ := Aside0.mk (below_step zp7 hb); clear HO255; clear HO258; clear HO263; clear BK249; clear HB; have HO255 := n0_; have HO258 := n1_; have HO263 := n2_; have HO269 := n3_; have BK249 := n4_; have HB := n5_; clear n0_ n1_ n2_ n3_ n4_ n5_; (try clear hb); (try clear hb2); (try clear hk); (try clear hi); (try clear ho0)))
  (try simp only [Act.put, List.setIfInBounds_toArray, List.set_cons_zero, List.set_cons_succ])
  go_cut [53] (fun v53 wc => ∃ (kq : Nat) (x53_10 : Bool), v53 = .bool x53_10 ∧ Aside0 (laws_FnExactBestBreaking.j0 kq l1 t256 t259 t260 t261 t267 t270 t271 x53_10 a0_0 a0_1 a0_2 = some r) ∧ Aside0 (kq ≤ k) ∧ Aside0 (Kd.R (Kd.int .i64) 3 wc w.heap.size (fun k_ => some k_ ≠ ((.slice Ao21 t261.length co21) : Value).ownBlock ∧ some k_ ≠ (v268 : Value).ownBlock) v257 t256) ∧ Aside0 (Kd.R (Kd.int .i64) 3 wc w.heap.size (fun k_ => some k_ ≠ (v257 : Value).ownBlock ∧ some k_ ≠ (v268 : Value).ownBlock) (.slice Ao21 t261.length co21) t261) ∧ Aside0 (Kd.R (Kd.int .i64) 3 wc w.heap.size (fun k_ => some k_ ≠ (v257 : Value).ownBlock ∧ some k_ ≠ ((.slice Ao21 t261.length co21) : Value).ownBlock) v268 t267) ∧ Aside0 (wc.heap[gb249]? = some (.cells #[.int .i64 a0_0, .int .i64 a0_1, .int .i64 a0_2] 23 (0, 0))) ∧ Aside0 (Below w.heap.size w wc))
  case first =>
   have H := HC11.out
   clear HC11
   replace H := Option.bind_eq_some_iff.mp H
   obtain ⟨t272, A230, H⟩ := H
   replace H : (if t272 = true then (if t270 = t259 then (laws_FnExactBestBreaking.j0 k l1 t256 t259 t260 t261 t267 t270 t271 (t271 != t260) a0_0 a0_1 a0_2) else (laws_FnExactBestBreaking.j0 k l1 t256 t259 t260 t261 t267 t270 t271 true a0_0 a0_1 a0_2)) else (laws_FnExactBestBreaking.j0 k l1 t256 t259 t260 t261 t267 t270 t271 true a0_0 a0_1 a0_2)) = some r := H
   have A23 := Aside0.mk A230
   clear A230
   by_cases c24 : t272 = true
   ·subst c24
    have H1 : (if t270 = t259 then (laws_FnExactBestBreaking.j0 k l1 t256 t259 t260 t261 t267 t270 t271 (t271 != t260) a0_0 a0_1 a0_2) else (laws_FnExactBestBreaking.j0 k l1 t256 t259 t260 t261 t267 t270 t271 true a0_0 a0_1 a0_2)) = some r := by rw [if_pos rfl] at H; exact H
    clear H
    have H := H1
    clear H1
    by_cases c25 : t270 = t259
    ·rw [if_pos c25] at H
     have c25b0 : (t270 == t259) = true := beq_iff_eq.mpr c25
     have c25b1 : (t270 != t259) = false := bne_eq_false_iff_eq.mpr c25
     clear c25
     (first | rw [c25b0] | (simp only [i64_w, i32_w]; rw [c25b0]) | skip)
     have H' := Aside0.mk H
     clear H
     obtain ⟨Ao26, co26, eo26⟩ := Kd.R_slice HO269.out
     subst eo26
     obtain ⟨Ao27, co27, eo27⟩ := Kd.R_slice HO258.out
     subst eo27
     go_wp2_with (first | ((with_reducible refine gate_callee (f := 19) rfl ?_); refine goesL_ (some 42) rfl rfl Try.func19 (by kernel_rfl) rfl #[.slice Ao26 t267.length co26, .slice Ao27 t256.length co27] rfl zp2 ?_; (with_reducible refine (laws_eqIntS.calls k _ _ t267 _ _ t256 true _ ?side1 ?side2 ?side3 ?side4 A23.out).mono ?_); (case side1 => repeat (first | exact (Kd.R_reads' HO269.out).2.2 | (with_reducible refine Kd.C_alloc ?_ _) | (with_reducible refine Kd.C_drewN ?_ _) | (with_reducible refine Kd.C_drew ?_))); (case side2 => exact (Kd.R_reads' HO269.out).2.1); (case side3 => repeat (first | exact (Kd.R_reads' HO258.out).2.2 | (with_reducible refine Kd.C_alloc ?_ _) | (with_reducible refine Kd.C_drewN ?_ _) | (with_reducible refine Kd.C_drew ?_))); (case side4 => exact (Kd.R_reads' HO258.out).2.1); rintro e w' ⟨rfl, ⟨nd, rfl⟩⟩; refine ⟨_, rfl, ?_⟩))
     go_meet
     case rel => exact ⟨_, ((t271 != t260)), zp6, H', ⟨by first | omega | exact Nat.le_refl _⟩, ⟨by (with_reducible repeat (first | apply Kd.R_alloc | apply Kd.R_drewN | apply Kd.R_drew)); exact Kd.R_mono HO258.out (fun _ hk => ⟨hk.1.2, hk.2⟩)⟩, ⟨by (with_reducible repeat (first | apply Kd.R_alloc | apply Kd.R_drewN | apply Kd.R_drew)); exact Kd.R_mono HO263.out (fun _ hk => ⟨hk.1.2, hk.2⟩)⟩, ⟨by (with_reducible repeat (first | apply Kd.R_alloc | apply Kd.R_drewN | apply Kd.R_drew)); exact Kd.R_mono HO269.out (fun _ hk => ⟨hk.1.2, hk.2⟩)⟩, ⟨by (with_reducible repeat (first | refine blk_drewN ?_ _ | refine blk_drew ?_ | refine blk_alloc ?_ _)); exact BK249.out⟩, ⟨by repeat (first | (with_reducible first | exact HB.out | apply below_alloc | apply pw_below_drewN | apply below_drew1 | refine below_set ?_ GE249.out) | exact HB.out)⟩⟩
    ·rw [if_neg c25] at H
     have c25b0 : (t270 == t259) = false := beq_eq_false_iff_ne.mpr c25
     have c25b1 : (t270 != t259) = true := bne_iff_ne.mpr c25
     (first | rw [c25b0] | (simp only [i64_w, i32_w]; rw [c25b0]) | skip)
     have H' := Aside0.mk H
     clear H
     obtain ⟨Ao28, co28, eo28⟩ := Kd.R_slice HO269.out
     subst eo28
     obtain ⟨Ao29, co29, eo29⟩ := Kd.R_slice HO258.out
     subst eo29
     go_wp2_with (first | ((with_reducible refine gate_callee (f := 19) rfl ?_); refine goesL_ (some 42) rfl rfl Try.func19 (by kernel_rfl) rfl #[.slice Ao28 t267.length co28, .slice Ao29 t256.length co29] rfl zp2 ?_; (with_reducible refine (laws_eqIntS.calls k _ _ t267 _ _ t256 true _ ?side1 ?side2 ?side3 ?side4 A23.out).mono ?_); (case side1 => repeat (first | exact (Kd.R_reads' HO269.out).2.2 | (with_reducible refine Kd.C_alloc ?_ _) | (with_reducible refine Kd.C_drewN ?_ _) | (with_reducible refine Kd.C_drew ?_))); (case side2 => exact (Kd.R_reads' HO269.out).2.1); (case side3 => repeat (first | exact (Kd.R_reads' HO258.out).2.2 | (with_reducible refine Kd.C_alloc ?_ _) | (with_reducible refine Kd.C_drewN ?_ _) | (with_reducible refine Kd.C_drew ?_))); (case side4 => exact (Kd.R_reads' HO258.out).2.1); rintro e w' ⟨rfl, ⟨nd, rfl⟩⟩; refine ⟨_, rfl, ?_⟩))
     go_meet
     case rel => exact ⟨_, (true), zp6, H', ⟨by first | omega | exact Nat.le_refl _⟩, ⟨by (with_reducible repeat (first | apply Kd.R_alloc | apply Kd.R_drewN | apply Kd.R_drew)); exact Kd.R_mono HO258.out (fun _ hk => ⟨hk.1.2, hk.2⟩)⟩, ⟨by (with_reducible repeat (first | apply Kd.R_alloc | apply Kd.R_drewN | apply Kd.R_drew)); exact Kd.R_mono HO263.out (fun _ hk => ⟨hk.1.2, hk.2⟩)⟩, ⟨by (with_reducible repeat (first | apply Kd.R_alloc | apply Kd.R_drewN | apply Kd.R_drew)); exact Kd.R_mono HO269.out (fun _ hk => ⟨hk.1.2, hk.2⟩)⟩, ⟨by (with_reducible repeat (first | refine blk_drewN ?_ _ | refine blk_drew ?_ | refine blk_alloc ?_ _)); exact BK249.out⟩, ⟨by repeat (first | (with_reducible first | exact HB.out | apply below_alloc | apply pw_below_drewN | apply below_drew1 | refine below_set ?_ GE249.out) | exact HB.out)⟩⟩
   ·replace c24 := Bool.eq_false_iff.mpr c24
    subst c24
    have H1 : (laws_FnExactBestBreaking.j0 k l1 t256 t259 t260 t261 t267 t270 t271 true a0_0 a0_1 a0_2) = some r := by rw [if_neg (show ¬ (false = true) by decide)] at H; exact H
    clear H
    have H := H1
    clear H1
    have H' := Aside0.mk H
    clear H
    obtain ⟨Ao30, co30, eo30⟩ := Kd.R_slice HO269.out
    subst eo30
    obtain ⟨Ao31, co31, eo31⟩ := Kd.R_slice HO258.out
    subst eo31
    go_wp2_with (first | ((with_reducible refine gate_callee (f := 19) rfl ?_); refine goesL_ (some 42) rfl rfl Try.func19 (by kernel_rfl) rfl #[.slice Ao30 t267.length co30, .slice Ao31 t256.length co31] rfl zp2 ?_; (with_reducible refine (laws_eqIntS.calls k _ _ t267 _ _ t256 false _ ?side1 ?side2 ?side3 ?side4 A23.out).mono ?_); (case side1 => repeat (first | exact (Kd.R_reads' HO269.out).2.2 | (with_reducible refine Kd.C_alloc ?_ _) | (with_reducible refine Kd.C_drewN ?_ _) | (with_reducible refine Kd.C_drew ?_))); (case side2 => exact (Kd.R_reads' HO269.out).2.1); (case side3 => repeat (first | exact (Kd.R_reads' HO258.out).2.2 | (with_reducible refine Kd.C_alloc ?_ _) | (with_reducible refine Kd.C_drewN ?_ _) | (with_reducible refine Kd.C_drew ?_))); (case side4 => exact (Kd.R_reads' HO258.out).2.1); rintro e w' ⟨rfl, ⟨nd, rfl⟩⟩; refine ⟨_, rfl, ?_⟩))
    go_meet
    case rel => exact ⟨_, (true), zp6, H', ⟨by first | omega | exact Nat.le_refl _⟩, ⟨by (with_reducible repeat (first | apply Kd.R_alloc | apply Kd.R_drewN | apply Kd.R_drew)); exact Kd.R_mono HO258.out (fun _ hk => ⟨hk.1.2, hk.2⟩)⟩, ⟨by (with_reducible repeat (first | apply Kd.R_alloc | apply Kd.R_drewN | apply Kd.R_drew)); exact Kd.R_mono HO263.out (fun _ hk => ⟨hk.1.2, hk.2⟩)⟩, ⟨by (with_reducible repeat (first | apply Kd.R_alloc | apply Kd.R_drewN | apply Kd.R_drew)); exact Kd.R_mono HO269.out (fun _ hk => ⟨hk.1.2, hk.2⟩)⟩, ⟨by (with_reducible repeat (first | refine blk_drewN ?_ _ | refine blk_drew ?_ | refine blk_alloc ?_ _)); exact BK249.out⟩, ⟨by repeat (first | (with_reducible first | exact HB.out | apply below_alloc | apply pw_below_drewN | apply below_drew1 | refine below_set ?_ GE249.out) | exact HB.out)⟩⟩
  case rest =>
   clear HC11
   try clear c1
   try clear c2
   try clear p2
   try clear c3
   try clear c3b0
   try clear c3b1
   try clear c9
   try clear c16
   try clear c17
   try clear c19
   try clear c24
   try clear c25
   try clear c25b0
   try clear c25b1
   try clear hcz13_0
   try clear hcz13_1
   try clear hcz13_2
   try clear hcz19_0
   try clear hcz19_1
   try clear hcz19_2
   try clear hfz13_0
   try clear hfz13_1
   try clear hfz13_2
   try clear hfz19_0
   try clear hfz19_1
   try clear hfz19_2
   obtain ⟨kq, x53_10, rfl, HA, HJ10, HO_5, HO_8, HO_9, BK249, HB⟩ := hcut
   cases kq with
   | zero => exact absurd HA.out (by simp [laws_FnExactBestBreaking.j0])
   | succ kj10 =>
    have H := HA.out
    clear HA
    simp only [laws_FnExactBestBreaking.j0] at H
    by_cases c32 : x53_10 = true
    ·subst c32
     have H1 : (some false) = some r := by rw [if_pos rfl] at H; exact H
     clear H
     have H := H1
     clear H1
     obtain rfl := Option.some.inj H
     go_wp2
     go_ret
     exact ⟨by first | rfl | (simp [errW_none, errW_some] <;> rfl) | (simp [*, errW_none, errW_some] <;> rfl), by repeat (first | (with_reducible first | exact HB.out | apply below_alloc | apply pw_below_drewN | apply below_drew1 | refine below_set ?_ GE249.out) | exact HB.out)⟩
    ·replace c32 := Bool.eq_false_iff.mpr c32
     subst c32
     have H1 : ((laws_toIntS.f kj10 l1).bind fun t273 => ((laws_eqIntS.f kj10 t261 t273).bind fun t276 => (if t276 = true then ((laws_markIntS.f kj10 t261 1).bind fun bt277 => (if bt277.1 < 0 then (laws_FnExactBestBreaking.j1 kj10 l1 t256 t259 t260 t267 true a0_0 a0_1 a0_2) else ((laws_eqIntS.f kj10 t267 t256).bind fun t279 => (if t279 = true then (if t270 = t259 then (laws_FnExactBestBreaking.j1 kj10 l1 t256 t259 t260 t267 (t271 != t260) a0_0 a0_1 a0_2) else (laws_FnExactBestBreaking.j1 kj10 l1 t256 t259 t260 t267 true a0_0 a0_1 a0_2)) else (laws_FnExactBestBreaking.j1 kj10 l1 t256 t259 t260 t267 true a0_0 a0_1 a0_2))))) else (some false)))) = some r := by rw [if_neg (show ¬ (false = true) by decide)] at H; exact H
     clear H
     have H := H1
     clear H1
     replace H := Option.bind_eq_some_iff.mp H
     obtain ⟨t273, A330, H⟩ := H
     replace H : ((laws_eqIntS.f kj10 t261 t273).bind fun t276 => (if t276 = true then ((laws_markIntS.f kj10 t261 1).bind fun bt277 => (if bt277.1 < 0 then (laws_FnExactBestBreaking.j1 kj10 l1 t256 t259 t260 t267 true a0_0 a0_1 a0_2) else ((laws_eqIntS.f kj10 t267 t256).bind fun t279 => (if t279 = true then (if t270 = t259 then (laws_FnExactBestBreaking.j1 kj10 l1 t256 t259 t260 t267 (t271 != t260) a0_0 a0_1 a0_2) else (laws_FnExactBestBreaking.j1 kj10 l1 t256 t259 t260 t267 true a0_0 a0_1 a0_2)) else (laws_FnExactBestBreaking.j1 kj10 l1 t256 t259 t260 t267 true a0_0 a0_1 a0_2))))) else (some false))) = some r := H
     have A33 := Aside0.mk A330
     clear A330
     replace H := Option.bind_eq_some_iff.mp H
     obtain ⟨t276, A340, H⟩ := H
     replace H : (if t276 = true then ((laws_markIntS.f kj10 t261 1).bind fun bt277 => (if bt277.1 < 0 then (laws_FnExactBestBreaking.j1 kj10 l1 t256 t259 t260 t267 true a0_0 a0_1 a0_2) else ((laws_eqIntS.f kj10 t267 t256).bind fun t279 => (if t279 = true then (if t270 = t259 then (laws_FnExactBestBreaking.j1 kj10 l1 t256 t259 t260 t267 (t271 != t260) a0_0 a0_1 a0_2) else (laws_FnExactBestBreaking.j1 kj10 l1 t256 t259 t260 t267 true a0_0 a0_1 a0_2)) else (laws_FnExactBestBreaking.j1 kj10 l1 t256 t259 t260 t267 true a0_0 a0_1 a0_2))))) else (some false)) = some r := H
     have A34 := Aside0.mk A340
     clear A340
     by_cases c35 : t276 = true
     ·subst c35
      have H1 : ((laws_markIntS.f kj10 t261 1).bind fun bt277 => (if bt277.1 < 0 then (laws_FnExactBestBreaking.j1 kj10 l1 t256 t259 t260 t267 true a0_0 a0_1 a0_2) else ((laws_eqIntS.f kj10 t267 t256).bind fun t279 => (if t279 = true then (if t270 = t259 then (laws_FnExactBestBreaking.j1 kj10 l1 t256 t259 t260 t267 (t271 != t260) a0_0 a0_1 a0_2) else (laws_FnExactBestBreaking.j1 kj10 l1 t256 t259 t260 t267 true a0_0 a0_1 a0_2)) else (laws_FnExactBestBreaking.j1 kj10 l1 t256 t259 t260 t267 true a0_0 a0_1 a0_2))))) = some r := by rw [if_pos rfl] at H; exact H
      clear H
      have H := H1
      clear H1
      replace H := Option.bind_eq_some_iff.mp H
      obtain ⟨⟨t277, t278⟩, A360, H⟩ := H
      replace H : (if t277 < 0 then (laws_FnExactBestBreaking.j1 kj10 l1 t256 t259 t260 t267 true a0_0 a0_1 a0_2) else ((laws_eqIntS.f kj10 t267 t256).bind fun t279 => (if t279 = true then (if t270 = t259 then (laws_FnExactBestBreaking.j1 kj10 l1 t256 t259 t260 t267 (t271 != t260) a0_0 a0_1 a0_2) else (laws_FnExactBestBreaking.j1 kj10 l1 t256 t259 t260 t267 true a0_0 a0_1 a0_2)) else (laws_FnExactBestBreaking.j1 kj10 l1 t256 t259 t260 t267 true a0_0 a0_1 a0_2)))) = some r := H
      have A36 := Aside0.mk A360
      clear A360
      have HC37 := Aside0.mk H
      clear H
      go_upto_region 12 with (first | ((with_reducible refine gate_callee (f := 17) rfl ?_); refine goesL_ (some 56) rfl rfl Try.func17 (by kernel_rfl) rfl #[.slice A1 l1.length c1] rfl zp2 ?_; (with_reducible refine (laws_toIntS.calls kj10 _ _ l1 t273 _ ?side1 ?side2 A33.out).mono ?_); (case side1 => repeat (first | exact (Kd.C_below HR1.out HB.out) | (with_reducible refine Kd.C_alloc ?_ _) | (with_reducible refine Kd.C_drewN ?_ _) | (with_reducible refine Kd.C_drew ?_))); (case side2 => exact HC1.out); rintro e w38 ⟨v274, rfl, ho0, hb⟩; refine ⟨_, rfl, ?_⟩; have n0_ := Aside0.mk (Kd.R_elder' zp14 (Kd.R_base ho0) hb); have n1_ := Aside0.mk (Kd.R_elder' zp8 (Kd.R_base ho0) hb); have n2_ := Aside0.mk (Kd.R_elder' zp11 (Kd.R_base ho0) hb); have n3_ := Aside0.mk (Kd.R_lower (Kd.R_new' (Kd.R_new' (Kd.R_new' ho0 (Kd.R_lt zp14)) (Kd.R_lt zp8)) (Kd.R_lt zp11)) (below_size zp7)); have n4_ := Aside0.mk (blk_below (g := gb249) (o := .cells #[.int .i64 a0_0, .int .i64 a0_1, .int .i64 a0_2] 23 (0, 0)) zp13 hb); have n5_ := Aside0.mk (below_step zp7 hb); clear HO_5; clear HO_8; clear HO_9; clear BK249; clear HB; have HO_5 := n0_; have HO_8 := n1_; have HO_9 := n2_; have HO275 := n3_; have BK249 := n4_; have HB := n5_; clear n0_ n1_ n2_ n3_ n4_ n5_; (try clear hb); (try clear hb2); (try clear hk); (try clear hi); (try clear ho0); obtain ⟨Ao39, co39, eo39⟩ := Kd.R_slice HO275.out; subst eo39) | ((with_reducible refine gate_callee (f := 19) rfl ?_); refine goesL_ (some 57) rfl rfl Try.func19 (by kernel_rfl) rfl #[.slice Ao21 t261.length co21, .slice Ao39 t273.length co39] rfl zp2 ?_; (with_reducible refine (laws_eqIntS.calls kj10 _ _ t261 _ _ t273 true _ ?side1 ?side2 ?side3 ?side4 A34.out).mono ?_); (case side1 => repeat (first | exact (Kd.R_reads' HO_8.out).2.2 | (with_reducible refine Kd.C_alloc ?_ _) | (with_reducible refine Kd.C_drewN ?_ _) | (with_reducible refine Kd.C_drew ?_))); (case side2 => exact (Kd.R_reads' HO_8.out).2.1); (case side3 => repeat (first | exact (Kd.R_reads' HO275.out).2.2 | (with_reducible refine Kd.C_alloc ?_ _) | (with_reducible refine Kd.C_drewN ?_ _) | (with_reducible refine Kd.C_drew ?_))); (case side4 => exact (Kd.R_reads' HO275.out).2.1); rintro e w' ⟨rfl, ⟨nd, rfl⟩⟩; refine ⟨_, rfl, ?_⟩) | ((with_reducible refine gate_callee (f := 20) rfl ?_); refine goesL_ (some 61) rfl rfl Try.func20 (by kernel_rfl) rfl #[.slice Ao21 t261.length co21, .int .i64 1] rfl zp2 ?_; (with_reducible refine (laws_markIntS.calls kj10 (fun k_ => some k_ = (.slice Ao21 t261.length co21 : Value).ownBlock) (.slice Ao21 t261.length co21) t261 1 t277 t278 w _ ?side1 ?side2 A36.out).mono ?_); (case side1 => repeat (first | (with_reducible first | exact HB.out | apply below_alloc | apply pw_below_drewN | apply below_drew1 | refine below_set ?_ GE249.out) | exact HB.out)); (case side2 => exact Kd.R_tight rfl HO_8.out); rintro e w40 ⟨rfl, hy0, hb, hkp⟩; refine ⟨_, rfl, ?_⟩; have n0_ := Aside0.mk (Kd.R_mono (ok' := fun k_ => some k_ ≠ (.slice Ao21 t261.length co21 : Value).ownBlock ∧ some k_ ≠ (v268 : Value).ownBlock ∧ some k_ ≠ (.slice Ao39 t273.length co39 : Value).ownBlock) (Kd.R_keptB (HO_5.out) hkp (fun k_ hk_ hs_ => (hk_.1.1) hs_)) (fun k_ hk_ => ⟨hk_.1.1.1, hk_.1.1.2, hk_.1.2⟩)); have n1_ := Aside0.mk (Kd.R_reok rfl hy0 (fun k_ e_ => HO_8.out.1 k_ e_)); have n2_ := Aside0.mk (Kd.R_mono (ok' := fun k_ => some k_ ≠ (v257 : Value).ownBlock ∧ some k_ ≠ (.slice Ao21 t261.length co21 : Value).ownBlock ∧ some k_ ≠ (.slice Ao39 t273.length co39 : Value).ownBlock) (Kd.R_keptB (HO_9.out) hkp (fun k_ hk_ hs_ => (hk_.1.2) hs_)) (fun k_ hk_ => ⟨hk_.1.1.1, hk_.1.1.2, hk_.1.2⟩)); have n3_ := Aside0.mk (blk_kept zp13 hkp (fun hs_ => (fun e_ => (Kd.R_ne HO_8.out BK249.out (by decide)) e_) hs_)); have n4_ := Aside0.mk (Kd.R_mono (ok' := fun k_ => some k_ ≠ (v257 : Value).ownBlock ∧ some k_ ≠ (.slice Ao21 t261.length co21 : Value).ownBlock ∧ some k_ ≠ (v268 : Value).ownBlock) (Kd.R_keptB (HO275.out) hkp (fun k_ hk_ hs_ => (hk_.1.2) hs_)) (fun k_ hk_ => ⟨hk_.1.1.1.2, hk_.1.1.2, hk_.1.2⟩)); have n5_ := Aside0.mk (hb); clear HO_5; clear HO_8; clear HO_9; clear BK249; clear HO275; clear HB; have HO_5 := n0_; have HO_8 := n1_; have HO_9 := n2_; have BK249 := n3_; have HO275 := n4_; have HB := n5_; clear n0_ n1_ n2_ n3_ n4_ n5_; (try clear hb); (try clear hkp); (try clear hy0)))
      (try simp only [Act.put, List.setIfInBounds_toArray, List.set_cons_zero, List.set_cons_succ])
      go_cut [79] (fun v79 wc => ∃ (kq : Nat) (x79_36 : Bool), v79 = .bool x79_36 ∧ Aside0 (laws_FnExactBestBreaking.j1 kq l1 t256 t259 t260 t267 x79_36 a0_0 a0_1 a0_2 = some r) ∧ Aside0 (kq ≤ kj10) ∧ Aside0 (Kd.R (Kd.int .i64) 3 wc w.heap.size (fun k_ => some k_ ≠ (v268 : Value).ownBlock) v257 t256) ∧ Aside0 (Kd.R (Kd.int .i64) 3 wc w.heap.size (fun k_ => some k_ ≠ (v257 : Value).ownBlock) v268 t267) ∧ Aside0 (wc.heap[gb249]? = some (.cells #[.int .i64 a0_0, .int .i64 a0_1, .int .i64 a0_2] 23 (0, 0))) ∧ Aside0 (Below w.heap.size w wc))
      case first =>
       have H := HC37.out
       clear HC37
       by_cases c41 : t277 < 0
       ·rw [if_pos c41] at H
        have c41b0 : decide (t277 < 0) = true := decide_eq_true c41
        clear c41
        (first | rw [c41b0] | (simp only [i64_w, i32_w]; rw [c41b0]) | skip)
        have H' := Aside0.mk H
        clear H
        go_wp2
        go_meet
        case rel => exact ⟨_, (true), zp6, H', ⟨by have := HJ10.out; first | omega | exact Nat.le_refl _⟩, ⟨by (with_reducible repeat (first | apply Kd.R_alloc | apply Kd.R_drewN | apply Kd.R_drew)); exact Kd.R_mono HO_5.out (fun _ hk => hk.2.1)⟩, ⟨by (with_reducible repeat (first | apply Kd.R_alloc | apply Kd.R_drewN | apply Kd.R_drew)); exact Kd.R_mono HO_9.out (fun _ hk => hk.1)⟩, ⟨by (with_reducible repeat (first | refine blk_drewN ?_ _ | refine blk_drew ?_ | refine blk_alloc ?_ _)); exact BK249.out⟩, ⟨by repeat (first | (with_reducible first | exact HB.out | apply below_alloc | apply pw_below_drewN | apply below_drew1 | refine below_set ?_ GE249.out) | exact HB.out)⟩⟩
       ·rw [if_neg c41] at H
        have c41b0 : decide (t277 < 0) = false := decide_eq_false c41
        clear c41
        (first | rw [c41b0] | (simp only [i64_w, i32_w]; rw [c41b0]) | skip)
        replace H := Option.bind_eq_some_iff.mp H
        obtain ⟨t279, A420, H⟩ := H
        replace H : (if t279 = true then (if t270 = t259 then (laws_FnExactBestBreaking.j1 kj10 l1 t256 t259 t260 t267 (t271 != t260) a0_0 a0_1 a0_2) else (laws_FnExactBestBreaking.j1 kj10 l1 t256 t259 t260 t267 true a0_0 a0_1 a0_2)) else (laws_FnExactBestBreaking.j1 kj10 l1 t256 t259 t260 t267 true a0_0 a0_1 a0_2)) = some r := H
        have A42 := Aside0.mk A420
        clear A420
        by_cases c43 : t279 = true
        ·subst c43
         have H1 : (if t270 = t259 then (laws_FnExactBestBreaking.j1 kj10 l1 t256 t259 t260 t267 (t271 != t260) a0_0 a0_1 a0_2) else (laws_FnExactBestBreaking.j1 kj10 l1 t256 t259 t260 t267 true a0_0 a0_1 a0_2)) = some r := by rw [if_pos rfl] at H; exact H
         clear H
         have H := H1
         clear H1
         by_cases c44 : t270 = t259
         ·rw [if_pos c44] at H
          have c44b0 : (t270 == t259) = true := beq_iff_eq.mpr c44
          have c44b1 : (t270 != t259) = false := bne_eq_false_iff_eq.mpr c44
          clear c44
          have H' := Aside0.mk H
          clear H
          obtain ⟨Ao45, co45, eo45⟩ := Kd.R_slice HO_9.out
          subst eo45
          obtain ⟨Ao46, co46, eo46⟩ := Kd.R_slice HO_5.out
          subst eo46
          go_wp2_with (first | (go_at_call 19; (with_reducible refine (laws_eqIntS.calls kj10 _ _ t267 _ _ t256 true _ ?side1 ?side2 ?side3 ?side4 A42.out).mono ?_); (case side1 => repeat (first | exact (Kd.R_reads' HO_9.out).2.2 | (with_reducible refine Kd.C_alloc ?_ _) | (with_reducible refine Kd.C_drewN ?_ _) | (with_reducible refine Kd.C_drew ?_))); (case side2 => exact (Kd.R_reads' HO_9.out).2.1); (case side3 => repeat (first | exact (Kd.R_reads' HO_5.out).2.2 | (with_reducible refine Kd.C_alloc ?_ _) | (with_reducible refine Kd.C_drewN ?_ _) | (with_reducible refine Kd.C_drew ?_))); (case side4 => exact (Kd.R_reads' HO_5.out).2.1); rintro e w' ⟨rfl, ⟨nd, rfl⟩⟩))
          go_meet
          case rel => exact ⟨_, ((t271 != t260)), zp6, H', ⟨by have := HJ10.out; first | omega | exact Nat.le_refl _⟩, ⟨by (with_reducible repeat (first | apply Kd.R_alloc | apply Kd.R_drewN | apply Kd.R_drew)); exact Kd.R_mono HO_5.out (fun _ hk => hk.2.1)⟩, ⟨by (with_reducible repeat (first | apply Kd.R_alloc | apply Kd.R_drewN | apply Kd.R_drew)); exact Kd.R_mono HO_9.out (fun _ hk => hk.1)⟩, ⟨by (with_reducible repeat (first | refine blk_drewN ?_ _ | refine blk_drew ?_ | refine blk_alloc ?_ _)); exact BK249.out⟩, ⟨by repeat (first | (with_reducible first | exact HB.out | apply below_alloc | apply pw_below_drewN | apply below_drew1 | refine below_set ?_ GE249.out) | exact HB.out)⟩⟩
         ·rw [if_neg c44] at H
          have c44b0 : (t270 == t259) = false := beq_eq_false_iff_ne.mpr c44
          have c44b1 : (t270 != t259) = true := bne_iff_ne.mpr c44
          have H' := Aside0.mk H
          clear H
          obtain ⟨Ao47, co47, eo47⟩ := Kd.R_slice HO_9.out
          subst eo47
          obtain ⟨Ao48, co48, eo48⟩ := Kd.R_slice HO_5.out
          subst eo48
          go_wp2_with (first | (go_at_call 19; (with_reducible refine (laws_eqIntS.calls kj10 _ _ t267 _ _ t256 true _ ?side1 ?side2 ?side3 ?side4 A42.out).mono ?_); (case side1 => repeat (first | exact (Kd.R_reads' HO_9.out).2.2 | (with_reducible refine Kd.C_alloc ?_ _) | (with_reducible refine Kd.C_drewN ?_ _) | (with_reducible refine Kd.C_drew ?_))); (case side2 => exact (Kd.R_reads' HO_9.out).2.1); (case side3 => repeat (first | exact (Kd.R_reads' HO_5.out).2.2 | (with_reducible refine Kd.C_alloc ?_ _) | (with_reducible refine Kd.C_drewN ?_ _) | (with_reducible refine Kd.C_drew ?_))); (case side4 => exact (Kd.R_reads' HO_5.out).2.1); rintro e w' ⟨rfl, ⟨nd, rfl⟩⟩))
          go_meet
          case rel => exact ⟨_, (true), zp6, H', ⟨by have := HJ10.out; first | omega | exact Nat.le_refl _⟩, ⟨by (with_reducible repeat (first | apply Kd.R_alloc | apply Kd.R_drewN | apply Kd.R_drew)); exact Kd.R_mono HO_5.out (fun _ hk => hk.2.1)⟩, ⟨by (with_reducible repeat (first | apply Kd.R_alloc | apply Kd.R_drewN | apply Kd.R_drew)); exact Kd.R_mono HO_9.out (fun _ hk => hk.1)⟩, ⟨by (with_reducible repeat (first | refine blk_drewN ?_ _ | refine blk_drew ?_ | refine blk_alloc ?_ _)); exact BK249.out⟩, ⟨by repeat (first | (with_reducible first | exact HB.out | apply below_alloc | apply pw_below_drewN | apply below_drew1 | refine below_set ?_ GE249.out) | exact HB.out)⟩⟩
        ·replace c43 := Bool.eq_false_iff.mpr c43
         subst c43
         have H1 : (laws_FnExactBestBreaking.j1 kj10 l1 t256 t259 t260 t267 true a0_0 a0_1 a0_2) = some r := by rw [if_neg (show ¬ (false = true) by decide)] at H; exact H
         clear H
         have H := H1
         clear H1
         have H' := Aside0.mk H
         clear H
         obtain ⟨Ao49, co49, eo49⟩ := Kd.R_slice HO_9.out
         subst eo49
         obtain ⟨Ao50, co50, eo50⟩ := Kd.R_slice HO_5.out
         subst eo50
         go_wp2_with (first | (go_at_call 19; (with_reducible refine (laws_eqIntS.calls kj10 _ _ t267 _ _ t256 false _ ?side1 ?side2 ?side3 ?side4 A42.out).mono ?_); (case side1 => repeat (first | exact (Kd.R_reads' HO_9.out).2.2 | (with_reducible refine Kd.C_alloc ?_ _) | (with_reducible refine Kd.C_drewN ?_ _) | (with_reducible refine Kd.C_drew ?_))); (case side2 => exact (Kd.R_reads' HO_9.out).2.1); (case side3 => repeat (first | exact (Kd.R_reads' HO_5.out).2.2 | (with_reducible refine Kd.C_alloc ?_ _) | (with_reducible refine Kd.C_drewN ?_ _) | (with_reducible refine Kd.C_drew ?_))); (case side4 => exact (Kd.R_reads' HO_5.out).2.1); rintro e w' ⟨rfl, ⟨nd, rfl⟩⟩))
         go_meet
         case rel => exact ⟨_, (true), zp6, H', ⟨by have := HJ10.out; first | omega | exact Nat.le_refl _⟩, ⟨by (with_reducible repeat (first | apply Kd.R_alloc | apply Kd.R_drewN | apply Kd.R_drew)); exact Kd.R_mono HO_5.out (fun _ hk => hk.2.1)⟩, ⟨by (with_reducible repeat (first | apply Kd.R_alloc | apply Kd.R_drewN | apply Kd.R_drew)); exact Kd.R_mono HO_9.out (fun _ hk => hk.1)⟩, ⟨by (with_reducible repeat (first | refine blk_drewN ?_ _ | refine blk_drew ?_ | refine blk_alloc ?_ _)); exact BK249.out⟩, ⟨by repeat (first | (with_reducible first | exact HB.out | apply below_alloc | apply pw_below_drewN | apply below_drew1 | refine below_set ?_ GE249.out) | exact HB.out)⟩⟩
      case rest =>
       clear HC37
       try clear c1
       try clear c2
       try clear p2
       try clear c3
       try clear c3b0
       try clear c3b1
       try clear c4
       try clear c9
       try clear c16
       try clear c17
       try clear c19
       try clear c20
       try clear c24
       try clear c25
       try clear c25b0
       try clear c25b1
       try clear c32
       try clear c35
       try clear c38
       try clear c39
       try clear c41
       try clear c41b0
       try clear c43
       try clear c44
       try clear c44b0
       try clear c44b1
       try clear hcz13_0
       try clear hcz13_1
       try clear hcz13_2
       try clear hcz19_0
       try clear hcz19_1
       try clear hcz19_2
       try clear hfz13_0
       try clear hfz13_1
       try clear hfz13_2
       try clear hfz19_0
       try clear hfz19_1
       try clear hfz19_2
       try clear p2
       obtain ⟨kq, x79_36, rfl, HA, HJ36, HO_5, HO_9, BK249, HB⟩ := hcut
       cases kq with
       | zero => exact absurd HA.out (by simp [laws_FnExactBestBreaking.j1])
       | succ kj36 =>
        have H := HA.out
        clear HA
        simp only [laws_FnExactBestBreaking.j1] at H
        by_cases c51 : x79_36 = true
        ·subst c51
         have H1 : (some false) = some r := by rw [if_pos rfl] at H; exact H
         clear H
         have H := H1
         clear H1
         obtain rfl := Option.some.inj H
         go_wp2
         go_ret
         exact ⟨by first | rfl | (simp [errW_none, errW_some] <;> rfl) | (simp [*, errW_none, errW_some] <;> rfl), by repeat (first | (with_reducible first | exact HB.out | apply below_alloc | apply pw_below_drewN | apply below_drew1 | refine below_set ?_ GE249.out) | exact HB.out)⟩
        ·replace c51 := Bool.eq_false_iff.mpr c51
         subst c51
         have H1 : ((laws_markIntS.f kj36 t267 1).bind fun bt280 => ((laws_heldIntS.f kj36 bt280.2 1).bind fun t282 => (if t282 < 0 then (some false) else (if t282 = bt280.1 then ((laws_toMeasure.f a0_0 a0_1 a0_2).bind fun bt283 => ((laws_toIntS.f kj36 l1).bind fun t286 => ((impl_BestBreaking.f kj36 bt283.1 bt283.2.1 bt283.2.2 t286).bind fun bt289 => ((laws_eqIntS.f kj36 bt289.1 t256).bind fun t294 => (if t294 = true then (if bt289.2.1 = t259 then (laws_FnExactBestBreaking.j2 kj36 bt280.2 bt280.1 (bt289.2.2 != t260)) else (laws_FnExactBestBreaking.j2 kj36 bt280.2 bt280.1 true)) else (laws_FnExactBestBreaking.j2 kj36 bt280.2 bt280.1 true)))))) else (some false))))) = some r := by rw [if_neg (show ¬ (false = true) by decide)] at H; exact H
         clear H
         have H := H1
         clear H1
         replace H := Option.bind_eq_some_iff.mp H
         obtain ⟨⟨t280, t281⟩, A520, H⟩ := H
         replace H : ((laws_heldIntS.f kj36 t281 1).bind fun t282 => (if t282 < 0 then (some false) else (if t282 = t280 then ((laws_toMeasure.f a0_0 a0_1 a0_2).bind fun bt283 => ((laws_toIntS.f kj36 l1).bind fun t286 => ((impl_BestBreaking.f kj36 bt283.1 bt283.2.1 bt283.2.2 t286).bind fun bt289 => ((laws_eqIntS.f kj36 bt289.1 t256).bind fun t294 => (if t294 = true then (if bt289.2.1 = t259 then (laws_FnExactBestBreaking.j2 kj36 t281 t280 (bt289.2.2 != t260)) else (laws_FnExactBestBreaking.j2 kj36 t281 t280 true)) else (laws_FnExactBestBreaking.j2 kj36 t281 t280 true)))))) else (some false)))) = some r := H
         have A52 := Aside0.mk A520
         clear A520
         replace H := Option.bind_eq_some_iff.mp H
         obtain ⟨t282, A530, H⟩ := H
         replace H : (if t282 < 0 then (some false) else (if t282 = t280 then ((laws_toMeasure.f a0_0 a0_1 a0_2).bind fun bt283 => ((laws_toIntS.f kj36 l1).bind fun t286 => ((impl_BestBreaking.f kj36 bt283.1 bt283.2.1 bt283.2.2 t286).bind fun bt289 => ((laws_eqIntS.f kj36 bt289.1 t256).bind fun t294 => (if t294 = true then (if bt289.2.1 = t259 then (laws_FnExactBestBreaking.j2 kj36 t281 t280 (bt289.2.2 != t260)) else (laws_FnExactBestBreaking.j2 kj36 t281 t280 true)) else (laws_FnExactBestBreaking.j2 kj36 t281 t280 true)))))) else (some false))) = some r := H
         have A53 := Aside0.mk A530
         clear A530
         by_cases c54 : t282 < 0
         ·rw [if_pos c54] at H
          have c54b0 : decide (t282 < 0) = true := decide_eq_true c54
          clear c54
          obtain rfl := Option.some.inj H
          obtain ⟨Ao55, co55, eo55⟩ := Kd.R_slice HO_9.out
          subst eo55
          go_wp2_with (first | ((with_reducible refine gate_callee (f := 20) rfl ?_); refine goesL_ (some 82) rfl rfl Try.func20 (by kernel_rfl) rfl #[.slice Ao55 t267.length co55, .int .i64 1] rfl zp2 ?_; (with_reducible refine (laws_markIntS.calls kj36 (fun k_ => some k_ = (.slice Ao55 t267.length co55 : Value).ownBlock) (.slice Ao55 t267.length co55) t267 1 t280 t281 w _ ?side1 ?side2 A52.out).mono ?_); (case side1 => repeat (first | (with_reducible first | exact HB.out | apply below_alloc | apply pw_below_drewN | apply below_drew1 | refine below_set ?_ GE249.out) | exact HB.out)); (case side2 => exact Kd.R_tight rfl HO_9.out); rintro e w56 ⟨rfl, hy0, hb, hkp⟩; refine ⟨_, rfl, ?_⟩; have n0_ := Aside0.mk (Kd.R_mono (ok' := fun k_ => some k_ ≠ (.slice Ao55 t267.length co55 : Value).ownBlock) (Kd.R_keptB (HO_5.out) hkp (fun k_ hk_ hs_ => (hk_) hs_)) (fun k_ hk_ => hk_.1)); have n1_ := Aside0.mk (Kd.R_reok rfl hy0 (fun k_ e_ => HO_9.out.1 k_ e_)); have n2_ := Aside0.mk (blk_kept zp13 hkp (fun hs_ => (fun e_ => (Kd.R_ne HO_9.out BK249.out (by decide)) e_) hs_)); have n3_ := Aside0.mk (hb); clear HO_5; clear HO_9; clear BK249; clear HB; have HO_5 := n0_; have HO_9 := n1_; have BK249 := n2_; have HB := n3_; clear n0_ n1_ n2_ n3_; (try clear hb); (try clear hkp); (try clear hy0)) | ((with_reducible refine gate_callee (f := 21) rfl ?_); refine goesL_ (some 85) rfl rfl Try.func21 (by kernel_rfl) rfl #[.slice Ao55 t281.length co55, .int .i64 1] rfl zp32 ?_; (with_reducible refine (laws_heldIntS.calls kj36 _ _ t281 1 t282 _ ?side1 ?side2 A53.out).mono ?_); (case side1 => repeat (first | exact (Kd.R_reads' HO_9.out).2.2 | (with_reducible refine Kd.C_alloc ?_ _) | (with_reducible refine Kd.C_drewN ?_ _) | (with_reducible refine Kd.C_drew ?_))); (case side2 => rw [show t281.length = t267.length from (Kd.R_reads' HO_9.out).1.symm]; exact (Kd.R_reads' HO_9.out).2.1); rintro e w' ⟨rfl, ⟨nd, rfl⟩⟩; refine ⟨_, rfl, ?_⟩))
          go_ret
          exact ⟨by first | rfl | (simp [errW_none, errW_some] <;> rfl) | (simp [*, errW_none, errW_some] <;> rfl), by repeat (first | (with_reducible first | exact HB.out | apply below_alloc | apply pw_below_drewN | apply below_drew1 | refine below_set ?_ GE249.out) | exact HB.out)⟩
         ·rw [if_neg c54] at H
          have c54b0 : decide (t282 < 0) = false := decide_eq_false c54
          clear c54
          by_cases c57 : t282 = t280
          ·rw [if_pos c57] at H
           have c57b0 : (t282 == t280) = true := beq_iff_eq.mpr c57
           have c57b1 : (t282 != t280) = false := bne_eq_false_iff_eq.mpr c57
           clear c57
           replace H := Option.bind_eq_some_iff.mp H
           obtain ⟨⟨t283, t284, t285⟩, A580, H⟩ := H
           replace H : ((laws_toIntS.f kj36 l1).bind fun t286 => ((impl_BestBreaking.f kj36 t283 t284 t285 t286).bind fun bt289 => ((laws_eqIntS.f kj36 bt289.1 t256).bind fun t294 => (if t294 = true then (if bt289.2.1 = t259 then (laws_FnExactBestBreaking.j2 kj36 t281 t280 (bt289.2.2 != t260)) else (laws_FnExactBestBreaking.j2 kj36 t281 t280 true)) else (laws_FnExactBestBreaking.j2 kj36 t281 t280 true))))) = some r := H
           have A58 := Aside0.mk A580
           clear A580
           replace H := Option.bind_eq_some_iff.mp H
           obtain ⟨t286, A590, H⟩ := H
           replace H : ((impl_BestBreaking.f kj36 t283 t284 t285 t286).bind fun bt289 => ((laws_eqIntS.f kj36 bt289.1 t256).bind fun t294 => (if t294 = true then (if bt289.2.1 = t259 then (laws_FnExactBestBreaking.j2 kj36 t281 t280 (bt289.2.2 != t260)) else (laws_FnExactBestBreaking.j2 kj36 t281 t280 true)) else (laws_FnExactBestBreaking.j2 kj36 t281 t280 true)))) = some r := H
           have A59 := Aside0.mk A590
           clear A590
           replace H := Option.bind_eq_some_iff.mp H
           obtain ⟨⟨t289, t292, t293⟩, A600, H⟩ := H
           replace H : ((laws_eqIntS.f kj36 t289 t256).bind fun t294 => (if t294 = true then (if t292 = t259 then (laws_FnExactBestBreaking.j2 kj36 t281 t280 (t293 != t260)) else (laws_FnExactBestBreaking.j2 kj36 t281 t280 true)) else (laws_FnExactBestBreaking.j2 kj36 t281 t280 true))) = some r := H
           have A60 := Aside0.mk A600
           clear A600
           have HC61 := Aside0.mk H
           clear H
           obtain ⟨Ao62, co62, eo62⟩ := Kd.R_slice HO_9.out
           subst eo62
           go_upto_region 23 with (first | ((with_reducible refine gate_callee (f := 20) rfl ?_); refine goesL_ (some 82) rfl rfl Try.func20 (by kernel_rfl) rfl #[.slice Ao62 t267.length co62, .int .i64 1] rfl zp2 ?_; (with_reducible refine (laws_markIntS.calls kj36 (fun k_ => some k_ = (.slice Ao62 t267.length co62 : Value).ownBlock) (.slice Ao62 t267.length co62) t267 1 t280 t281 w _ ?side1 ?side2 A52.out).mono ?_); (case side1 => repeat (first | (with_reducible first | exact HB.out | apply below_alloc | apply pw_below_drewN | apply below_drew1 | refine below_set ?_ GE249.out) | exact HB.out)); (case side2 => exact Kd.R_tight rfl HO_9.out); rintro e w63 ⟨rfl, hy0, hb, hkp⟩; refine ⟨_, rfl, ?_⟩; have n0_ := Aside0.mk (Kd.R_mono (ok' := fun k_ => some k_ ≠ (.slice Ao62 t267.length co62 : Value).ownBlock) (Kd.R_keptB (HO_5.out) hkp (fun k_ hk_ hs_ => (hk_) hs_)) (fun k_ hk_ => hk_.1)); have n1_ := Aside0.mk (Kd.R_reok rfl hy0 (fun k_ e_ => HO_9.out.1 k_ e_)); have n2_ := Aside0.mk (blk_kept zp13 hkp (fun hs_ => (fun e_ => (Kd.R_ne HO_9.out BK249.out (by decide)) e_) hs_)); have n3_ := Aside0.mk (hb); clear HO_5; clear HO_9; clear BK249; clear HB; have HO_5 := n0_; have HO_9 := n1_; have BK249 := n2_; have HB := n3_; clear n0_ n1_ n2_ n3_; (try clear hb); (try clear hkp); (try clear hy0)) | ((with_reducible refine gate_callee (f := 21) rfl ?_); refine goesL_ (some 85) rfl rfl Try.func21 (by kernel_rfl) rfl #[.slice Ao62 t281.length co62, .int .i64 1] rfl zp32 ?_; (with_reducible refine (laws_heldIntS.calls kj36 _ _ t281 1 t282 _ ?side1 ?side2 A53.out).mono ?_); (case side1 => repeat (first | exact (Kd.R_reads' HO_9.out).2.2 | (with_reducible refine Kd.C_alloc ?_ _) | (with_reducible refine Kd.C_drewN ?_ _) | (with_reducible refine Kd.C_drew ?_))); (case side2 => rw [show t281.length = t267.length from (Kd.R_reads' HO_9.out).1.symm]; exact (Kd.R_reads' HO_9.out).2.1); rintro e w' ⟨rfl, ⟨nd, rfl⟩⟩; refine ⟨_, rfl, ?_⟩; have hcz64_0 : w63.cell? ⟨gb249, 0, none⟩ = some (.int .i64 a0_0) := (blk_cell BK249.out 0).trans rfl; have hcz64_1 : w63.cell? ⟨gb249, 1, none⟩ = some (.int .i64 a0_1) := (blk_cell BK249.out 1).trans rfl; have hcz64_2 : w63.cell? ⟨gb249, 2, none⟩ = some (.int .i64 a0_2) := (blk_cell BK249.out 2).trans rfl; have hfz64_0 := blk_frozen BK249.out 0; have hfz64_1 := blk_frozen BK249.out 1; have hfz64_2 := blk_frozen BK249.out 2) | ((with_reducible refine gate_callee (f := 16) rfl ?_); refine goesL_ (some 93) rfl rfl Try.func16 (by kernel_rfl) rfl #[.agg #[.int .i64 a0_0, .int .i64 a0_1, .int .i64 a0_2]] rfl zp2 ?_; (with_reducible refine (laws_toMeasure.calls a0_0 a0_1 a0_2 t283 t284 t285 _ A58.out).mono ?_); rintro e w65 ⟨rfl, hb⟩; refine ⟨_, rfl, ?_⟩; have n0_ := Aside0.mk (Kd.R_below zp14 hb); have n1_ := Aside0.mk (Kd.R_below zp11 hb); have n2_ := Aside0.mk (blk_below (g := gb249) (o := .cells #[.int .i64 a0_0, .int .i64 a0_1, .int .i64 a0_2] 23 (0, 0)) zp13 hb); have n3_ := Aside0.mk (below_step zp7 hb); clear HO_5; clear HO_9; clear BK249; clear HB; have HO_5 := n0_; have HO_9 := n1_; have BK249 := n2_; have HB := n3_; clear n0_ n1_ n2_ n3_; (try clear hb); (try clear hb2); (try clear hk); (try clear hi)) | ((with_reducible refine gate_callee (f := 17) rfl ?_); refine goesL_ (some 95) rfl rfl Try.func17 (by kernel_rfl) rfl #[.slice A1 l1.length c1] rfl zp2 ?_; (with_reducible refine (laws_toIntS.calls kj36 _ _ l1 t286 _ ?side1 ?side2 A59.out).mono ?_); (case side1 => repeat (first | exact (Kd.C_below HR1.out HB.out) | (with_reducible refine Kd.C_alloc ?_ _) | (with_reducible refine Kd.C_drewN ?_ _) | (with_reducible refine Kd.C_drew ?_))); (case side2 => exact HC1.out); rintro e w66 ⟨v287, rfl, ho0, hb⟩; refine ⟨_, rfl, ?_⟩; have n0_ := Aside0.mk (Kd.R_elder' zp14 (Kd.R_base ho0) hb); have n1_ := Aside0.mk (Kd.R_elder' zp11 (Kd.R_base ho0) hb); have n2_ := Aside0.mk (Kd.R_lower (Kd.R_new' (Kd.R_new' ho0 (Kd.R_lt zp14)) (Kd.R_lt zp11)) (below_size zp7)); have n3_ := Aside0.mk (blk_below (g := gb249) (o := .cells #[.int .i64 a0_0, .int .i64 a0_1, .int .i64 a0_2] 23 (0, 0)) zp13 hb); have n4_ := Aside0.mk (below_step zp7 hb); clear HO_5; clear HO_9; clear BK249; clear HB; have HO_5 := n0_; have HO_9 := n1_; have HO288 := n2_; have BK249 := n3_; have HB := n4_; clear n0_ n1_ n2_ n3_ n4_; (try clear hb); (try clear hb2); (try clear hk); (try clear hi); (try clear ho0); obtain ⟨Ao67, co67, eo67⟩ := Kd.R_slice HO288.out; subst eo67) | ((with_reducible refine gate_callee (f := 39) rfl ?_); refine goesL_ (some 96) rfl rfl Try.func39 (by kernel_rfl) rfl #[.agg #[.int .i64 t283, .int .i64 t284, .int .i64 t285], .slice Ao67 t286.length co67] rfl zp2 ?_; (with_reducible refine (impl_BestBreaking.calls kj36 t283 t284 t285 _ _ t286 t289 t292 t293 _ ?side1 ?side2 A60.out).mono ?_); (case side1 => repeat (first | exact (Kd.R_reads' HO288.out).2.2 | (with_reducible refine Kd.C_alloc ?_ _) | (with_reducible refine Kd.C_drewN ?_ _) | (with_reducible refine Kd.C_drew ?_))); (case side2 => exact (Kd.R_reads' HO288.out).2.1); rintro e w68 ⟨v290, rfl, ho0, hb⟩; refine ⟨_, rfl, ?_⟩; have n0_ := Aside0.mk (Kd.R_elder' zp14 (Kd.R_base ho0) hb); have n1_ := Aside0.mk (Kd.R_elder' zp11 (Kd.R_base ho0) hb); have n2_ := Aside0.mk (Kd.R_elder' (by (with_reducible repeat (first | apply Kd.R_alloc | apply Kd.R_drewN | apply Kd.R_drew)); exact HO288.out) (Kd.R_base ho0) hb); have n3_ := Aside0.mk (Kd.R_lower (Kd.R_new' (Kd.R_new' (Kd.R_new' ho0 (Kd.R_lt zp14)) (Kd.R_lt zp11)) (Kd.R_lt (by (with_reducible repeat (first | apply Kd.R_alloc | apply Kd.R_drewN | apply Kd.R_drew)); exact HO288.out))) (below_size zp7)); have n4_ := Aside0.mk (blk_below (g := gb249) (o := .cells #[.int .i64 a0_0, .int .i64 a0_1, .int .i64 a0_2] 23 (0, 0)) zp13 hb); have n5_ := Aside0.mk (below_step zp7 hb); clear HO_5; clear HO_9; clear HO288; clear BK249; clear HB; have HO_5 := n0_; have HO_9 := n1_; have HO288 := n2_; have HO291 := n3_; have BK249 := n4_; have HB := n5_; clear n0_ n1_ n2_ n3_ n4_ n5_; (try clear hb); (try clear hb2); (try clear hk); (try clear hi); (try clear ho0)))
           (try simp only [Act.put, List.setIfInBounds_toArray, List.set_cons_zero, List.set_cons_succ])
           go_cut [113] (fun v113 wc => ∃ (kq : Nat) (x113_60 : Bool), v113 = .bool x113_60 ∧ Aside0 (laws_FnExactBestBreaking.j2 kq t281 t280 x113_60 = some r) ∧ Aside0 (kq ≤ kj36) ∧ Aside0 (Kd.R (Kd.int .i64) 3 wc w.heap.size (fun _ => True) (.slice Ao62 t267.length co62) t281) ∧ Aside0 (wc.heap[gb249]? = some (.cells #[.int .i64 a0_0, .int .i64 a0_1, .int .i64 a0_2] 23 (0, 0))) ∧ Aside0 (Below w.heap.size w wc))
           case first =>
            have H := HC61.out
            clear HC61
            replace H := Option.bind_eq_some_iff.mp H
            obtain ⟨t294, A690, H⟩ := H
            replace H : (if t294 = true then (if t292 = t259 then (laws_FnExactBestBreaking.j2 kj36 t281 t280 (t293 != t260)) else (laws_FnExactBestBreaking.j2 kj36 t281 t280 true)) else (laws_FnExactBestBreaking.j2 kj36 t281 t280 true)) = some r := H
            have A69 := Aside0.mk A690
            clear A690
            by_cases c70 : t294 = true
            ·subst c70
             have H1 : (if t292 = t259 then (laws_FnExactBestBreaking.j2 kj36 t281 t280 (t293 != t260)) else (laws_FnExactBestBreaking.j2 kj36 t281 t280 true)) = some r := by rw [if_pos rfl] at H; exact H
             clear H
             have H := H1
             clear H1
             by_cases c71 : t292 = t259
             ·rw [if_pos c71] at H
              have c71b0 : (t292 == t259) = true := beq_iff_eq.mpr c71
              have c71b1 : (t292 != t259) = false := bne_eq_false_iff_eq.mpr c71
              clear c71
              (first | rw [c71b0] | (simp only [i64_w, i32_w]; rw [c71b0]) | skip)
              have H' := Aside0.mk H
              clear H
              obtain ⟨Ao72, co72, eo72⟩ := Kd.R_slice HO291.out
              subst eo72
              obtain ⟨Ao73, co73, eo73⟩ := Kd.R_slice HO_5.out
              subst eo73
              go_wp2_with (first | ((with_reducible refine gate_callee (f := 19) rfl ?_); refine goesL_ (some 102) rfl rfl Try.func19 (by kernel_rfl) rfl #[.slice Ao72 t289.length co72, .slice Ao73 t256.length co73] rfl zp2 ?_; (with_reducible refine (laws_eqIntS.calls kj36 _ _ t289 _ _ t256 true _ ?side1 ?side2 ?side3 ?side4 A69.out).mono ?_); (case side1 => repeat (first | exact (Kd.R_reads' HO291.out).2.2 | (with_reducible refine Kd.C_alloc ?_ _) | (with_reducible refine Kd.C_drewN ?_ _) | (with_reducible refine Kd.C_drew ?_))); (case side2 => exact (Kd.R_reads' HO291.out).2.1); (case side3 => repeat (first | exact (Kd.R_reads' HO_5.out).2.2 | (with_reducible refine Kd.C_alloc ?_ _) | (with_reducible refine Kd.C_drewN ?_ _) | (with_reducible refine Kd.C_drew ?_))); (case side4 => exact (Kd.R_reads' HO_5.out).2.1); rintro e w' ⟨rfl, ⟨nd, rfl⟩⟩; refine ⟨_, rfl, ?_⟩))
              go_meet
              case rel => exact ⟨_, ((t293 != t260)), zp6, H', ⟨by have := HJ10.out; have := HJ36.out; first | omega | exact Nat.le_refl _⟩, ⟨by (with_reducible repeat (first | apply Kd.R_alloc | apply Kd.R_drewN | apply Kd.R_drew)); exact Kd.R_mono HO_9.out (fun _ hk => trivial)⟩, ⟨by (with_reducible repeat (first | refine blk_drewN ?_ _ | refine blk_drew ?_ | refine blk_alloc ?_ _)); exact BK249.out⟩, ⟨by repeat (first | (with_reducible first | exact HB.out | apply below_alloc | apply pw_below_drewN | apply below_drew1 | refine below_set ?_ GE249.out) | exact HB.out)⟩⟩
             ·rw [if_neg c71] at H
              have c71b0 : (t292 == t259) = false := beq_eq_false_iff_ne.mpr c71
              have c71b1 : (t292 != t259) = true := bne_iff_ne.mpr c71
              (first | rw [c71b0] | (simp only [i64_w, i32_w]; rw [c71b0]) | skip)
              have H' := Aside0.mk H
              clear H
              obtain ⟨Ao74, co74, eo74⟩ := Kd.R_slice HO291.out
              subst eo74
              obtain ⟨Ao75, co75, eo75⟩ := Kd.R_slice HO_5.out
              subst eo75
              go_wp2_with (first | ((with_reducible refine gate_callee (f := 19) rfl ?_); refine goesL_ (some 102) rfl rfl Try.func19 (by kernel_rfl) rfl #[.slice Ao74 t289.length co74, .slice Ao75 t256.length co75] rfl zp2 ?_; (with_reducible refine (laws_eqIntS.calls kj36 _ _ t289 _ _ t256 true _ ?side1 ?side2 ?side3 ?side4 A69.out).mono ?_); (case side1 => repeat (first | exact (Kd.R_reads' HO291.out).2.2 | (with_reducible refine Kd.C_alloc ?_ _) | (with_reducible refine Kd.C_drewN ?_ _) | (with_reducible refine Kd.C_drew ?_))); (case side2 => exact (Kd.R_reads' HO291.out).2.1); (case side3 => repeat (first | exact (Kd.R_reads' HO_5.out).2.2 | (with_reducible refine Kd.C_alloc ?_ _) | (with_reducible refine Kd.C_drewN ?_ _) | (with_reducible refine Kd.C_drew ?_))); (case side4 => exact (Kd.R_reads' HO_5.out).2.1); rintro e w' ⟨rfl, ⟨nd, rfl⟩⟩; refine ⟨_, rfl, ?_⟩))
              go_meet
              case rel => exact ⟨_, (true), zp6, H', ⟨by have := HJ10.out; have := HJ36.out; first | omega | exact Nat.le_refl _⟩, ⟨by (with_reducible repeat (first | apply Kd.R_alloc | apply Kd.R_drewN | apply Kd.R_drew)); exact Kd.R_mono HO_9.out (fun _ hk => trivial)⟩, ⟨by (with_reducible repeat (first | refine blk_drewN ?_ _ | refine blk_drew ?_ | refine blk_alloc ?_ _)); exact BK249.out⟩, ⟨by repeat (first | (with_reducible first | exact HB.out | apply below_alloc | apply pw_below_drewN | apply below_drew1 | refine below_set ?_ GE249.out) | exact HB.out)⟩⟩
            ·replace c70 := Bool.eq_false_iff.mpr c70
             subst c70
             have H1 : (laws_FnExactBestBreaking.j2 kj36 t281 t280 true) = some r := by rw [if_neg (show ¬ (false = true) by decide)] at H; exact H
             clear H
             have H := H1
             clear H1
             have H' := Aside0.mk H
             clear H
             obtain ⟨Ao76, co76, eo76⟩ := Kd.R_slice HO291.out
             subst eo76
             obtain ⟨Ao77, co77, eo77⟩ := Kd.R_slice HO_5.out
             subst eo77
             go_wp2_with (first | ((with_reducible refine gate_callee (f := 19) rfl ?_); refine goesL_ (some 102) rfl rfl Try.func19 (by kernel_rfl) rfl #[.slice Ao76 t289.length co76, .slice Ao77 t256.length co77] rfl zp2 ?_; (with_reducible refine (laws_eqIntS.calls kj36 _ _ t289 _ _ t256 false _ ?side1 ?side2 ?side3 ?side4 A69.out).mono ?_); (case side1 => repeat (first | exact (Kd.R_reads' HO291.out).2.2 | (with_reducible refine Kd.C_alloc ?_ _) | (with_reducible refine Kd.C_drewN ?_ _) | (with_reducible refine Kd.C_drew ?_))); (case side2 => exact (Kd.R_reads' HO291.out).2.1); (case side3 => repeat (first | exact (Kd.R_reads' HO_5.out).2.2 | (with_reducible refine Kd.C_alloc ?_ _) | (with_reducible refine Kd.C_drewN ?_ _) | (with_reducible refine Kd.C_drew ?_))); (case side4 => exact (Kd.R_reads' HO_5.out).2.1); rintro e w' ⟨rfl, ⟨nd, rfl⟩⟩; refine ⟨_, rfl, ?_⟩))
             go_meet
             case rel => exact ⟨_, (true), zp6, H', ⟨by have := HJ10.out; have := HJ36.out; first | omega | exact Nat.le_refl _⟩, ⟨by (with_reducible repeat (first | apply Kd.R_alloc | apply Kd.R_drewN | apply Kd.R_drew)); exact Kd.R_mono HO_9.out (fun _ hk => trivial)⟩, ⟨by (with_reducible repeat (first | refine blk_drewN ?_ _ | refine blk_drew ?_ | refine blk_alloc ?_ _)); exact BK249.out⟩, ⟨by repeat (first | (with_reducible first | exact HB.out | apply below_alloc | apply pw_below_drewN | apply below_drew1 | refine below_set ?_ GE249.out) | exact HB.out)⟩⟩
           case rest =>
            clear HC61
            try clear c1
            try clear c2
            try clear p2
            try clear c3
            try clear c3b0
            try clear c3b1
            try clear c4
            try clear c5
            try clear c7
            try clear c9
            try clear c16
            try clear c17
            try clear c19
            try clear c20
            try clear c21
            try clear c24
            try clear c25
            try clear c25b0
            try clear c25b1
            try clear c32
            try clear c35
            try clear c38
            try clear c39
            try clear c41
            try clear c41b0
            try clear c43
            try clear c44
            try clear c44b0
            try clear c44b1
            try clear c51
            try clear c54
            try clear c54b0
            try clear c57
            try clear c57b0
            try clear c57b1
            try clear c70
            try clear c71
            try clear c71b0
            try clear c71b1
            try clear hcz13_0
            try clear hcz13_1
            try clear hcz13_2
            try clear hcz19_0
            try clear hcz19_1
            try clear hcz19_2
            try clear hcz64_0
            try clear hcz64_1
            try clear hcz64_2
            try clear hfz13_0
            try clear hfz13_1
            try clear hfz13_2
            try clear hfz19_0
            try clear hfz19_1
            try clear hfz19_2
            try clear hfz64_0
            try clear hfz64_1
            try clear hfz64_2
            try clear p2
            obtain ⟨kq, x113_60, rfl, HA, HJ60, HO_9, BK249, HB⟩ := hcut
            have hl9_60 := (Kd.R_reads' HO_9.out).1
            rw [hl9_60] at HO_9
            (try simp only [hl9_60])
            (try simp only [hl9_60] at BK249)
            cases kq with
            | zero => exact absurd HA.out (by simp [laws_FnExactBestBreaking.j2])
            | succ kj60 =>
             have H := HA.out
             clear HA
             simp only [laws_FnExactBestBreaking.j2] at H
             by_cases c78 : x113_60 = true
             ·subst c78
              have H1 : (some false) = some r := by rw [if_pos rfl] at H; exact H
              clear H
              have H := H1
              clear H1
              obtain rfl := Option.some.inj H
              go_wp2
              go_ret
              exact ⟨by first | rfl | (simp [errW_none, errW_some] <;> rfl) | (simp [*, errW_none, errW_some] <;> rfl), by repeat (first | (with_reducible first | exact HB.out | apply below_alloc | apply pw_below_drewN | apply below_drew1 | refine below_set ?_ GE249.out) | exact HB.out)⟩
             ·replace c78 := Bool.eq_false_iff.mpr c78
              subst c78
              have H1 : ((laws_heldIntS.f kj60 t281 1).bind fun t295 => (if t295 < 0 then (some false) else (if t295 = t280 then (some true) else (some false)))) = some r := by rw [if_neg (show ¬ (false = true) by decide)] at H; exact H
              clear H
              have H := H1
              clear H1
              replace H := Option.bind_eq_some_iff.mp H
              obtain ⟨t295, A790, H⟩ := H
              replace H : (if t295 < 0 then (some false) else (if t295 = t280 then (some true) else (some false))) = some r := H
              have A79 := Aside0.mk A790
              clear A790
              by_cases c80 : t295 < 0
              ·rw [if_pos c80] at H
               have c80b0 : decide (t295 < 0) = true := decide_eq_true c80
               clear c80
               obtain rfl := Option.some.inj H
               go_wp2_with (first | ((with_reducible refine gate_callee (f := 21) rfl ?_); refine goesL_ (some 116) rfl rfl Try.func21 (by kernel_rfl) rfl #[.slice Ao62 t281.length co62, .int .i64 1] rfl zp2 ?_; (with_reducible refine (laws_heldIntS.calls kj60 _ _ t281 1 t295 _ ?side1 ?side2 A79.out).mono ?_); (case side1 => repeat (first | exact (Kd.R_reads' HO_9.out).2.2 | (with_reducible refine Kd.C_alloc ?_ _) | (with_reducible refine Kd.C_drewN ?_ _) | (with_reducible refine Kd.C_drew ?_))); (case side2 => exact (Kd.R_reads' HO_9.out).2.1); rintro e w' ⟨rfl, ⟨nd, rfl⟩⟩; refine ⟨_, rfl, ?_⟩))
               go_ret
               exact ⟨by first | rfl | (simp [errW_none, errW_some] <;> rfl) | (simp [*, errW_none, errW_some] <;> rfl), by repeat (first | (with_reducible first | exact HB.out | apply below_alloc | apply pw_below_drewN | apply below_drew1 | refine below_set ?_ GE249.out) | exact HB.out)⟩
              ·rw [if_neg c80] at H
               have c80b0 : decide (t295 < 0) = false := decide_eq_false c80
               clear c80
               by_cases c81 : t295 = t280
               ·rw [if_pos c81] at H
                have c81b0 : (t295 == t280) = true := beq_iff_eq.mpr c81
                have c81b1 : (t295 != t280) = false := bne_eq_false_iff_eq.mpr c81
                clear c81
                obtain rfl := Option.some.inj H
                go_wp2_with (first | ((with_reducible refine gate_callee (f := 21) rfl ?_); refine goesL_ (some 116) rfl rfl Try.func21 (by kernel_rfl) rfl #[.slice Ao62 t281.length co62, .int .i64 1] rfl zp2 ?_; (with_reducible refine (laws_heldIntS.calls kj60 _ _ t281 1 t295 _ ?side1 ?side2 A79.out).mono ?_); (case side1 => repeat (first | exact (Kd.R_reads' HO_9.out).2.2 | (with_reducible refine Kd.C_alloc ?_ _) | (with_reducible refine Kd.C_drewN ?_ _) | (with_reducible refine Kd.C_drew ?_))); (case side2 => exact (Kd.R_reads' HO_9.out).2.1); rintro e w' ⟨rfl, ⟨nd, rfl⟩⟩; refine ⟨_, rfl, ?_⟩))
                go_ret
                exact ⟨by first | rfl | (simp [errW_none, errW_some] <;> rfl) | (simp [*, errW_none, errW_some] <;> rfl), by repeat (first | (with_reducible first | exact HB.out | apply below_alloc | apply pw_below_drewN | apply below_drew1 | refine below_set ?_ GE249.out) | exact HB.out)⟩
               ·rw [if_neg c81] at H
                have c81b0 : (t295 == t280) = false := beq_eq_false_iff_ne.mpr c81
                have c81b1 : (t295 != t280) = true := bne_iff_ne.mpr c81
                obtain rfl := Option.some.inj H
                go_wp2_with (first | ((with_reducible refine gate_callee (f := 21) rfl ?_); refine goesL_ (some 116) rfl rfl Try.func21 (by kernel_rfl) rfl #[.slice Ao62 t281.length co62, .int .i64 1] rfl zp2 ?_; (with_reducible refine (laws_heldIntS.calls kj60 _ _ t281 1 t295 _ ?side1 ?side2 A79.out).mono ?_); (case side1 => repeat (first | exact (Kd.R_reads' HO_9.out).2.2 | (with_reducible refine Kd.C_alloc ?_ _) | (with_reducible refine Kd.C_drewN ?_ _) | (with_reducible refine Kd.C_drew ?_))); (case side2 => exact (Kd.R_reads' HO_9.out).2.1); rintro e w' ⟨rfl, ⟨nd, rfl⟩⟩; refine ⟨_, rfl, ?_⟩))
                go_ret
                exact ⟨by first | rfl | (simp [errW_none, errW_some] <;> rfl) | (simp [*, errW_none, errW_some] <;> rfl), by repeat (first | (with_reducible first | exact HB.out | apply below_alloc | apply pw_below_drewN | apply below_drew1 | refine below_set ?_ GE249.out) | exact HB.out)⟩
          ·rw [if_neg c57] at H
           have c57b0 : (t282 == t280) = false := beq_eq_false_iff_ne.mpr c57
           have c57b1 : (t282 != t280) = true := bne_iff_ne.mpr c57
           obtain rfl := Option.some.inj H
           obtain ⟨Ao82, co82, eo82⟩ := Kd.R_slice HO_9.out
           subst eo82
           go_wp2_with (first | ((with_reducible refine gate_callee (f := 20) rfl ?_); refine goesL_ (some 82) rfl rfl Try.func20 (by kernel_rfl) rfl #[.slice Ao82 t267.length co82, .int .i64 1] rfl zp2 ?_; (with_reducible refine (laws_markIntS.calls kj36 (fun k_ => some k_ = (.slice Ao82 t267.length co82 : Value).ownBlock) (.slice Ao82 t267.length co82) t267 1 t280 t281 w _ ?side1 ?side2 A52.out).mono ?_); (case side1 => repeat (first | (with_reducible first | exact HB.out | apply below_alloc | apply pw_below_drewN | apply below_drew1 | refine below_set ?_ GE249.out) | exact HB.out)); (case side2 => exact Kd.R_tight rfl HO_9.out); rintro e w83 ⟨rfl, hy0, hb, hkp⟩; refine ⟨_, rfl, ?_⟩; have n0_ := Aside0.mk (Kd.R_mono (ok' := fun k_ => some k_ ≠ (.slice Ao82 t267.length co82 : Value).ownBlock) (Kd.R_keptB (HO_5.out) hkp (fun k_ hk_ hs_ => (hk_) hs_)) (fun k_ hk_ => hk_.1)); have n1_ := Aside0.mk (Kd.R_reok rfl hy0 (fun k_ e_ => HO_9.out.1 k_ e_)); have n2_ := Aside0.mk (blk_kept zp13 hkp (fun hs_ => (fun e_ => (Kd.R_ne HO_9.out BK249.out (by decide)) e_) hs_)); have n3_ := Aside0.mk (hb); clear HO_5; clear HO_9; clear BK249; clear HB; have HO_5 := n0_; have HO_9 := n1_; have BK249 := n2_; have HB := n3_; clear n0_ n1_ n2_ n3_; (try clear hb); (try clear hkp); (try clear hy0)) | ((with_reducible refine gate_callee (f := 21) rfl ?_); refine goesL_ (some 85) rfl rfl Try.func21 (by kernel_rfl) rfl #[.slice Ao82 t281.length co82, .int .i64 1] rfl zp32 ?_; (with_reducible refine (laws_heldIntS.calls kj36 _ _ t281 1 t282 _ ?side1 ?side2 A53.out).mono ?_); (case side1 => repeat (first | exact (Kd.R_reads' HO_9.out).2.2 | (with_reducible refine Kd.C_alloc ?_ _) | (with_reducible refine Kd.C_drewN ?_ _) | (with_reducible refine Kd.C_drew ?_))); (case side2 => rw [show t281.length = t267.length from (Kd.R_reads' HO_9.out).1.symm]; exact (Kd.R_reads' HO_9.out).2.1); rintro e w' ⟨rfl, ⟨nd, rfl⟩⟩; refine ⟨_, rfl, ?_⟩))
           go_ret
           exact ⟨by first | rfl | (simp [errW_none, errW_some] <;> rfl) | (simp [*, errW_none, errW_some] <;> rfl), by repeat (first | (with_reducible first | exact HB.out | apply below_alloc | apply pw_below_drewN | apply below_drew1 | refine below_set ?_ GE249.out) | exact HB.out)⟩
     ·replace c35 := Bool.eq_false_iff.mpr c35
      subst c35
      have H1 : (some false) = some r := by rw [if_neg (show ¬ (false = true) by decide)] at H; exact H
      clear H
      have H := H1
      clear H1
      obtain rfl := Option.some.inj H
      go_wp2_with (first | ((with_reducible refine gate_callee (f := 17) rfl ?_); refine goesL_ (some 56) rfl rfl Try.func17 (by kernel_rfl) rfl #[.slice A1 l1.length c1] rfl zp2 ?_; (with_reducible refine (laws_toIntS.calls kj10 _ _ l1 t273 _ ?side1 ?side2 A33.out).mono ?_); (case side1 => repeat (first | exact (Kd.C_below HR1.out HB.out) | (with_reducible refine Kd.C_alloc ?_ _) | (with_reducible refine Kd.C_drewN ?_ _) | (with_reducible refine Kd.C_drew ?_))); (case side2 => exact HC1.out); rintro e w84 ⟨v274, rfl, ho0, hb⟩; refine ⟨_, rfl, ?_⟩; have n0_ := Aside0.mk (Kd.R_elder' zp14 (Kd.R_base ho0) hb); have n1_ := Aside0.mk (Kd.R_elder' zp8 (Kd.R_base ho0) hb); have n2_ := Aside0.mk (Kd.R_elder' zp11 (Kd.R_base ho0) hb); have n3_ := Aside0.mk (Kd.R_lower (Kd.R_new' (Kd.R_new' (Kd.R_new' ho0 (Kd.R_lt zp14)) (Kd.R_lt zp8)) (Kd.R_lt zp11)) (below_size zp7)); have n4_ := Aside0.mk (blk_below (g := gb249) (o := .cells #[.int .i64 a0_0, .int .i64 a0_1, .int .i64 a0_2] 23 (0, 0)) zp13 hb); have n5_ := Aside0.mk (below_step zp7 hb); clear HO_5; clear HO_8; clear HO_9; clear BK249; clear HB; have HO_5 := n0_; have HO_8 := n1_; have HO_9 := n2_; have HO275 := n3_; have BK249 := n4_; have HB := n5_; clear n0_ n1_ n2_ n3_ n4_ n5_; (try clear hb); (try clear hb2); (try clear hk); (try clear hi); (try clear ho0); obtain ⟨Ao85, co85, eo85⟩ := Kd.R_slice HO275.out; subst eo85) | ((with_reducible refine gate_callee (f := 19) rfl ?_); refine goesL_ (some 57) rfl rfl Try.func19 (by kernel_rfl) rfl #[.slice Ao21 t261.length co21, .slice Ao85 t273.length co85] rfl zp2 ?_; (with_reducible refine (laws_eqIntS.calls kj10 _ _ t261 _ _ t273 false _ ?side1 ?side2 ?side3 ?side4 A34.out).mono ?_); (case side1 => repeat (first | exact (Kd.R_reads' HO_8.out).2.2 | (with_reducible refine Kd.C_alloc ?_ _) | (with_reducible refine Kd.C_drewN ?_ _) | (with_reducible refine Kd.C_drew ?_))); (case side2 => exact (Kd.R_reads' HO_8.out).2.1); (case side3 => repeat (first | exact (Kd.R_reads' HO275.out).2.2 | (with_reducible refine Kd.C_alloc ?_ _) | (with_reducible refine Kd.C_drewN ?_ _) | (with_reducible refine Kd.C_drew ?_))); (case side4 => exact (Kd.R_reads' HO275.out).2.1); rintro e w' ⟨rfl, ⟨nd, rfl⟩⟩; refine ⟨_, rfl, ?_⟩))
      go_ret
      exact ⟨by first | rfl | (simp [errW_none, errW_some] <;> rfl) | (simp [*, errW_none, errW_some] <;> rfl), by repeat (first | (with_reducible first | exact HB.out | apply below_alloc | apply pw_below_drewN | apply below_drew1 | refine below_set ?_ GE249.out) | exact HB.out)⟩
def laws_FnExactBestBreaking.Pure : Prop := ∀ (a0_0 : Int) (a0_1 : Int) (a0_2 : Int) (l1 : List Int), (Lit.int .i64 a0_0).wf = true → (Lit.int .i64 a0_1).wf = true → (Lit.int .i64 a0_2).wf = true → (l1.length ≤ maxLen ∧ ∀ y2_ ∈ l1, (Lit.int .i64 y2_).wf = true) → ∃ k, laws_FnExactBestBreaking.f k a0_0 a0_1 a0_2 l1 = some true
end Go.Proofs.Ytnbmlblcmjaclaa.PFnExactBestBreaking
