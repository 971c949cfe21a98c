/- Written by a program of this session with the help of the kit's print: of each Go function a Lean function, and the proof that its call comes to just what that tells. No condition beyond those that each theorem states. -/
import Derived.Test.YtnbmlblcmjaclaaPFnExactGreedyBreaking0
import Derived.Test.YtnbmlblcmjaclaaPFnExactGreedyBreaking2
import Derived.Test.YtnbmlblcmjaclaaPFnExactGreedyBreaking5
import Derived.Test.YtnbmlblcmjaclaaPFnExactGreedyBreaking6
namespace Go.Proofs.Ytnbmlblcmjaclaa.PFnExactGreedyBreaking
open Go.RowKit Go.Proofs.YtnbmlblcmjaclaaW.PrintWords Go.Proofs.YtnbmlblcmjaclaaW.PrintLast Go.Proofs.YtnbmlblcmjaclaaW.PrintMore
attribute [local go_sem] max2_int min2_int max_two min_two max_three min_three max_four min_four
set_option linter.unusedVariables false
set_option linter.unusedSimpArgs false
mutual
def laws_FnExactGreedyBreaking.j0 : Nat → List Int → List Int → Bool → List Int → List Int → Bool → Bool → Int → Int → Int → Option (Bool)
 | 0, _, _, _, _, _, _, _, _, _, _ => none
 | k + 1, x1, x5, x6, x7, x8, x9, x43, x184000, x184001, x184002 => if x43 = true then (some false) else ((laws_toIntS.f k x1).bind fun t205 => ((laws_eqIntS.f k x7 t205).bind fun t208 => (if t208 = true then ((laws_markIntS.f k x7 1).bind fun bt209 => (if bt209.1 < 0 then (laws_FnExactGreedyBreaking.j1 k x1 x5 x6 x8 true x184000 x184001 x184002) else ((laws_eqIntS.f k x8 x5).bind fun t211 => (if t211 = true then (laws_FnExactGreedyBreaking.j1 k x1 x5 x6 x8 (x9 != x6) x184000 x184001 x184002) else (laws_FnExactGreedyBreaking.j1 k x1 x5 x6 x8 true x184000 x184001 x184002))))) else (some false))))
def laws_FnExactGreedyBreaking.j1 : Nat → List Int → List Int → Bool → List Int → Bool → Int → Int → Int → Option (Bool)
 | 0, _, _, _, _, _, _, _, _ => none
 | k + 1, x1, x5, x6, x8, x64, x184000, x184001, x184002 => if x64 = true then (some false) else ((laws_markIntS.f k x8 1).bind fun bt212 => ((laws_heldIntS.f k bt212.2 1).bind fun t214 => (if t214 < 0 then (some false) else (if t214 = bt212.1 then ((laws_toMeasure.f x184000 x184001 x184002).bind fun bt215 => ((laws_toIntS.f k x1).bind fun t218 => ((impl_GreedyBreaking.f k bt215.1 bt215.2.1 bt215.2.2 t218).bind fun bt221 => ((laws_eqIntS.f k bt221.1 x5).bind fun t225 => (if t225 = true then (laws_FnExactGreedyBreaking.j2 k bt212.2 bt212.1 (bt221.2 != x6)) else (laws_FnExactGreedyBreaking.j2 k bt212.2 bt212.1 true)))))) else (some false)))))
def laws_FnExactGreedyBreaking.j2 : Nat → List Int → Int → Bool → Option (Bool)
 | 0, _, _, _ => none
 | k + 1, x8, x11, x92 => if x92 = true then (some false) else ((laws_heldIntS.f k x8 1).bind fun t226 => (if t226 < 0 then (some false) else (if t226 = x11 then (some true) else (some false))))
end
def laws_FnExactGreedyBreaking.f (k : Nat) (a0_0 : Int) (a0_1 : Int) (a0_2 : Int) (l1 : List Int) : Option (Bool) := if (l1.length : Int) > 1048576 then (some true) else ((laws_toMeasure.f a0_0 a0_1 a0_2).bind fun bt184 => ((laws_toIntS.f k l1).bind fun t187 => ((spec_GreedyBreaking.f k bt184.1 bt184.2.1 bt184.2.2 t187).bind fun bt190 => ((laws_toIntS.f k l1).bind fun t194 => ((laws_toMeasure.f a0_0 a0_1 a0_2).bind fun bt197 => ((impl_GreedyBreaking.f k bt197.1 bt197.2.1 bt197.2.2 t194).bind fun bt200 => ((laws_eqIntS.f k bt200.1 bt190.1).bind fun t204 => (if t204 = true then (laws_FnExactGreedyBreaking.j0 k l1 bt190.1 bt190.2 t194 bt200.1 bt200.2 (bt200.2 != bt190.2) a0_0 a0_1 a0_2) else (laws_FnExactGreedyBreaking.j0 k l1 bt190.1 bt190.2 t194 bt200.1 bt200.2 true a0_0 a0_1 a0_2)))))))))
theorem laws_FnExactGreedyBreaking.mono_l : ∀ k, (∀ y0 y1 y2 y3 y4 y5 y6 y7 y8 y9, LeO (laws_FnExactGreedyBreaking.j0 k y0 y1 y2 y3 y4 y5 y6 y7 y8 y9) (laws_FnExactGreedyBreaking.j0 (k + 1) y0 y1 y2 y3 y4 y5 y6 y7 y8 y9)) ∧ (∀ y0 y1 y2 y3 y4 y5 y6 y7, LeO (laws_FnExactGreedyBreaking.j1 k y0 y1 y2 y3 y4 y5 y6 y7) (laws_FnExactGreedyBreaking.j1 (k + 1) y0 y1 y2 y3 y4 y5 y6 y7)) ∧ (∀ y0 y1 y2, LeO (laws_FnExactGreedyBreaking.j2 k y0 y1 y2) (laws_FnExactGreedyBreaking.j2 (k + 1) y0 y1 y2))
 | 0 => ⟨fun _ _ _ _ _ _ _ _ _ _ r h => by simp [laws_FnExactGreedyBreaking.j0] at h, fun _ _ _ _ _ _ _ _ r h => by simp [laws_FnExactGreedyBreaking.j1] at h, fun _ _ _ r h => by simp [laws_FnExactGreedyBreaking.j2] at h⟩
 | k + 1 => by
  obtain ⟨ih0, ih1, ih2⟩ := laws_FnExactGreedyBreaking.mono_l k
  refine ⟨?_, ?_, ?_⟩
  ·intro y0 y1 y2 y3 y4 y5 y6 y7 y8 y9
   unfold laws_FnExactGreedyBreaking.j0
   repeat' first
   | (with_reducible exact ih0 _ _ _ _ _ _ _ _ _ _)
   | (with_reducible exact ih1 _ _ _ _ _ _ _ _)
   | (with_reducible exact ih2 _ _ _)
   | (with_reducible exact impl_GreedyBreaking.mono _ _ _ _ _)
   | (with_reducible exact laws_eqIntS.mono _ _ _)
   | (with_reducible exact laws_heldIntS.mono _ _ _)
   | (with_reducible exact laws_markIntS.mono _ _ _)
   | (with_reducible exact laws_toIntS.mono _ _)
   | (with_reducible exact spec_GreedyBreaking.mono _ _ _ _ _)
   | (with_reducible exact LeO.refl _)
   | (with_reducible exact LeO.none _)
   | (with_reducible refine LeO.ite ?_ ?_)
   | (with_reducible refine LeO.bind ?_ (fun _ => ?_))
   | exact ih0 _ _ _ _ _ _ _ _ _ _
   | exact ih1 _ _ _ _ _ _ _ _
   | exact ih2 _ _ _
   | exact impl_GreedyBreaking.mono _ _ _ _ _
   | exact laws_eqIntS.mono _ _ _
   | exact laws_heldIntS.mono _ _ _
   | exact laws_markIntS.mono _ _ _
   | exact laws_toIntS.mono _ _
   | exact spec_GreedyBreaking.mono _ _ _ _ _
   | exact LeO.none _
   | refine LeO.ite ?_ ?_
   | refine LeO.bind ?_ (fun _ => ?_)
  ·intro y0 y1 y2 y3 y4 y5 y6 y7
   unfold laws_FnExactGreedyBreaking.j1
   repeat' first
   | (with_reducible exact ih0 _ _ _ _ _ _ _ _ _ _)
   | (with_reducible exact ih1 _ _ _ _ _ _ _ _)
   | (with_reducible exact ih2 _ _ _)
   | (with_reducible exact impl_GreedyBreaking.mono _ _ _ _ _)
   | (with_reducible exact laws_eqIntS.mono _ _ _)
   | (with_reducible exact laws_heldIntS.mono _ _ _)
   | (with_reducible exact laws_markIntS.mono _ _ _)
   | (with_reducible exact laws_toIntS.mono _ _)
   | (with_reducible exact spec_GreedyBreaking.mono _ _ _ _ _)
   | (with_reducible exact LeO.refl _)
   | (with_reducible exact LeO.none _)
   | (with_reducible refine LeO.ite ?_ ?_)
   | (with_reducible refine LeO.bind ?_ (fun _ => ?_))
   | exact ih0 _ _ _ _ _ _ _ _ _ _
   | exact ih1 _ _ _ _ _ _ _ _
   | exact ih2 _ _ _
   | exact impl_GreedyBreaking.mono _ _ _ _ _
   | exact laws_eqIntS.mono _ _ _
   | exact laws_heldIntS.mono _ _ _
   | exact laws_markIntS.mono _ _ _
   | exact laws_toIntS.mono _ _
   | exact spec_GreedyBreaking.mono _ _ _ _ _
   | exact LeO.none _
   | refine LeO.ite ?_ ?_
   | refine LeO.bind ?_ (fun _ => ?_)
  ·intro y0 y1 y2
   unfold laws_FnExactGreedyBreaking.j2
   repeat' first
   | (with_reducible exact ih0 _ _ _ _ _ _ _ _ _ _)
   | (with_reducible exact ih1 _ _ _ _ _ _ _ _)
   | (with_reducible exact ih2 _ _ _)
   | (with_reducible exact impl_GreedyBreaking.mono _ _ _ _ _)
   | (with_reducible exact laws_eqIntS.mono _ _ _)
   | (with_reducible exact laws_heldIntS.mono _ _ _)
   | (with_reducible exact laws_markIntS.mono _ _ _)
   | (with_reducible exact laws_toIntS.mono _ _)
   | (with_reducible exact spec_GreedyBreaking.mono _ _ _ _ _)
   | (with_reducible exact LeO.refl _)
   | (with_reducible exact LeO.none _)
   | (with_reducible refine LeO.ite ?_ ?_)
   | (with_reducible refine LeO.bind ?_ (fun _ => ?_))
   | exact ih0 _ _ _ _ _ _ _ _ _ _
   | exact ih1 _ _ _ _ _ _ _ _
   | exact ih2 _ _ _
   | exact impl_GreedyBreaking.mono _ _ _ _ _
   | exact laws_eqIntS.mono _ _ _
   | exact laws_heldIntS.mono _ _ _
   | exact laws_markIntS.mono _ _ _
   | exact laws_toIntS.mono _ _
   | exact spec_GreedyBreaking.mono _ _ _ _ _
   | exact LeO.none _
   | refine LeO.ite ?_ ?_
   | refine LeO.bind ?_ (fun _ => ?_)
theorem laws_FnExactGreedyBreaking.mono : ∀ a0 a1 a2 a3 k, LeO (laws_FnExactGreedyBreaking.f k a0 a1 a2 a3) (laws_FnExactGreedyBreaking.f (k + 1) a0 a1 a2 a3) := by
 intro a0 a1 a2 a3 k
 obtain ⟨ih0, ih1, ih2⟩ := laws_FnExactGreedyBreaking.mono_l k
 unfold laws_FnExactGreedyBreaking.f
 repeat' first
  | (with_reducible exact ih0 _ _ _ _ _ _ _ _ _ _)
  | (with_reducible exact ih1 _ _ _ _ _ _ _ _)
  | (with_reducible exact ih2 _ _ _)
  | (with_reducible exact impl_GreedyBreaking.mono _ _ _ _ _)
  | (with_reducible exact laws_eqIntS.mono _ _ _)
  | (with_reducible exact laws_heldIntS.mono _ _ _)
  | (with_reducible exact laws_markIntS.mono _ _ _)
  | (with_reducible exact laws_toIntS.mono _ _)
  | (with_reducible exact spec_GreedyBreaking.mono _ _ _ _ _)
  | (with_reducible exact LeO.refl _)
  | (with_reducible exact LeO.none _)
  | (with_reducible refine LeO.ite ?_ ?_)
  | (with_reducible refine LeO.bind ?_ (fun _ => ?_))
  | exact ih0 _ _ _ _ _ _ _ _ _ _
  | exact ih1 _ _ _ _ _ _ _ _
  | exact ih2 _ _ _
  | exact impl_GreedyBreaking.mono _ _ _ _ _
  | exact laws_eqIntS.mono _ _ _
  | exact laws_heldIntS.mono _ _ _
  | exact laws_markIntS.mono _ _ _
  | exact laws_toIntS.mono _ _
  | exact spec_GreedyBreaking.mono _ _ _ _ _
  | exact LeO.none _
  | refine LeO.ite ?_ ?_
  | refine LeO.bind ?_ (fun _ => ?_)
set_option maxHeartbeats 8000000 in
set_option maxRecDepth 100000 in
theorem laws_FnExactGreedyBreaking.calls (k : Nat) (a0_0 : Int) (a0_1 : Int) (a0_2 : Int) (A1 : Option Addr) (c1 : Nat) (l1 : List Int) (r : Bool) (w : World) (hr1 : Kd.C (Kd.int .i64) w A1 l1.length l1) (hc1 : l1.length ≤ c1) (h : laws_FnExactGreedyBreaking.f k a0_0 a0_1 a0_2 l1 = some r) :
 Calls Try.prog 3 #[.agg #[.int .i64 a0_0, .int .i64 a0_1, .int .i64 a0_2], .slice A1 l1.length c1] w fun e w' => e = .returned (.bool r) ∧ Below w.heap.size w w' := by
 have hu23 := Try.underlying23
 have HR1 := Aside0.mk hr1
 have HC1 := Aside0.mk hc1
 clear hr1 hc1
 have HB := Aside0.mk (Below.refl w.heap.size w)
 have H : (if (l1.length : Int) > 1048576 then (some true) else ((laws_toMeasure.f a0_0 a0_1 a0_2).bind fun bt184 => ((laws_toIntS.f k l1).bind fun t187 => ((spec_GreedyBreaking.f k bt184.1 bt184.2.1 bt184.2.2 t187).bind fun bt190 => ((laws_toIntS.f k l1).bind fun t194 => ((laws_toMeasure.f a0_0 a0_1 a0_2).bind fun bt197 => ((impl_GreedyBreaking.f k bt197.1 bt197.2.1 bt197.2.2 t194).bind fun bt200 => ((laws_eqIntS.f k bt200.1 bt190.1).bind fun t204 => (if t204 = true then (laws_FnExactGreedyBreaking.j0 k l1 bt190.1 bt190.2 t194 bt200.1 bt200.2 (bt200.2 != bt190.2) a0_0 a0_1 a0_2) else (laws_FnExactGreedyBreaking.j0 k l1 bt190.1 bt190.2 t194 bt200.1 bt200.2 true a0_0 a0_1 a0_2)))))))))) = some r := h
 clear h
 by_cases c3 : (l1.length : Int) > 1048576
 ·rw [if_pos c3] at H
  have c3b0 : decide (1048576 < (l1.length : Int)) = true := decide_eq_true c3
  have c3b1 : decide (1048576 < l1.length) = true := decide_eq_true (by omega)
  clear c3
  obtain rfl := Option.some.inj H
  go_enter Try.func3, Try.ntmps3
  go_wp2_with (first | ((with_reducible refine gate_dst (N := 2) rfl ?_); refine box_event ?hg (N := 2) ?hd (cs := #[.int .i64 a0_0, .int .i64 a0_1, .int .i64 a0_2]) (t := 23) ?hr ?_; (case hd => rfl); (case hg => rfl); (case hr => first | (go_simp; done) | (go_simp; rfl)); intro gb183 hg w4 hbox hb; have n0_ := Aside0.mk (below_step zp0 hb); have n1_ := Aside0.mk (hbox); have n2_ := Aside0.mk ((zp2 : w.heap.size ≤ gb183)); have n3_ := Aside0.mk ((zp2 : w.heap.size ≤ gb183)); clear HB; have HB := n0_; have BK183 := n1_; have GW183 := n2_; have GE183 := n3_; clear n0_ n1_ n2_ n3_; clear hb hbox hg))
  go_ret
  exact ⟨by first | rfl | (simp [errW_none, errW_some] <;> rfl) | (simp [*, errW_none, errW_some] <;> rfl), by repeat (first | (with_reducible first | exact HB.out | apply below_alloc | apply pw_below_drewN | apply below_drew1 | refine below_set ?_ GE183.out) | exact HB.out)⟩
 ·rw [if_neg c3] at H
  have c3b0 : decide (1048576 < (l1.length : Int)) = false := decide_eq_false c3
  have c3b1 : decide (1048576 < l1.length) = false := decide_eq_false (by omega)
  clear c3
  replace H := Option.bind_eq_some_iff.mp H
  obtain ⟨⟨t184, t185, t186⟩, A50, H⟩ := H
  replace H : ((laws_toIntS.f k l1).bind fun t187 => ((spec_GreedyBreaking.f k t184 t185 t186 t187).bind fun bt190 => ((laws_toIntS.f k l1).bind fun t194 => ((laws_toMeasure.f a0_0 a0_1 a0_2).bind fun bt197 => ((impl_GreedyBreaking.f k bt197.1 bt197.2.1 bt197.2.2 t194).bind fun bt200 => ((laws_eqIntS.f k bt200.1 bt190.1).bind fun t204 => (if t204 = true then (laws_FnExactGreedyBreaking.j0 k l1 bt190.1 bt190.2 t194 bt200.1 bt200.2 (bt200.2 != bt190.2) a0_0 a0_1 a0_2) else (laws_FnExactGreedyBreaking.j0 k l1 bt190.1 bt190.2 t194 bt200.1 bt200.2 true a0_0 a0_1 a0_2)))))))) = some r := H
  have A5 := Aside0.mk A50
  clear A50
  replace H := Option.bind_eq_some_iff.mp H
  obtain ⟨t187, A60, H⟩ := H
  replace H : ((spec_GreedyBreaking.f k t184 t185 t186 t187).bind fun bt190 => ((laws_toIntS.f k l1).bind fun t194 => ((laws_toMeasure.f a0_0 a0_1 a0_2).bind fun bt197 => ((impl_GreedyBreaking.f k bt197.1 bt197.2.1 bt197.2.2 t194).bind fun bt200 => ((laws_eqIntS.f k bt200.1 bt190.1).bind fun t204 => (if t204 = true then (laws_FnExactGreedyBreaking.j0 k l1 bt190.1 bt190.2 t194 bt200.1 bt200.2 (bt200.2 != bt190.2) a0_0 a0_1 a0_2) else (laws_FnExactGreedyBreaking.j0 k l1 bt190.1 bt190.2 t194 bt200.1 bt200.2 true a0_0 a0_1 a0_2))))))) = some r := H
  have A6 := Aside0.mk A60
  clear A60
  replace H := Option.bind_eq_some_iff.mp H
  obtain ⟨⟨t190, t193⟩, A70, H⟩ := H
  replace H : ((laws_toIntS.f k l1).bind fun t194 => ((laws_toMeasure.f a0_0 a0_1 a0_2).bind fun bt197 => ((impl_GreedyBreaking.f k bt197.1 bt197.2.1 bt197.2.2 t194).bind fun bt200 => ((laws_eqIntS.f k bt200.1 t190).bind fun t204 => (if t204 = true then (laws_FnExactGreedyBreaking.j0 k l1 t190 t193 t194 bt200.1 bt200.2 (bt200.2 != t193) a0_0 a0_1 a0_2) else (laws_FnExactGreedyBreaking.j0 k l1 t190 t193 t194 bt200.1 bt200.2 true a0_0 a0_1 a0_2)))))) = some r := H
  have A7 := Aside0.mk A70
  clear A70
  replace H := Option.bind_eq_some_iff.mp H
  obtain ⟨t194, A80, H⟩ := H
  replace H : ((laws_toMeasure.f a0_0 a0_1 a0_2).bind fun bt197 => ((impl_GreedyBreaking.f k bt197.1 bt197.2.1 bt197.2.2 t194).bind fun bt200 => ((laws_eqIntS.f k bt200.1 t190).bind fun t204 => (if t204 = true then (laws_FnExactGreedyBreaking.j0 k l1 t190 t193 t194 bt200.1 bt200.2 (bt200.2 != t193) a0_0 a0_1 a0_2) else (laws_FnExactGreedyBreaking.j0 k l1 t190 t193 t194 bt200.1 bt200.2 true a0_0 a0_1 a0_2))))) = some r := H
  have A8 := Aside0.mk A80
  clear A80
  replace H := Option.bind_eq_some_iff.mp H
  obtain ⟨⟨t197, t198, t199⟩, A90, H⟩ := H
  replace H : ((impl_GreedyBreaking.f k t197 t198 t199 t194).bind fun bt200 => ((laws_eqIntS.f k bt200.1 t190).bind fun t204 => (if t204 = true then (laws_FnExactGreedyBreaking.j0 k l1 t190 t193 t194 bt200.1 bt200.2 (bt200.2 != t193) a0_0 a0_1 a0_2) else (laws_FnExactGreedyBreaking.j0 k l1 t190 t193 t194 bt200.1 bt200.2 true a0_0 a0_1 a0_2)))) = some r := H
  have A9 := Aside0.mk A90
  clear A90
  replace H := Option.bind_eq_some_iff.mp H
  obtain ⟨⟨t200, t203⟩, A100, H⟩ := H
  replace H : ((laws_eqIntS.f k t200 t190).bind fun t204 => (if t204 = true then (laws_FnExactGreedyBreaking.j0 k l1 t190 t193 t194 t200 t203 (t203 != t193) a0_0 a0_1 a0_2) else (laws_FnExactGreedyBreaking.j0 k l1 t190 t193 t194 t200 t203 true a0_0 a0_1 a0_2))) = some r := H
  have A10 := Aside0.mk A100
  clear A100
  have HC11 := Aside0.mk H
  clear H
  go_enter Try.func3, Try.ntmps3
  go_upto_region 6 with (first | ((with_reducible refine gate_dst (N := 2) rfl ?_); refine box_event ?hg (N := 2) ?hd (cs := #[.int .i64 a0_0, .int .i64 a0_1, .int .i64 a0_2]) (t := 23) ?hr ?_; (case hd => rfl); (case hg => rfl); (case hr => first | (go_simp; done) | (go_simp; rfl)); intro gb183 hg w12 hbox hb; have n0_ := Aside0.mk (below_step zp0 hb); have n1_ := Aside0.mk (hbox); have n2_ := Aside0.mk ((zp2 : w.heap.size ≤ gb183)); have n3_ := Aside0.mk ((zp2 : w.heap.size ≤ gb183)); clear HB; have HB := n0_; have BK183 := n1_; have GW183 := n2_; have GE183 := n3_; clear n0_ n1_ n2_ n3_; clear hb hbox hg; have hcz13_0 : w12.cell? ⟨gb183, 0, none⟩ = some (.int .i64 a0_0) := (blk_cell BK183.out 0).trans rfl; have hcz13_1 : w12.cell? ⟨gb183, 1, none⟩ = some (.int .i64 a0_1) := (blk_cell BK183.out 1).trans rfl; have hcz13_2 : w12.cell? ⟨gb183, 2, none⟩ = some (.int .i64 a0_2) := (blk_cell BK183.out 2).trans rfl; have hfz13_0 := blk_frozen BK183.out 0; have hfz13_1 := blk_frozen BK183.out 1; have hfz13_2 := blk_frozen BK183.out 2) | ((with_reducible refine gate_callee (f := 16) rfl ?_); refine goesL_ (some 20) rfl rfl Try.func16 (by kernel_rfl) rfl #[.agg #[.int .i64 a0_0, .int .i64 a0_1, .int .i64 a0_2]] rfl zp1 ?_; (with_reducible refine (laws_toMeasure.calls a0_0 a0_1 a0_2 t184 t185 t186 _ A5.out).mono ?_); rintro e w14 ⟨rfl, hb⟩; refine ⟨_, rfl, ?_⟩; have n0_ := Aside0.mk (blk_below (g := gb183) (o := .cells #[.int .i64 a0_0, .int .i64 a0_1, .int .i64 a0_2] 23 (0, 0)) zp7 hb); have n1_ := Aside0.mk (below_step zp3 hb); clear BK183; clear HB; have BK183 := n0_; have HB := n1_; clear n0_ n1_; (try clear hb); (try clear hb2); (try clear hk); (try clear hi)) | ((with_reducible refine gate_callee (f := 17) rfl ?_); refine goesL_ (some 22) rfl rfl Try.func17 (by kernel_rfl) rfl #[.slice A1 l1.length c1] rfl zp1 ?_; (with_reducible refine (laws_toIntS.calls k _ _ l1 t187 _ ?side1 ?side2 A6.out).mono ?_); (case side1 => repeat (first | exact (Kd.C_below HR1.out HB.out) | (with_reducible refine Kd.C_alloc ?_ _) | (with_reducible refine Kd.C_drewN ?_ _) | (with_reducible refine Kd.C_drew ?_))); (case side2 => exact HC1.out); rintro e w15 ⟨v188, rfl, ho0, hb⟩; refine ⟨_, rfl, ?_⟩; have n0_ := Aside0.mk (Kd.R_lower ho0 (below_size zp3)); have n1_ := Aside0.mk (blk_below (g := gb183) (o := .cells #[.int .i64 a0_0, .int .i64 a0_1, .int .i64 a0_2] 23 (0, 0)) zp7 hb); have n2_ := Aside0.mk (below_step zp3 hb); clear BK183; clear HB; have HO189 := n0_; have BK183 := n1_; have HB := n2_; clear n0_ n1_ n2_; (try clear hb); (try clear hb2); (try clear hk); (try clear hi); (try clear ho0); obtain ⟨Ao16, co16, eo16⟩ := Kd.R_slice HO189.out; subst eo16) | ((with_reducible refine gate_callee (f := 15) rfl ?_); refine goesL_ (some 23) rfl rfl Try.func15 (by kernel_rfl) rfl #[.agg #[.int .i64 t184, .int .i64 t185, .int .i64 t186], .slice Ao16 t187.length co16] rfl zp1 ?_; (with_reducible refine (spec_GreedyBreaking.calls k t184 t185 t186 _ _ t187 t190 t193 _ ?side1 ?side2 A7.out).mono ?_); (case side1 => repeat (first | exact (Kd.R_reads' HO189.out).2.2 | (with_reducible refine Kd.C_alloc ?_ _) | (with_reducible refine Kd.C_drewN ?_ _) | (with_reducible refine Kd.C_drew ?_))); (case side2 => exact (Kd.R_reads' HO189.out).2.1); rintro e w17 ⟨v191, rfl, ho0, hb⟩; refine ⟨_, rfl, ?_⟩; have n0_ := Aside0.mk (Kd.R_elder' zp20 (Kd.R_base ho0) hb); have n1_ := Aside0.mk (Kd.R_lower (Kd.R_new' ho0 (Kd.R_lt zp20)) (below_size zp3)); have n2_ := Aside0.mk (blk_below (g := gb183) (o := .cells #[.int .i64 a0_0, .int .i64 a0_1, .int .i64 a0_2] 23 (0, 0)) zp7 hb); have n3_ := Aside0.mk (below_step zp3 hb); clear HO189; clear BK183; clear HB; have HO189 := n0_; have HO192 := n1_; have BK183 := n2_; have HB := n3_; clear n0_ n1_ n2_ n3_; (try clear hb); (try clear hb2); (try clear hk); (try clear hi); (try clear ho0)) | ((with_reducible refine gate_callee (f := 17) rfl ?_); refine goesL_ (some 27) rfl rfl Try.func17 (by kernel_rfl) rfl #[.slice A1 l1.length c1] rfl zp1 ?_; (with_reducible refine (laws_toIntS.calls k _ _ l1 t194 _ ?side1 ?side2 A8.out).mono ?_); (case side1 => repeat (first | exact (Kd.C_below HR1.out HB.out) | (with_reducible refine Kd.C_alloc ?_ _) | (with_reducible refine Kd.C_drewN ?_ _) | (with_reducible refine Kd.C_drew ?_))); (case side2 => exact HC1.out); rintro e w18 ⟨v195, rfl, ho0, hb⟩; refine ⟨_, rfl, ?_⟩; have n0_ := Aside0.mk (Kd.R_elder' zp20 (Kd.R_base ho0) hb); have n1_ := Aside0.mk (Kd.R_elder' zp25 (Kd.R_base ho0) hb); have n2_ := Aside0.mk (Kd.R_lower (Kd.R_new' (Kd.R_new' ho0 (Kd.R_lt zp20)) (Kd.R_lt zp25)) (below_size zp3)); have n3_ := Aside0.mk (blk_below (g := gb183) (o := .cells #[.int .i64 a0_0, .int .i64 a0_1, .int .i64 a0_2] 23 (0, 0)) zp7 hb); have n4_ := Aside0.mk (below_step zp3 hb); clear HO189; clear HO192; clear BK183; clear HB; have HO189 := n0_; have HO192 := n1_; have HO196 := n2_; have BK183 := n3_; have HB := n4_; clear n0_ n1_ n2_ n3_ n4_; (try clear hb); (try clear hb2); (try clear hk); (try clear hi); (try clear ho0); have hcz19_0 : w18.cell? ⟨gb183, 0, none⟩ = some (.int .i64 a0_0) := (blk_cell BK183.out 0).trans rfl; have hcz19_1 : w18.cell? ⟨gb183, 1, none⟩ = some (.int .i64 a0_1) := (blk_cell BK183.out 1).trans rfl; have hcz19_2 : w18.cell? ⟨gb183, 2, none⟩ = some (.int .i64 a0_2) := (blk_cell BK183.out 2).trans rfl; have hfz19_0 := blk_frozen BK183.out 0; have hfz19_1 := blk_frozen BK183.out 1; have hfz19_2 := blk_frozen BK183.out 2) | ((with_reducible refine gate_callee (f := 16) rfl ?_); refine goesL_ (some 30) rfl rfl Try.func16 (by kernel_rfl) rfl #[.agg #[.int .i64 a0_0, .int .i64 a0_1, .int .i64 a0_2]] rfl zp1 ?_; (with_reducible refine (laws_toMeasure.calls a0_0 a0_1 a0_2 t197 t198 t199 _ A9.out).mono ?_); rintro e w20 ⟨rfl, hb⟩; refine ⟨_, rfl, ?_⟩; have n0_ := Aside0.mk (Kd.R_below zp20 hb); have n1_ := Aside0.mk (Kd.R_below zp25 hb); have n2_ := Aside0.mk (Kd.R_below zp38 hb); have n3_ := Aside0.mk (blk_below (g := gb183) (o := .cells #[.int .i64 a0_0, .int .i64 a0_1, .int .i64 a0_2] 23 (0, 0)) zp7 hb); have n4_ := Aside0.mk (below_step zp3 hb); clear HO189; clear HO192; clear HO196; clear BK183; clear HB; have HO189 := n0_; have HO192 := n1_; have HO196 := n2_; have BK183 := n3_; have HB := n4_; clear n0_ n1_ n2_ n3_ n4_; (try clear hb); (try clear hb2); (try clear hk); (try clear hi); obtain ⟨Ao21, co21, eo21⟩ := Kd.R_slice HO196.out; subst eo21) | ((with_reducible refine gate_callee (f := 18) rfl ?_); refine goesL_ (some 32) rfl rfl Try.func18 (by kernel_rfl) rfl #[.agg #[.int .i64 t197, .int .i64 t198, .int .i64 t199], .slice Ao21 t194.length co21] rfl zp1 ?_; (with_reducible refine (impl_GreedyBreaking.calls k t197 t198 t199 _ _ t194 t200 t203 _ ?side1 ?side2 A10.out).mono ?_); (case side1 => repeat (first | exact (Kd.R_reads' HO196.out).2.2 | (with_reducible refine Kd.C_alloc ?_ _) | (with_reducible refine Kd.C_drewN ?_ _) | (with_reducible refine Kd.C_drew ?_))); (case side2 => exact (Kd.R_reads' HO196.out).2.1); rintro e w22 ⟨v201, rfl, ho0, hb⟩; refine ⟨_, rfl, ?_⟩; have n0_ := Aside0.mk (Kd.R_elder' zp20 (Kd.R_base ho0) hb); have n1_ := Aside0.mk (Kd.R_elder' zp25 (Kd.R_base ho0) hb); have n2_ := Aside0.mk (Kd.R_elder' zp38 (Kd.R_base ho0) hb); have n3_ := Aside0.mk (Kd.R_lower (Kd.R_new' (Kd.R_new' (Kd.R_new' ho0 (Kd.R_lt zp20)) (Kd.R_lt zp25)) (Kd.R_lt zp38)) (below_size zp3)); have n4_ := Aside0.mk (blk_below (g := gb183) (o := .cells #[.int .i64 a0_0, .int .i64 a0_1, .int .i64 a0_2] 23 (0, 0)) zp7 hb); have n5_ := Aside0.mk (below_step zp3 hb); clear HO189; clear HO192; clear HO196; clear BK183; clear HB; have HO189 := n0_; have HO192 := n1_; have HO196 := n2_; have HO202 := n3_; have BK183 := n4_; have HB := n5_; clear n0_ n1_ n2_ n3_ n4_ n5_; (try clear hb); (try clear hb2); (try clear hk); (try clear hi); (try clear ho0)))
  (try simp only [Act.put, List.setIfInBounds_toArray, List.set_cons_zero, List.set_cons_succ])
  go_cut [43] (fun v43 wc => ∃ (kq : Nat) (x43_10 : Bool), v43 = .bool x43_10 ∧ Aside0 (laws_FnExactGreedyBreaking.j0 kq l1 t190 t193 t194 t200 t203 x43_10 a0_0 a0_1 a0_2 = some r) ∧ Aside0 (kq ≤ k) ∧ Aside0 (Kd.R (Kd.int .i64) 3 wc w.heap.size (fun k_ => some k_ ≠ ((.slice Ao21 t194.length co21) : Value).ownBlock ∧ some k_ ≠ (v201 : Value).ownBlock) v191 t190) ∧ Aside0 (Kd.R (Kd.int .i64) 3 wc w.heap.size (fun k_ => some k_ ≠ (v191 : Value).ownBlock ∧ some k_ ≠ (v201 : Value).ownBlock) (.slice Ao21 t194.length co21) t194) ∧ Aside0 (Kd.R (Kd.int .i64) 3 wc w.heap.size (fun k_ => some k_ ≠ (v191 : Value).ownBlock ∧ some k_ ≠ ((.slice Ao21 t194.length co21) : Value).ownBlock) v201 t200) ∧ Aside0 (wc.heap[gb183]? = some (.cells #[.int .i64 a0_0, .int .i64 a0_1, .int .i64 a0_2] 23 (0, 0))) ∧ Aside0 (Below w.heap.size w wc))
  case first =>
   have H := HC11.out
   clear HC11
   replace H := Option.bind_eq_some_iff.mp H
   obtain ⟨t204, A230, H⟩ := H
   replace H : (if t204 = true then (laws_FnExactGreedyBreaking.j0 k l1 t190 t193 t194 t200 t203 (t203 != t193) a0_0 a0_1 a0_2) else (laws_FnExactGreedyBreaking.j0 k l1 t190 t193 t194 t200 t203 true a0_0 a0_1 a0_2)) = some r := H
   have A23 := Aside0.mk A230
   clear A230
   by_cases c24 : t204 = true
   ·subst c24
    have H1 : (laws_FnExactGreedyBreaking.j0 k l1 t190 t193 t194 t200 t203 (t203 != t193) a0_0 a0_1 a0_2) = some r := by rw [if_pos rfl] at H; exact H
    clear H
    have H := H1
    clear H1
    have H' := Aside0.mk H
    clear H
    obtain ⟨Ao25, co25, eo25⟩ := Kd.R_slice HO202.out
    subst eo25
    obtain ⟨Ao26, co26, eo26⟩ := Kd.R_slice HO192.out
    subst eo26
    go_wp2_with (first | ((with_reducible refine gate_callee (f := 19) rfl ?_); refine goesL_ (some 37) rfl rfl Try.func19 (by kernel_rfl) rfl #[.slice Ao25 t200.length co25, .slice Ao26 t190.length co26] rfl zp1 ?_; (with_reducible refine (laws_eqIntS.calls k _ _ t200 _ _ t190 true _ ?side1 ?side2 ?side3 ?side4 A23.out).mono ?_); (case side1 => repeat (first | exact (Kd.R_reads' HO202.out).2.2 | (with_reducible refine Kd.C_alloc ?_ _) | (with_reducible refine Kd.C_drewN ?_ _) | (with_reducible refine Kd.C_drew ?_))); (case side2 => exact (Kd.R_reads' HO202.out).2.1); (case side3 => repeat (first | exact (Kd.R_reads' HO192.out).2.2 | (with_reducible refine Kd.C_alloc ?_ _) | (with_reducible refine Kd.C_drewN ?_ _) | (with_reducible refine Kd.C_drew ?_))); (case side4 => exact (Kd.R_reads' HO192.out).2.1); rintro e w' ⟨rfl, ⟨nd, rfl⟩⟩; refine ⟨_, rfl, ?_⟩))
    go_meet
    case rel => exact ⟨_, ((t203 != t193)), zp6, H', ⟨by first | omega | exact Nat.le_refl _⟩, ⟨by (with_reducible repeat (first | apply Kd.R_alloc | apply Kd.R_drewN | apply Kd.R_drew)); exact Kd.R_mono HO192.out (fun _ hk => ⟨hk.1.2, hk.2⟩)⟩, ⟨by (with_reducible repeat (first | apply Kd.R_alloc | apply Kd.R_drewN | apply Kd.R_drew)); exact Kd.R_mono HO196.out (fun _ hk => ⟨hk.1.2, hk.2⟩)⟩, ⟨by (with_reducible repeat (first | apply Kd.R_alloc | apply Kd.R_drewN | apply Kd.R_drew)); exact Kd.R_mono HO202.out (fun _ hk => ⟨hk.1.2, hk.2⟩)⟩, ⟨by (with_reducible repeat (first | refine blk_drewN ?_ _ | refine blk_drew ?_ | refine blk_alloc ?_ _)); exact BK183.out⟩, ⟨by repeat (first | (with_reducible first | exact HB.out | apply below_alloc | apply pw_below_drewN | apply below_drew1 | refine below_set ?_ GE183.out) | exact HB.out)⟩⟩
   ·replace c24 := Bool.eq_false_iff.mpr c24
    subst c24
    have H1 : (laws_FnExactGreedyBreaking.j0 k l1 t190 t193 t194 t200 t203 true a0_0 a0_1 a0_2) = some r := by rw [if_neg (show ¬ (false = true) by decide)] at H; exact H
    clear H
    have H := H1
    clear H1
    have H' := Aside0.mk H
    clear H
    obtain ⟨Ao27, co27, eo27⟩ := Kd.R_slice HO202.out
    subst eo27
    obtain ⟨Ao28, co28, eo28⟩ := Kd.R_slice HO192.out
    subst eo28
    go_wp2_with (first | ((with_reducible refine gate_callee (f := 19) rfl ?_); refine goesL_ (some 37) rfl rfl Try.func19 (by kernel_rfl) rfl #[.slice Ao27 t200.length co27, .slice Ao28 t190.length co28] rfl zp1 ?_; (with_reducible refine (laws_eqIntS.calls k _ _ t200 _ _ t190 false _ ?side1 ?side2 ?side3 ?side4 A23.out).mono ?_); (case side1 => repeat (first | exact (Kd.R_reads' HO202.out).2.2 | (with_reducible refine Kd.C_alloc ?_ _) | (with_reducible refine Kd.C_drewN ?_ _) | (with_reducible refine Kd.C_drew ?_))); (case side2 => exact (Kd.R_reads' HO202.out).2.1); (case side3 => repeat (first | exact (Kd.R_reads' HO192.out).2.2 | (with_reducible refine Kd.C_alloc ?_ _) | (with_reducible refine Kd.C_drewN ?_ _) | (with_reducible refine Kd.C_drew ?_))); (case side4 => exact (Kd.R_reads' HO192.out).2.1); rintro e w' ⟨rfl, ⟨nd, rfl⟩⟩; refine ⟨_, rfl, ?_⟩))
    go_meet
    case rel => exact ⟨_, (true), zp6, H', ⟨by first | omega | exact Nat.le_refl _⟩, ⟨by (with_reducible repeat (first | apply Kd.R_alloc | apply Kd.R_drewN | apply Kd.R_drew)); exact Kd.R_mono HO192.out (fun _ hk => ⟨hk.1.2, hk.2⟩)⟩, ⟨by (with_reducible repeat (first | apply Kd.R_alloc | apply Kd.R_drewN | apply Kd.R_drew)); exact Kd.R_mono HO196.out (fun _ hk => ⟨hk.1.2, hk.2⟩)⟩, ⟨by (with_reducible repeat (first | apply Kd.R_alloc | apply Kd.R_drewN | apply Kd.R_drew)); exact Kd.R_mono HO202.out (fun _ hk => ⟨hk.1.2, hk.2⟩)⟩, ⟨by (with_reducible repeat (first | refine blk_drewN ?_ _ | refine blk_drew ?_ | refine blk_alloc ?_ _)); exact BK183.out⟩, ⟨by repeat (first | (with_reducible first | exact HB.out | apply below_alloc | apply pw_below_drewN | apply below_drew1 | refine below_set ?_ GE183.out) | exact HB.out)⟩⟩
  case rest =>
   clear HC11
   try clear c1
   try clear c2
   try clear p2
   try clear c3
   try clear c3b0
   try clear c3b1
   try clear c15
   try clear c16
   try clear c17
   try clear c18
   try clear c19
   try clear c24
   try clear hcz13_0
   try clear hcz13_1
   try clear hcz13_2
   try clear hcz19_0
   try clear hcz19_1
   try clear hcz19_2
   try clear hfz13_0
   try clear hfz13_1
   try clear hfz13_2
   try clear hfz19_0
   try clear hfz19_1
   try clear hfz19_2
   obtain ⟨kq, x43_10, rfl, HA, HJ10, HO_5, HO_7, HO_8, BK183, HB⟩ := hcut
   cases kq with
   | zero => exact absurd HA.out (by simp [laws_FnExactGreedyBreaking.j0])
   | succ kj10 =>
    have H := HA.out
    clear HA
    simp only [laws_FnExactGreedyBreaking.j0] at H
    by_cases c29 : x43_10 = true
    ·subst c29
     have H1 : (some false) = some r := by rw [if_pos rfl] at H; exact H
     clear H
     have H := H1
     clear H1
     obtain rfl := Option.some.inj H
     go_wp2
     go_ret
     exact ⟨by first | rfl | (simp [errW_none, errW_some] <;> rfl) | (simp [*, errW_none, errW_some] <;> rfl), by repeat (first | (with_reducible first | exact HB.out | apply below_alloc | apply pw_below_drewN | apply below_drew1 | refine below_set ?_ GE183.out) | exact HB.out)⟩
    ·replace c29 := Bool.eq_false_iff.mpr c29
     subst c29
     have H1 : ((laws_toIntS.f kj10 l1).bind fun t205 => ((laws_eqIntS.f kj10 t194 t205).bind fun t208 => (if t208 = true then ((laws_markIntS.f kj10 t194 1).bind fun bt209 => (if bt209.1 < 0 then (laws_FnExactGreedyBreaking.j1 kj10 l1 t190 t193 t200 true a0_0 a0_1 a0_2) else ((laws_eqIntS.f kj10 t200 t190).bind fun t211 => (if t211 = true then (laws_FnExactGreedyBreaking.j1 kj10 l1 t190 t193 t200 (t203 != t193) a0_0 a0_1 a0_2) else (laws_FnExactGreedyBreaking.j1 kj10 l1 t190 t193 t200 true a0_0 a0_1 a0_2))))) else (some false)))) = some r := by rw [if_neg (show ¬ (false = true) by decide)] at H; exact H
     clear H
     have H := H1
     clear H1
     replace H := Option.bind_eq_some_iff.mp H
     obtain ⟨t205, A300, H⟩ := H
     replace H : ((laws_eqIntS.f kj10 t194 t205).bind fun t208 => (if t208 = true then ((laws_markIntS.f kj10 t194 1).bind fun bt209 => (if bt209.1 < 0 then (laws_FnExactGreedyBreaking.j1 kj10 l1 t190 t193 t200 true a0_0 a0_1 a0_2) else ((laws_eqIntS.f kj10 t200 t190).bind fun t211 => (if t211 = true then (laws_FnExactGreedyBreaking.j1 kj10 l1 t190 t193 t200 (t203 != t193) a0_0 a0_1 a0_2) else (laws_FnExactGreedyBreaking.j1 kj10 l1 t190 t193 t200 true a0_0 a0_1 a0_2))))) else (some false))) = some r := H
     have A30 := Aside0.mk A300
     clear A300
     replace H := Option.bind_eq_some_iff.mp H
     obtain ⟨t208, A310, H⟩ := H
     replace H : (if t208 = true then ((laws_markIntS.f kj10 t194 1).bind fun bt209 => (if bt209.1 < 0 then (laws_FnExactGreedyBreaking.j1 kj10 l1 t190 t193 t200 true a0_0 a0_1 a0_2) else ((laws_eqIntS.f kj10 t200 t190).bind fun t211 => (if t211 = true then (laws_FnExactGreedyBreaking.j1 kj10 l1 t190 t193 t200 (t203 != t193) a0_0 a0_1 a0_2) else (laws_FnExactGreedyBreaking.j1 kj10 l1 t190 t193 t200 true a0_0 a0_1 a0_2))))) else (some false)) = some r := H
     have A31 := Aside0.mk A310
     clear A310
     by_cases c32 : t208 = true
     ·subst c32
      have H1 : ((laws_markIntS.f kj10 t194 1).bind fun bt209 => (if bt209.1 < 0 then (laws_FnExactGreedyBreaking.j1 kj10 l1 t190 t193 t200 true a0_0 a0_1 a0_2) else ((laws_eqIntS.f kj10 t200 t190).bind fun t211 => (if t211 = true then (laws_FnExactGreedyBreaking.j1 kj10 l1 t190 t193 t200 (t203 != t193) a0_0 a0_1 a0_2) else (laws_FnExactGreedyBreaking.j1 kj10 l1 t190 t193 t200 true a0_0 a0_1 a0_2))))) = some r := by rw [if_pos rfl] at H; exact H
      clear H
      have H := H1
      clear H1
      replace H := Option.bind_eq_some_iff.mp H
      obtain ⟨⟨t209, t210⟩, A330, H⟩ := H
      replace H : (if t209 < 0 then (laws_FnExactGreedyBreaking.j1 kj10 l1 t190 t193 t200 true a0_0 a0_1 a0_2) else ((laws_eqIntS.f kj10 t200 t190).bind fun t211 => (if t211 = true then (laws_FnExactGreedyBreaking.j1 kj10 l1 t190 t193 t200 (t203 != t193) a0_0 a0_1 a0_2) else (laws_FnExactGreedyBreaking.j1 kj10 l1 t190 t193 t200 true a0_0 a0_1 a0_2)))) = some r := H
      have A33 := Aside0.mk A330
      clear A330
      have HC34 := Aside0.mk H
      clear H
      go_upto_region 12 with (first | ((with_reducible refine gate_callee (f := 17) rfl ?_); refine goesL_ (some 46) rfl rfl Try.func17 (by kernel_rfl) rfl #[.slice A1 l1.length c1] rfl zp1 ?_; (with_reducible refine (laws_toIntS.calls kj10 _ _ l1 t205 _ ?side1 ?side2 A30.out).mono ?_); (case side1 => repeat (first | exact (Kd.C_below HR1.out HB.out) | (with_reducible refine Kd.C_alloc ?_ _) | (with_reducible refine Kd.C_drewN ?_ _) | (with_reducible refine Kd.C_drew ?_))); (case side2 => exact HC1.out); rintro e w35 ⟨v206, rfl, ho0, hb⟩; refine ⟨_, rfl, ?_⟩; have n0_ := Aside0.mk (Kd.R_elder' zp15 (Kd.R_base ho0) hb); have n1_ := Aside0.mk (Kd.R_elder' zp31 (Kd.R_base ho0) hb); have n2_ := Aside0.mk (Kd.R_elder' zp14 (Kd.R_base ho0) hb); have n3_ := Aside0.mk (Kd.R_lower (Kd.R_new' (Kd.R_new' (Kd.R_new' ho0 (Kd.R_lt zp15)) (Kd.R_lt zp31)) (Kd.R_lt zp14)) (below_size zp3)); have n4_ := Aside0.mk (blk_below (g := gb183) (o := .cells #[.int .i64 a0_0, .int .i64 a0_1, .int .i64 a0_2] 23 (0, 0)) zp7 hb); have n5_ := Aside0.mk (below_step zp3 hb); clear HO_5; clear HO_7; clear HO_8; clear BK183; clear HB; have HO_5 := n0_; have HO_7 := n1_; have HO_8 := n2_; have HO207 := n3_; have BK183 := n4_; have HB := n5_; clear n0_ n1_ n2_ n3_ n4_ n5_; (try clear hb); (try clear hb2); (try clear hk); (try clear hi); (try clear ho0); obtain ⟨Ao36, co36, eo36⟩ := Kd.R_slice HO207.out; subst eo36) | ((with_reducible refine gate_callee (f := 19) rfl ?_); refine goesL_ (some 47) rfl rfl Try.func19 (by kernel_rfl) rfl #[.slice Ao21 t194.length co21, .slice Ao36 t205.length co36] rfl zp1 ?_; (with_reducible refine (laws_eqIntS.calls kj10 _ _ t194 _ _ t205 true _ ?side1 ?side2 ?side3 ?side4 A31.out).mono ?_); (case side1 => repeat (first | exact (Kd.R_reads' HO_7.out).2.2 | (with_reducible refine Kd.C_alloc ?_ _) | (with_reducible refine Kd.C_drewN ?_ _) | (with_reducible refine Kd.C_drew ?_))); (case side2 => exact (Kd.R_reads' HO_7.out).2.1); (case side3 => repeat (first | exact (Kd.R_reads' HO207.out).2.2 | (with_reducible refine Kd.C_alloc ?_ _) | (with_reducible refine Kd.C_drewN ?_ _) | (with_reducible refine Kd.C_drew ?_))); (case side4 => exact (Kd.R_reads' HO207.out).2.1); rintro e w' ⟨rfl, ⟨nd, rfl⟩⟩; refine ⟨_, rfl, ?_⟩) | ((with_reducible refine gate_callee (f := 20) rfl ?_); refine goesL_ (some 51) rfl rfl Try.func20 (by kernel_rfl) rfl #[.slice Ao21 t194.length co21, .int .i64 1] rfl zp1 ?_; (with_reducible refine (laws_markIntS.calls kj10 (fun k_ => some k_ = (.slice Ao21 t194.length co21 : Value).ownBlock) (.slice Ao21 t194.length co21) t194 1 t209 t210 w _ ?side1 ?side2 A33.out).mono ?_); (case side1 => repeat (first | (with_reducible first | exact HB.out | apply below_alloc | apply pw_below_drewN | apply below_drew1 | refine below_set ?_ GE183.out) | exact HB.out)); (case side2 => exact Kd.R_tight rfl HO_7.out); rintro e w37 ⟨rfl, hy0, hb, hkp⟩; refine ⟨_, rfl, ?_⟩; have n0_ := Aside0.mk (Kd.R_mono (ok' := fun k_ => some k_ ≠ (.slice Ao21 t194.length co21 : Value).ownBlock ∧ some k_ ≠ (v201 : Value).ownBlock ∧ some k_ ≠ (.slice Ao36 t205.length co36 : Value).ownBlock) (Kd.R_keptB (HO_5.out) hkp (fun k_ hk_ hs_ => (hk_.1.1) hs_)) (fun k_ hk_ => ⟨hk_.1.1.1, hk_.1.1.2, hk_.1.2⟩)); have n1_ := Aside0.mk (Kd.R_reok rfl hy0 (fun k_ e_ => HO_7.out.1 k_ e_)); have n2_ := Aside0.mk (Kd.R_mono (ok' := fun k_ => some k_ ≠ (v191 : Value).ownBlock ∧ some k_ ≠ (.slice Ao21 t194.length co21 : Value).ownBlock ∧ some k_ ≠ (.slice Ao36 t205.length co36 : Value).ownBlock) (Kd.R_keptB (HO_8.out) hkp (fun k_ hk_ hs_ => (hk_.1.2) hs_)) (fun k_ hk_ => ⟨hk_.1.1.1, hk_.1.1.2, hk_.1.2⟩)); have n3_ := Aside0.mk (blk_kept zp7 hkp (fun hs_ => (fun e_ => (Kd.R_ne HO_7.out BK183.out (by decide)) e_) hs_)); have n4_ := Aside0.mk (Kd.R_mono (ok' := fun k_ => some k_ ≠ (v191 : Value).ownBlock ∧ some k_ ≠ (.slice Ao21 t194.length co21 : Value).ownBlock ∧ some k_ ≠ (v201 : Value).ownBlock) (Kd.R_keptB (HO207.out) hkp (fun k_ hk_ hs_ => (hk_.1.2) hs_)) (fun k_ hk_ => ⟨hk_.1.1.1.2, hk_.1.1.2, hk_.1.2⟩)); have n5_ := Aside0.mk (hb); clear HO_5; clear HO_7; clear HO_8; clear BK183; clear HO207; clear HB; have HO_5 := n0_; have HO_7 := n1_; have HO_8 := n2_; have BK183 := n3_; have HO207 := n4_; have HB := n5_; clear n0_ n1_ n2_ n3_ n4_ n5_; (try clear hb); (try clear hkp); (try clear hy0)))
      (try simp only [Act.put, List.setIfInBounds_toArray, List.set_cons_zero, List.set_cons_succ])
      go_cut [64] (fun v64 wc => ∃ (kq : Nat) (x64_33 : Bool), v64 = .bool x64_33 ∧ Aside0 (laws_FnExactGreedyBreaking.j1 kq l1 t190 t193 t200 x64_33 a0_0 a0_1 a0_2 = some r) ∧ Aside0 (kq ≤ kj10) ∧ Aside0 (Kd.R (Kd.int .i64) 3 wc w.heap.size (fun k_ => some k_ ≠ (v201 : Value).ownBlock) v191 t190) ∧ Aside0 (Kd.R (Kd.int .i64) 3 wc w.heap.size (fun k_ => some k_ ≠ (v191 : Value).ownBlock) v201 t200) ∧ Aside0 (wc.heap[gb183]? = some (.cells #[.int .i64 a0_0, .int .i64 a0_1, .int .i64 a0_2] 23 (0, 0))) ∧ Aside0 (Below w.heap.size w wc))
      case first =>
       have H := HC34.out
       clear HC34
       by_cases c38 : t209 < 0
       ·rw [if_pos c38] at H
        have c38b0 : decide (t209 < 0) = true := decide_eq_true c38
        clear c38
        (first | rw [c38b0] | (simp only [i64_w, i32_w]; rw [c38b0]) | skip)
        have H' := Aside0.mk H
        clear H
        go_wp2
        go_meet
        case rel => exact ⟨_, (true), zp6, H', ⟨by have := HJ10.out; first | omega | exact Nat.le_refl _⟩, ⟨by (with_reducible repeat (first | apply Kd.R_alloc | apply Kd.R_drewN | apply Kd.R_drew)); exact Kd.R_mono HO_5.out (fun _ hk => hk.2.1)⟩, ⟨by (with_reducible repeat (first | apply Kd.R_alloc | apply Kd.R_drewN | apply Kd.R_drew)); exact Kd.R_mono HO_8.out (fun _ hk => hk.1)⟩, ⟨by (with_reducible repeat (first | refine blk_drewN ?_ _ | refine blk_drew ?_ | refine blk_alloc ?_ _)); exact BK183.out⟩, ⟨by repeat (first | (with_reducible first | exact HB.out | apply below_alloc | apply pw_below_drewN | apply below_drew1 | refine below_set ?_ GE183.out) | exact HB.out)⟩⟩
       ·rw [if_neg c38] at H
        have c38b0 : decide (t209 < 0) = false := decide_eq_false c38
        clear c38
        (first | rw [c38b0] | (simp only [i64_w, i32_w]; rw [c38b0]) | skip)
        replace H := Option.bind_eq_some_iff.mp H
        obtain ⟨t211, A390, H⟩ := H
        replace H : (if t211 = true then (laws_FnExactGreedyBreaking.j1 kj10 l1 t190 t193 t200 (t203 != t193) a0_0 a0_1 a0_2) else (laws_FnExactGreedyBreaking.j1 kj10 l1 t190 t193 t200 true a0_0 a0_1 a0_2)) = some r := H
        have A39 := Aside0.mk A390
        clear A390
        by_cases c40 : t211 = true
        ·subst c40
         have H1 : (laws_FnExactGreedyBreaking.j1 kj10 l1 t190 t193 t200 (t203 != t193) a0_0 a0_1 a0_2) = some r := by rw [if_pos rfl] at H; exact H
         clear H
         have H := H1
         clear H1
         have H' := Aside0.mk H
         clear H
         obtain ⟨Ao41, co41, eo41⟩ := Kd.R_slice HO_8.out
         subst eo41
         obtain ⟨Ao42, co42, eo42⟩ := Kd.R_slice HO_5.out
         subst eo42
         go_wp2_with (first | (go_at_call 19; (with_reducible refine (laws_eqIntS.calls kj10 _ _ t200 _ _ t190 true _ ?side1 ?side2 ?side3 ?side4 A39.out).mono ?_); (case side1 => repeat (first | exact (Kd.R_reads' HO_8.out).2.2 | (with_reducible refine Kd.C_alloc ?_ _) | (with_reducible refine Kd.C_drewN ?_ _) | (with_reducible refine Kd.C_drew ?_))); (case side2 => exact (Kd.R_reads' HO_8.out).2.1); (case side3 => repeat (first | exact (Kd.R_reads' HO_5.out).2.2 | (with_reducible refine Kd.C_alloc ?_ _) | (with_reducible refine Kd.C_drewN ?_ _) | (with_reducible refine Kd.C_drew ?_))); (case side4 => exact (Kd.R_reads' HO_5.out).2.1); rintro e w' ⟨rfl, ⟨nd, rfl⟩⟩))
         go_meet
         case rel => exact ⟨_, ((t203 != t193)), zp6, H', ⟨by have := HJ10.out; first | omega | exact Nat.le_refl _⟩, ⟨by (with_reducible repeat (first | apply Kd.R_alloc | apply Kd.R_drewN | apply Kd.R_drew)); exact Kd.R_mono HO_5.out (fun _ hk => hk.2.1)⟩, ⟨by (with_reducible repeat (first | apply Kd.R_alloc | apply Kd.R_drewN | apply Kd.R_drew)); exact Kd.R_mono HO_8.out (fun _ hk => hk.1)⟩, ⟨by (with_reducible repeat (first | refine blk_drewN ?_ _ | refine blk_drew ?_ | refine blk_alloc ?_ _)); exact BK183.out⟩, ⟨by repeat (first | (with_reducible first | exact HB.out | apply below_alloc | apply pw_below_drewN | apply below_drew1 | refine below_set ?_ GE183.out) | exact HB.out)⟩⟩
        ·replace c40 := Bool.eq_false_iff.mpr c40
         subst c40
         have H1 : (laws_FnExactGreedyBreaking.j1 kj10 l1 t190 t193 t200 true a0_0 a0_1 a0_2) = some r := by rw [if_neg (show ¬ (false = true) by decide)] at H; exact H
         clear H
         have H := H1
         clear H1
         have H' := Aside0.mk H
         clear H
         obtain ⟨Ao43, co43, eo43⟩ := Kd.R_slice HO_8.out
         subst eo43
         obtain ⟨Ao44, co44, eo44⟩ := Kd.R_slice HO_5.out
         subst eo44
         go_wp2_with (first | (go_at_call 19; (with_reducible refine (laws_eqIntS.calls kj10 _ _ t200 _ _ t190 false _ ?side1 ?side2 ?side3 ?side4 A39.out).mono ?_); (case side1 => repeat (first | exact (Kd.R_reads' HO_8.out).2.2 | (with_reducible refine Kd.C_alloc ?_ _) | (with_reducible refine Kd.C_drewN ?_ _) | (with_reducible refine Kd.C_drew ?_))); (case side2 => exact (Kd.R_reads' HO_8.out).2.1); (case side3 => repeat (first | exact (Kd.R_reads' HO_5.out).2.2 | (with_reducible refine Kd.C_alloc ?_ _) | (with_reducible refine Kd.C_drewN ?_ _) | (with_reducible refine Kd.C_drew ?_))); (case side4 => exact (Kd.R_reads' HO_5.out).2.1); rintro e w' ⟨rfl, ⟨nd, rfl⟩⟩))
         go_meet
         case rel => exact ⟨_, (true), zp6, H', ⟨by have := HJ10.out; first | omega | exact Nat.le_refl _⟩, ⟨by (with_reducible repeat (first | apply Kd.R_alloc | apply Kd.R_drewN | apply Kd.R_drew)); exact Kd.R_mono HO_5.out (fun _ hk => hk.2.1)⟩, ⟨by (with_reducible repeat (first | apply Kd.R_alloc | apply Kd.R_drewN | apply Kd.R_drew)); exact Kd.R_mono HO_8.out (fun _ hk => hk.1)⟩, ⟨by (with_reducible repeat (first | refine blk_drewN ?_ _ | refine blk_drew ?_ | refine blk_alloc ?_ _)); exact BK183.out⟩, ⟨by repeat (first | (with_reducible first | exact HB.out | apply below_alloc | apply pw_below_drewN | apply below_drew1 | refine below_set ?_ GE183.out) | exact HB.out)⟩⟩
      case rest =>
       clear HC34
       try clear c1
       try clear c2
       try clear p2
       try clear c3
       try clear c3b0
       try clear c3b1
       try clear c4
       try clear c15
       try clear c16
       try clear c17
       try clear c18
       try clear c19
       try clear c20
       try clear c24
       try clear c29
       try clear c32
       try clear c38
       try clear c38b0
       try clear c40
       try clear hcz13_0
       try clear hcz13_1
       try clear hcz13_2
       try clear hcz19_0
       try clear hcz19_1
       try clear hcz19_2
       try clear hfz13_0
       try clear hfz13_1
       try clear hfz13_2
       try clear hfz19_0
       try clear hfz19_1
       try clear hfz19_2
       try clear p2
       obtain ⟨kq, x64_33, rfl, HA, HJ33, HO_5, HO_8, BK183, HB⟩ := hcut
       cases kq with
       | zero => exact absurd HA.out (by simp [laws_FnExactGreedyBreaking.j1])
       | succ kj33 =>
        have H := HA.out
        clear HA
        simp only [laws_FnExactGreedyBreaking.j1] at H
        by_cases c45 : x64_33 = true
        ·subst c45
         have H1 : (some false) = some r := by rw [if_pos rfl] at H; exact H
         clear H
         have H := H1
         clear H1
         obtain rfl := Option.some.inj H
         go_wp2
         go_ret
         exact ⟨by first | rfl | (simp [errW_none, errW_some] <;> rfl) | (simp [*, errW_none, errW_some] <;> rfl), by repeat (first | (with_reducible first | exact HB.out | apply below_alloc | apply pw_below_drewN | apply below_drew1 | refine below_set ?_ GE183.out) | exact HB.out)⟩
        ·replace c45 := Bool.eq_false_iff.mpr c45
         subst c45
         have H1 : ((laws_markIntS.f kj33 t200 1).bind fun bt212 => ((laws_heldIntS.f kj33 bt212.2 1).bind fun t214 => (if t214 < 0 then (some false) else (if t214 = bt212.1 then ((laws_toMeasure.f a0_0 a0_1 a0_2).bind fun bt215 => ((laws_toIntS.f kj33 l1).bind fun t218 => ((impl_GreedyBreaking.f kj33 bt215.1 bt215.2.1 bt215.2.2 t218).bind fun bt221 => ((laws_eqIntS.f kj33 bt221.1 t190).bind fun t225 => (if t225 = true then (laws_FnExactGreedyBreaking.j2 kj33 bt212.2 bt212.1 (bt221.2 != t193)) else (laws_FnExactGreedyBreaking.j2 kj33 bt212.2 bt212.1 true)))))) else (some false))))) = some r := by rw [if_neg (show ¬ (false = true) by decide)] at H; exact H
         clear H
         have H := H1
         clear H1
         replace H := Option.bind_eq_some_iff.mp H
         obtain ⟨⟨t212, t213⟩, A460, H⟩ := H
         replace H : ((laws_heldIntS.f kj33 t213 1).bind fun t214 => (if t214 < 0 then (some false) else (if t214 = t212 then ((laws_toMeasure.f a0_0 a0_1 a0_2).bind fun bt215 => ((laws_toIntS.f kj33 l1).bind fun t218 => ((impl_GreedyBreaking.f kj33 bt215.1 bt215.2.1 bt215.2.2 t218).bind fun bt221 => ((laws_eqIntS.f kj33 bt221.1 t190).bind fun t225 => (if t225 = true then (laws_FnExactGreedyBreaking.j2 kj33 t213 t212 (bt221.2 != t193)) else (laws_FnExactGreedyBreaking.j2 kj33 t213 t212 true)))))) else (some false)))) = some r := H
         have A46 := Aside0.mk A460
         clear A460
         replace H := Option.bind_eq_some_iff.mp H
         obtain ⟨t214, A470, H⟩ := H
         replace H : (if t214 < 0 then (some false) else (if t214 = t212 then ((laws_toMeasure.f a0_0 a0_1 a0_2).bind fun bt215 => ((laws_toIntS.f kj33 l1).bind fun t218 => ((impl_GreedyBreaking.f kj33 bt215.1 bt215.2.1 bt215.2.2 t218).bind fun bt221 => ((laws_eqIntS.f kj33 bt221.1 t190).bind fun t225 => (if t225 = true then (laws_FnExactGreedyBreaking.j2 kj33 t213 t212 (bt221.2 != t193)) else (laws_FnExactGreedyBreaking.j2 kj33 t213 t212 true)))))) else (some false))) = some r := H
         have A47 := Aside0.mk A470
         clear A470
         by_cases c48 : t214 < 0
         ·rw [if_pos c48] at H
          have c48b0 : decide (t214 < 0) = true := decide_eq_true c48
          clear c48
          obtain rfl := Option.some.inj H
          obtain ⟨Ao49, co49, eo49⟩ := Kd.R_slice HO_8.out
          subst eo49
          go_wp2_with (first | ((with_reducible refine gate_callee (f := 20) rfl ?_); refine goesL_ (some 67) rfl rfl Try.func20 (by kernel_rfl) rfl #[.slice Ao49 t200.length co49, .int .i64 1] rfl zp1 ?_; (with_reducible refine (laws_markIntS.calls kj33 (fun k_ => some k_ = (.slice Ao49 t200.length co49 : Value).ownBlock) (.slice Ao49 t200.length co49) t200 1 t212 t213 w _ ?side1 ?side2 A46.out).mono ?_); (case side1 => repeat (first | (with_reducible first | exact HB.out | apply below_alloc | apply pw_below_drewN | apply below_drew1 | refine below_set ?_ GE183.out) | exact HB.out)); (case side2 => exact Kd.R_tight rfl HO_8.out); rintro e w50 ⟨rfl, hy0, hb, hkp⟩; refine ⟨_, rfl, ?_⟩; have n0_ := Aside0.mk (Kd.R_mono (ok' := fun k_ => some k_ ≠ (.slice Ao49 t200.length co49 : Value).ownBlock) (Kd.R_keptB (HO_5.out) hkp (fun k_ hk_ hs_ => (hk_) hs_)) (fun k_ hk_ => hk_.1)); have n1_ := Aside0.mk (Kd.R_reok rfl hy0 (fun k_ e_ => HO_8.out.1 k_ e_)); have n2_ := Aside0.mk (blk_kept zp7 hkp (fun hs_ => (fun e_ => (Kd.R_ne HO_8.out BK183.out (by decide)) e_) hs_)); have n3_ := Aside0.mk (hb); clear HO_5; clear HO_8; clear BK183; clear HB; have HO_5 := n0_; have HO_8 := n1_; have BK183 := n2_; have HB := n3_; clear n0_ n1_ n2_ n3_; (try clear hb); (try clear hkp); (try clear hy0)) | ((with_reducible refine gate_callee (f := 21) rfl ?_); refine goesL_ (some 70) rfl rfl Try.func21 (by kernel_rfl) rfl #[.slice Ao49 t213.length co49, .int .i64 1] rfl zp24 ?_; (with_reducible refine (laws_heldIntS.calls kj33 _ _ t213 1 t214 _ ?side1 ?side2 A47.out).mono ?_); (case side1 => repeat (first | exact (Kd.R_reads' HO_8.out).2.2 | (with_reducible refine Kd.C_alloc ?_ _) | (with_reducible refine Kd.C_drewN ?_ _) | (with_reducible refine Kd.C_drew ?_))); (case side2 => rw [show t213.length = t200.length from (Kd.R_reads' HO_8.out).1.symm]; exact (Kd.R_reads' HO_8.out).2.1); rintro e w' ⟨rfl, ⟨nd, rfl⟩⟩; refine ⟨_, rfl, ?_⟩))
          go_ret
          exact ⟨by first | rfl | (simp [errW_none, errW_some] <;> rfl) | (simp [*, errW_none, errW_some] <;> rfl), by repeat (first | (with_reducible first | exact HB.out | apply below_alloc | apply pw_below_drewN | apply below_drew1 | refine below_set ?_ GE183.out) | exact HB.out)⟩
         ·rw [if_neg c48] at H
          have c48b0 : decide (t214 < 0) = false := decide_eq_false c48
          clear c48
          by_cases c51 : t214 = t212
          ·rw [if_pos c51] at H
           have c51b0 : (t214 == t212) = true := beq_iff_eq.mpr c51
           have c51b1 : (t214 != t212) = false := bne_eq_false_iff_eq.mpr c51
           clear c51
           replace H := Option.bind_eq_some_iff.mp H
           obtain ⟨⟨t215, t216, t217⟩, A520, H⟩ := H
           replace H : ((laws_toIntS.f kj33 l1).bind fun t218 => ((impl_GreedyBreaking.f kj33 t215 t216 t217 t218).bind fun bt221 => ((laws_eqIntS.f kj33 bt221.1 t190).bind fun t225 => (if t225 = true then (laws_FnExactGreedyBreaking.j2 kj33 t213 t212 (bt221.2 != t193)) else (laws_FnExactGreedyBreaking.j2 kj33 t213 t212 true))))) = some r := H
           have A52 := Aside0.mk A520
           clear A520
           replace H := Option.bind_eq_some_iff.mp H
           obtain ⟨t218, A530, H⟩ := H
           replace H : ((impl_GreedyBreaking.f kj33 t215 t216 t217 t218).bind fun bt221 => ((laws_eqIntS.f kj33 bt221.1 t190).bind fun t225 => (if t225 = true then (laws_FnExactGreedyBreaking.j2 kj33 t213 t212 (bt221.2 != t193)) else (laws_FnExactGreedyBreaking.j2 kj33 t213 t212 true)))) = some r := H
           have A53 := Aside0.mk A530
           clear A530
           replace H := Option.bind_eq_some_iff.mp H
           obtain ⟨⟨t221, t224⟩, A540, H⟩ := H
           replace H : ((laws_eqIntS.f kj33 t221 t190).bind fun t225 => (if t225 = true then (laws_FnExactGreedyBreaking.j2 kj33 t213 t212 (t224 != t193)) else (laws_FnExactGreedyBreaking.j2 kj33 t213 t212 true))) = some r := H
           have A54 := Aside0.mk A540
           clear A540
           have HC55 := Aside0.mk H
           clear H
           obtain ⟨Ao56, co56, eo56⟩ := Kd.R_slice HO_8.out
           subst eo56
           go_upto_region 23 with (first | ((with_reducible refine gate_callee (f := 20) rfl ?_); refine goesL_ (some 67) rfl rfl Try.func20 (by kernel_rfl) rfl #[.slice Ao56 t200.length co56, .int .i64 1] rfl zp1 ?_; (with_reducible refine (laws_markIntS.calls kj33 (fun k_ => some k_ = (.slice Ao56 t200.length co56 : Value).ownBlock) (.slice Ao56 t200.length co56) t200 1 t212 t213 w _ ?side1 ?side2 A46.out).mono ?_); (case side1 => repeat (first | (with_reducible first | exact HB.out | apply below_alloc | apply pw_below_drewN | apply below_drew1 | refine below_set ?_ GE183.out) | exact HB.out)); (case side2 => exact Kd.R_tight rfl HO_8.out); rintro e w57 ⟨rfl, hy0, hb, hkp⟩; refine ⟨_, rfl, ?_⟩; have n0_ := Aside0.mk (Kd.R_mono (ok' := fun k_ => some k_ ≠ (.slice Ao56 t200.length co56 : Value).ownBlock) (Kd.R_keptB (HO_5.out) hkp (fun k_ hk_ hs_ => (hk_) hs_)) (fun k_ hk_ => hk_.1)); have n1_ := Aside0.mk (Kd.R_reok rfl hy0 (fun k_ e_ => HO_8.out.1 k_ e_)); have n2_ := Aside0.mk (blk_kept zp7 hkp (fun hs_ => (fun e_ => (Kd.R_ne HO_8.out BK183.out (by decide)) e_) hs_)); have n3_ := Aside0.mk (hb); clear HO_5; clear HO_8; clear BK183; clear HB; have HO_5 := n0_; have HO_8 := n1_; have BK183 := n2_; have HB := n3_; clear n0_ n1_ n2_ n3_; (try clear hb); (try clear hkp); (try clear hy0)) | ((with_reducible refine gate_callee (f := 21) rfl ?_); refine goesL_ (some 70) rfl rfl Try.func21 (by kernel_rfl) rfl #[.slice Ao56 t213.length co56, .int .i64 1] rfl zp24 ?_; (with_reducible refine (laws_heldIntS.calls kj33 _ _ t213 1 t214 _ ?side1 ?side2 A47.out).mono ?_); (case side1 => repeat (first | exact (Kd.R_reads' HO_8.out).2.2 | (with_reducible refine Kd.C_alloc ?_ _) | (with_reducible refine Kd.C_drewN ?_ _) | (with_reducible refine Kd.C_drew ?_))); (case side2 => rw [show t213.length = t200.length from (Kd.R_reads' HO_8.out).1.symm]; exact (Kd.R_reads' HO_8.out).2.1); rintro e w' ⟨rfl, ⟨nd, rfl⟩⟩; refine ⟨_, rfl, ?_⟩; have hcz58_0 : w57.cell? ⟨gb183, 0, none⟩ = some (.int .i64 a0_0) := (blk_cell BK183.out 0).trans rfl; have hcz58_1 : w57.cell? ⟨gb183, 1, none⟩ = some (.int .i64 a0_1) := (blk_cell BK183.out 1).trans rfl; have hcz58_2 : w57.cell? ⟨gb183, 2, none⟩ = some (.int .i64 a0_2) := (blk_cell BK183.out 2).trans rfl; have hfz58_0 := blk_frozen BK183.out 0; have hfz58_1 := blk_frozen BK183.out 1; have hfz58_2 := blk_frozen BK183.out 2) | ((with_reducible refine gate_callee (f := 16) rfl ?_); refine goesL_ (some 78) rfl rfl Try.func16 (by kernel_rfl) rfl #[.agg #[.int .i64 a0_0, .int .i64 a0_1, .int .i64 a0_2]] rfl zp1 ?_; (with_reducible refine (laws_toMeasure.calls a0_0 a0_1 a0_2 t215 t216 t217 _ A52.out).mono ?_); rintro e w59 ⟨rfl, hb⟩; refine ⟨_, rfl, ?_⟩; have n0_ := Aside0.mk (Kd.R_below zp15 hb); have n1_ := Aside0.mk (Kd.R_below zp14 hb); have n2_ := Aside0.mk (blk_below (g := gb183) (o := .cells #[.int .i64 a0_0, .int .i64 a0_1, .int .i64 a0_2] 23 (0, 0)) zp7 hb); have n3_ := Aside0.mk (below_step zp3 hb); clear HO_5; clear HO_8; clear BK183; clear HB; have HO_5 := n0_; have HO_8 := n1_; have BK183 := n2_; have HB := n3_; clear n0_ n1_ n2_ n3_; (try clear hb); (try clear hb2); (try clear hk); (try clear hi)) | ((with_reducible refine gate_callee (f := 17) rfl ?_); refine goesL_ (some 80) rfl rfl Try.func17 (by kernel_rfl) rfl #[.slice A1 l1.length c1] rfl zp1 ?_; (with_reducible refine (laws_toIntS.calls kj33 _ _ l1 t218 _ ?side1 ?side2 A53.out).mono ?_); (case side1 => repeat (first | exact (Kd.C_below HR1.out HB.out) | (with_reducible refine Kd.C_alloc ?_ _) | (with_reducible refine Kd.C_drewN ?_ _) | (with_reducible refine Kd.C_drew ?_))); (case side2 => exact HC1.out); rintro e w60 ⟨v219, rfl, ho0, hb⟩; refine ⟨_, rfl, ?_⟩; have n0_ := Aside0.mk (Kd.R_elder' zp15 (Kd.R_base ho0) hb); have n1_ := Aside0.mk (Kd.R_elder' zp14 (Kd.R_base ho0) hb); have n2_ := Aside0.mk (Kd.R_lower (Kd.R_new' (Kd.R_new' ho0 (Kd.R_lt zp15)) (Kd.R_lt zp14)) (below_size zp3)); have n3_ := Aside0.mk (blk_below (g := gb183) (o := .cells #[.int .i64 a0_0, .int .i64 a0_1, .int .i64 a0_2] 23 (0, 0)) zp7 hb); have n4_ := Aside0.mk (below_step zp3 hb); clear HO_5; clear HO_8; clear BK183; clear HB; have HO_5 := n0_; have HO_8 := n1_; have HO220 := n2_; have BK183 := n3_; have HB := n4_; clear n0_ n1_ n2_ n3_ n4_; (try clear hb); (try clear hb2); (try clear hk); (try clear hi); (try clear ho0); obtain ⟨Ao61, co61, eo61⟩ := Kd.R_slice HO220.out; subst eo61) | ((with_reducible refine gate_callee (f := 18) rfl ?_); refine goesL_ (some 81) rfl rfl Try.func18 (by kernel_rfl) rfl #[.agg #[.int .i64 t215, .int .i64 t216, .int .i64 t217], .slice Ao61 t218.length co61] rfl zp1 ?_; (with_reducible refine (impl_GreedyBreaking.calls kj33 t215 t216 t217 _ _ t218 t221 t224 _ ?side1 ?side2 A54.out).mono ?_); (case side1 => repeat (first | exact (Kd.R_reads' HO220.out).2.2 | (with_reducible refine Kd.C_alloc ?_ _) | (with_reducible refine Kd.C_drewN ?_ _) | (with_reducible refine Kd.C_drew ?_))); (case side2 => exact (Kd.R_reads' HO220.out).2.1); rintro e w62 ⟨v222, rfl, ho0, hb⟩; refine ⟨_, rfl, ?_⟩; have n0_ := Aside0.mk (Kd.R_elder' zp15 (Kd.R_base ho0) hb); have n1_ := Aside0.mk (Kd.R_elder' zp14 (Kd.R_base ho0) hb); have n2_ := Aside0.mk (Kd.R_elder' (by (with_reducible repeat (first | apply Kd.R_alloc | apply Kd.R_drewN | apply Kd.R_drew)); exact HO220.out) (Kd.R_base ho0) hb); have n3_ := Aside0.mk (Kd.R_lower (Kd.R_new' (Kd.R_new' (Kd.R_new' ho0 (Kd.R_lt zp15)) (Kd.R_lt zp14)) (Kd.R_lt (by (with_reducible repeat (first | apply Kd.R_alloc | apply Kd.R_drewN | apply Kd.R_drew)); exact HO220.out))) (below_size zp3)); have n4_ := Aside0.mk (blk_below (g := gb183) (o := .cells #[.int .i64 a0_0, .int .i64 a0_1, .int .i64 a0_2] 23 (0, 0)) zp7 hb); have n5_ := Aside0.mk (below_step zp3 hb); clear HO_5; clear HO_8; clear HO220; clear BK183; clear HB; have HO_5 := n0_; have HO_8 := n1_; have HO220 := n2_; have HO223 := n3_; have BK183 := n4_; have HB := n5_; clear n0_ n1_ n2_ n3_ n4_ n5_; (try clear hb); (try clear hb2); (try clear hk); (try clear hi); (try clear ho0)))
           (try simp only [Act.put, List.setIfInBounds_toArray, List.set_cons_zero, List.set_cons_succ])
           go_cut [92] (fun v92 wc => ∃ (kq : Nat) (x92_54 : Bool), v92 = .bool x92_54 ∧ Aside0 (laws_FnExactGreedyBreaking.j2 kq t213 t212 x92_54 = some r) ∧ Aside0 (kq ≤ kj33) ∧ Aside0 (Kd.R (Kd.int .i64) 3 wc w.heap.size (fun _ => True) (.slice Ao56 t200.length co56) t213) ∧ Aside0 (wc.heap[gb183]? = some (.cells #[.int .i64 a0_0, .int .i64 a0_1, .int .i64 a0_2] 23 (0, 0))) ∧ Aside0 (Below w.heap.size w wc))
           case first =>
            have H := HC55.out
            clear HC55
            replace H := Option.bind_eq_some_iff.mp H
            obtain ⟨t225, A630, H⟩ := H
            replace H : (if t225 = true then (laws_FnExactGreedyBreaking.j2 kj33 t213 t212 (t224 != t193)) else (laws_FnExactGreedyBreaking.j2 kj33 t213 t212 true)) = some r := H
            have A63 := Aside0.mk A630
            clear A630
            by_cases c64 : t225 = true
            ·subst c64
             have H1 : (laws_FnExactGreedyBreaking.j2 kj33 t213 t212 (t224 != t193)) = some r := by rw [if_pos rfl] at H; exact H
             clear H
             have H := H1
             clear H1
             have H' := Aside0.mk H
             clear H
             obtain ⟨Ao65, co65, eo65⟩ := Kd.R_slice HO223.out
             subst eo65
             obtain ⟨Ao66, co66, eo66⟩ := Kd.R_slice HO_5.out
             subst eo66
             go_wp2_with (first | ((with_reducible refine gate_callee (f := 19) rfl ?_); refine goesL_ (some 86) rfl rfl Try.func19 (by kernel_rfl) rfl #[.slice Ao65 t221.length co65, .slice Ao66 t190.length co66] rfl zp1 ?_; (with_reducible refine (laws_eqIntS.calls kj33 _ _ t221 _ _ t190 true _ ?side1 ?side2 ?side3 ?side4 A63.out).mono ?_); (case side1 => repeat (first | exact (Kd.R_reads' HO223.out).2.2 | (with_reducible refine Kd.C_alloc ?_ _) | (with_reducible refine Kd.C_drewN ?_ _) | (with_reducible refine Kd.C_drew ?_))); (case side2 => exact (Kd.R_reads' HO223.out).2.1); (case side3 => repeat (first | exact (Kd.R_reads' HO_5.out).2.2 | (with_reducible refine Kd.C_alloc ?_ _) | (with_reducible refine Kd.C_drewN ?_ _) | (with_reducible refine Kd.C_drew ?_))); (case side4 => exact (Kd.R_reads' HO_5.out).2.1); rintro e w' ⟨rfl, ⟨nd, rfl⟩⟩; refine ⟨_, rfl, ?_⟩))
             go_meet
             case rel => exact ⟨_, ((t224 != t193)), zp6, H', ⟨by have := HJ10.out; have := HJ33.out; first | omega | exact Nat.le_refl _⟩, ⟨by (with_reducible repeat (first | apply Kd.R_alloc | apply Kd.R_drewN | apply Kd.R_drew)); exact Kd.R_mono HO_8.out (fun _ hk => trivial)⟩, ⟨by (with_reducible repeat (first | refine blk_drewN ?_ _ | refine blk_drew ?_ | refine blk_alloc ?_ _)); exact BK183.out⟩, ⟨by repeat (first | (with_reducible first | exact HB.out | apply below_alloc | apply pw_below_drewN | apply below_drew1 | refine below_set ?_ GE183.out) | exact HB.out)⟩⟩
            ·replace c64 := Bool.eq_false_iff.mpr c64
             subst c64
             have H1 : (laws_FnExactGreedyBreaking.j2 kj33 t213 t212 true) = some r := by rw [if_neg (show ¬ (false = true) by decide)] at H; exact H
             clear H
             have H := H1
             clear H1
             have H' := Aside0.mk H
             clear H
             obtain ⟨Ao67, co67, eo67⟩ := Kd.R_slice HO223.out
             subst eo67
             obtain ⟨Ao68, co68, eo68⟩ := Kd.R_slice HO_5.out
             subst eo68
             go_wp2_with (first | ((with_reducible refine gate_callee (f := 19) rfl ?_); refine goesL_ (some 86) rfl rfl Try.func19 (by kernel_rfl) rfl #[.slice Ao67 t221.length co67, .slice Ao68 t190.length co68] rfl zp1 ?_; (with_reducible refine (laws_eqIntS.calls kj33 _ _ t221 _ _ t190 false _ ?side1 ?side2 ?side3 ?side4 A63.out).mono ?_); (case side1 => repeat (first | exact (Kd.R_reads' HO223.out).2.2 | (with_reducible refine Kd.C_alloc ?_ _) | (with_reducible refine Kd.C_drewN ?_ _) | (with_reducible refine Kd.C_drew ?_))); (case side2 => exact (Kd.R_reads' HO223.out).2.1); (case side3 => repeat (first | exact (Kd.R_reads' HO_5.out).2.2 | (with_reducible refine Kd.C_alloc ?_ _) | (with_reducible refine Kd.C_drewN ?_ _) | (with_reducible refine Kd.C_drew ?_))); (case side4 => exact (Kd.R_reads' HO_5.out).2.1); rintro e w' ⟨rfl, ⟨nd, rfl⟩⟩; refine ⟨_, rfl, ?_⟩))
             go_meet
             case rel => exact ⟨_, (true), zp6, H', ⟨by have := HJ10.out; have := HJ33.out; first | omega | exact Nat.le_refl _⟩, ⟨by (with_reducible repeat (first | apply Kd.R_alloc | apply Kd.R_drewN | apply Kd.R_drew)); exact Kd.R_mono HO_8.out (fun _ hk => trivial)⟩, ⟨by (with_reducible repeat (first | refine blk_drewN ?_ _ | refine blk_drew ?_ | refine blk_alloc ?_ _)); exact BK183.out⟩, ⟨by repeat (first | (with_reducible first | exact HB.out | apply below_alloc | apply pw_below_drewN | apply below_drew1 | refine below_set ?_ GE183.out) | exact HB.out)⟩⟩
           case rest =>
            clear HC55
            try clear c1
            try clear c2
            try clear p2
            try clear c3
            try clear c3b0
            try clear c3b1
            try clear c4
            try clear c5
            try clear c6
            try clear c15
            try clear c16
            try clear c17
            try clear c18
            try clear c19
            try clear c20
            try clear c21
            try clear c24
            try clear c29
            try clear c32
            try clear c38
            try clear c38b0
            try clear c40
            try clear c45
            try clear c48
            try clear c48b0
            try clear c51
            try clear c51b0
            try clear c51b1
            try clear c64
            try clear hcz13_0
            try clear hcz13_1
            try clear hcz13_2
            try clear hcz19_0
            try clear hcz19_1
            try clear hcz19_2
            try clear hcz58_0
            try clear hcz58_1
            try clear hcz58_2
            try clear hfz13_0
            try clear hfz13_1
            try clear hfz13_2
            try clear hfz19_0
            try clear hfz19_1
            try clear hfz19_2
            try clear hfz58_0
            try clear hfz58_1
            try clear hfz58_2
            try clear p2
            obtain ⟨kq, x92_54, rfl, HA, HJ54, HO_8, BK183, HB⟩ := hcut
            have hl8_54 := (Kd.R_reads' HO_8.out).1
            rw [hl8_54] at HO_8
            (try simp only [hl8_54])
            (try simp only [hl8_54] at BK183)
            cases kq with
            | zero => exact absurd HA.out (by simp [laws_FnExactGreedyBreaking.j2])
            | succ kj54 =>
             have H := HA.out
             clear HA
             simp only [laws_FnExactGreedyBreaking.j2] at H
             by_cases c69 : x92_54 = true
             ·subst c69
              have H1 : (some false) = some r := by rw [if_pos rfl] at H; exact H
              clear H
              have H := H1
              clear H1
              obtain rfl := Option.some.inj H
              go_wp2
              go_ret
              exact ⟨by first | rfl | (simp [errW_none, errW_some] <;> rfl) | (simp [*, errW_none, errW_some] <;> rfl), by repeat (first | (with_reducible first | exact HB.out | apply below_alloc | apply pw_below_drewN | apply below_drew1 | refine below_set ?_ GE183.out) | exact HB.out)⟩
             ·replace c69 := Bool.eq_false_iff.mpr c69
              subst c69
              have H1 : ((laws_heldIntS.f kj54 t213 1).bind fun t226 => (if t226 < 0 then (some false) else (if t226 = t212 then (some true) else (some false)))) = some r := by rw [if_neg (show ¬ (false = true) by decide)] at H; exact H
              clear H
              have H := H1
              clear H1
              replace H := Option.bind_eq_some_iff.mp H
              obtain ⟨t226, A700, H⟩ := H
              replace H : (if t226 < 0 then (some false) else (if t226 = t212 then (some true) else (some false))) = some r := H
              have A70 := Aside0.mk A700
              clear A700
              by_cases c71 : t226 < 0
              ·rw [if_pos c71] at H
               have c71b0 : decide (t226 < 0) = true := decide_eq_true c71
               clear c71
               obtain rfl := Option.some.inj H
               go_wp2_with (first | ((with_reducible refine gate_callee (f := 21) rfl ?_); refine goesL_ (some 95) rfl rfl Try.func21 (by kernel_rfl) rfl #[.slice Ao56 t213.length co56, .int .i64 1] rfl zp1 ?_; (with_reducible refine (laws_heldIntS.calls kj54 _ _ t213 1 t226 _ ?side1 ?side2 A70.out).mono ?_); (case side1 => repeat (first | exact (Kd.R_reads' HO_8.out).2.2 | (with_reducible refine Kd.C_alloc ?_ _) | (with_reducible refine Kd.C_drewN ?_ _) | (with_reducible refine Kd.C_drew ?_))); (case side2 => exact (Kd.R_reads' HO_8.out).2.1); rintro e w' ⟨rfl, ⟨nd, rfl⟩⟩; refine ⟨_, rfl, ?_⟩))
               go_ret
               exact ⟨by first | rfl | (simp [errW_none, errW_some] <;> rfl) | (simp [*, errW_none, errW_some] <;> rfl), by repeat (first | (with_reducible first | exact HB.out | apply below_alloc | apply pw_below_drewN | apply below_drew1 | refine below_set ?_ GE183.out) | exact HB.out)⟩
              ·rw [if_neg c71] at H
               have c71b0 : decide (t226 < 0) = false := decide_eq_false c71
               clear c71
               by_cases c72 : t226 = t212
               ·rw [if_pos c72] at H
                have c72b0 : (t226 == t212) = true := beq_iff_eq.mpr c72
                have c72b1 : (t226 != t212) = false := bne_eq_false_iff_eq.mpr c72
                clear c72
                obtain rfl := Option.some.inj H
                go_wp2_with (first | ((with_reducible refine gate_callee (f := 21) rfl ?_); refine goesL_ (some 95) rfl rfl Try.func21 (by kernel_rfl) rfl #[.slice Ao56 t213.length co56, .int .i64 1] rfl zp1 ?_; (with_reducible refine (laws_heldIntS.calls kj54 _ _ t213 1 t226 _ ?side1 ?side2 A70.out).mono ?_); (case side1 => repeat (first | exact (Kd.R_reads' HO_8.out).2.2 | (with_reducible refine Kd.C_alloc ?_ _) | (with_reducible refine Kd.C_drewN ?_ _) | (with_reducible refine Kd.C_drew ?_))); (case side2 => exact (Kd.R_reads' HO_8.out).2.1); rintro e w' ⟨rfl, ⟨nd, rfl⟩⟩; refine ⟨_, rfl, ?_⟩))
                go_ret
                exact ⟨by first | rfl | (simp [errW_none, errW_some] <;> rfl) | (simp [*, errW_none, errW_some] <;> rfl), by repeat (first | (with_reducible first | exact HB.out | apply below_alloc | apply pw_below_drewN | apply below_drew1 | refine below_set ?_ GE183.out) | exact HB.out)⟩
               ·rw [if_neg c72] at H
                have c72b0 : (t226 == t212) = false := beq_eq_false_iff_ne.mpr c72
                have c72b1 : (t226 != t212) = true := bne_iff_ne.mpr c72
                obtain rfl := Option.some.inj H
                go_wp2_with (first | ((with_reducible refine gate_callee (f := 21) rfl ?_); refine goesL_ (some 95) rfl rfl Try.func21 (by kernel_rfl) rfl #[.slice Ao56 t213.length co56, .int .i64 1] rfl zp1 ?_; (with_reducible refine (laws_heldIntS.calls kj54 _ _ t213 1 t226 _ ?side1 ?side2 A70.out).mono ?_); (case side1 => repeat (first | exact (Kd.R_reads' HO_8.out).2.2 | (with_reducible refine Kd.C_alloc ?_ _) | (with_reducible refine Kd.C_drewN ?_ _) | (with_reducible refine Kd.C_drew ?_))); (case side2 => exact (Kd.R_reads' HO_8.out).2.1); rintro e w' ⟨rfl, ⟨nd, rfl⟩⟩; refine ⟨_, rfl, ?_⟩))
                go_ret
                exact ⟨by first | rfl | (simp [errW_none, errW_some] <;> rfl) | (simp [*, errW_none, errW_some] <;> rfl), by repeat (first | (with_reducible first | exact HB.out | apply below_alloc | apply pw_below_drewN | apply below_drew1 | refine below_set ?_ GE183.out) | exact HB.out)⟩
          ·rw [if_neg c51] at H
           have c51b0 : (t214 == t212) = false := beq_eq_false_iff_ne.mpr c51
           have c51b1 : (t214 != t212) = true := bne_iff_ne.mpr c51
           obtain rfl := Option.some.inj H
           obtain ⟨Ao73, co73, eo73⟩ := Kd.R_slice HO_8.out
           subst eo73
           go_wp2_with (first | ((with_reducible refine gate_callee (f := 20) rfl ?_); refine goesL_ (some 67) rfl rfl Try.func20 (by kernel_rfl) rfl #[.slice Ao73 t200.length co73, .int .i64 1] rfl zp1 ?_; (with_reducible refine (laws_markIntS.calls kj33 (fun k_ => some k_ = (.slice Ao73 t200.length co73 : Value).ownBlock) (.slice Ao73 t200.length co73) t200 1 t212 t213 w _ ?side1 ?side2 A46.out).mono ?_); (case side1 => repeat (first | (with_reducible first | exact HB.out | apply below_alloc | apply pw_below_drewN | apply below_drew1 | refine below_set ?_ GE183.out) | exact HB.out)); (case side2 => exact Kd.R_tight rfl HO_8.out); rintro e w74 ⟨rfl, hy0, hb, hkp⟩; refine ⟨_, rfl, ?_⟩; have n0_ := Aside0.mk (Kd.R_mono (ok' := fun k_ => some k_ ≠ (.slice Ao73 t200.length co73 : Value).ownBlock) (Kd.R_keptB (HO_5.out) hkp (fun k_ hk_ hs_ => (hk_) hs_)) (fun k_ hk_ => hk_.1)); have n1_ := Aside0.mk (Kd.R_reok rfl hy0 (fun k_ e_ => HO_8.out.1 k_ e_)); have n2_ := Aside0.mk (blk_kept zp7 hkp (fun hs_ => (fun e_ => (Kd.R_ne HO_8.out BK183.out (by decide)) e_) hs_)); have n3_ := Aside0.mk (hb); clear HO_5; clear HO_8; clear BK183; clear HB; have HO_5 := n0_; have HO_8 := n1_; have BK183 := n2_; have HB := n3_; clear n0_ n1_ n2_ n3_; (try clear hb); (try clear hkp); (try clear hy0)) | ((with_reducible refine gate_callee (f := 21) rfl ?_); refine goesL_ (some 70) rfl rfl Try.func21 (by kernel_rfl) rfl #[.slice Ao73 t213.length co73, .int .i64 1] rfl zp24 ?_; (with_reducible refine (laws_heldIntS.calls kj33 _ _ t213 1 t214 _ ?side1 ?side2 A47.out).mono ?_); (case side1 => repeat (first | exact (Kd.R_reads' HO_8.out).2.2 | (with_reducible refine Kd.C_alloc ?_ _) | (with_reducible refine Kd.C_drewN ?_ _) | (with_reducible refine Kd.C_drew ?_))); (case side2 => rw [show t213.length = t200.length from (Kd.R_reads' HO_8.out).1.symm]; exact (Kd.R_reads' HO_8.out).2.1); rintro e w' ⟨rfl, ⟨nd, rfl⟩⟩; refine ⟨_, rfl, ?_⟩))
           go_ret
           exact ⟨by first | rfl | (simp [errW_none, errW_some] <;> rfl) | (simp [*, errW_none, errW_some] <;> rfl), by repeat (first | (with_reducible first | exact HB.out | apply below_alloc | apply pw_below_drewN | apply below_drew1 | refine below_set ?_ GE183.out) | exact HB.out)⟩
     ·replace c32 := Bool.eq_false_iff.mpr c32
      subst c32
      have H1 : (some false) = some r := by rw [if_neg (show ¬ (false = true) by decide)] at H; exact H
      clear H
      have H := H1
      clear H1
      obtain rfl := Option.some.inj H
      go_wp2_with (first | ((with_reducible refine gate_callee (f := 17) rfl ?_); refine goesL_ (some 46) rfl rfl Try.func17 (by kernel_rfl) rfl #[.slice A1 l1.length c1] rfl zp1 ?_; (with_reducible refine (laws_toIntS.calls kj10 _ _ l1 t205 _ ?side1 ?side2 A30.out).mono ?_); (case side1 => repeat (first | exact (Kd.C_below HR1.out HB.out) | (with_reducible refine Kd.C_alloc ?_ _) | (with_reducible refine Kd.C_drewN ?_ _) | (with_reducible refine Kd.C_drew ?_))); (case side2 => exact HC1.out); rintro e w75 ⟨v206, rfl, ho0, hb⟩; refine ⟨_, rfl, ?_⟩; have n0_ := Aside0.mk (Kd.R_elder' zp15 (Kd.R_base ho0) hb); have n1_ := Aside0.mk (Kd.R_elder' zp31 (Kd.R_base ho0) hb); have n2_ := Aside0.mk (Kd.R_elder' zp14 (Kd.R_base ho0) hb); have n3_ := Aside0.mk (Kd.R_lower (Kd.R_new' (Kd.R_new' (Kd.R_new' ho0 (Kd.R_lt zp15)) (Kd.R_lt zp31)) (Kd.R_lt zp14)) (below_size zp3)); have n4_ := Aside0.mk (blk_below (g := gb183) (o := .cells #[.int .i64 a0_0, .int .i64 a0_1, .int .i64 a0_2] 23 (0, 0)) zp7 hb); have n5_ := Aside0.mk (below_step zp3 hb); clear HO_5; clear HO_7; clear HO_8; clear BK183; clear HB; have HO_5 := n0_; have HO_7 := n1_; have HO_8 := n2_; have HO207 := n3_; have BK183 := n4_; have HB := n5_; clear n0_ n1_ n2_ n3_ n4_ n5_; (try clear hb); (try clear hb2); (try clear hk); (try clear hi); (try clear ho0); obtain ⟨Ao76, co76, eo76⟩ := Kd.R_slice HO207.out; subst eo76) | ((with_reducible refine gate_callee (f := 19) rfl ?_); refine goesL_ (some 47) rfl rfl Try.func19 (by kernel_rfl) rfl #[.slice Ao21 t194.length co21, .slice Ao76 t205.length co76] rfl zp1 ?_; (with_reducible refine (laws_eqIntS.calls kj10 _ _ t194 _ _ t205 false _ ?side1 ?side2 ?side3 ?side4 A31.out).mono ?_); (case side1 => repeat (first | exact (Kd.R_reads' HO_7.out).2.2 | (with_reducible refine Kd.C_alloc ?_ _) | (with_reducible refine Kd.C_drewN ?_ _) | (with_reducible refine Kd.C_drew ?_))); (case side2 => exact (Kd.R_reads' HO_7.out).2.1); (case side3 => repeat (first | exact (Kd.R_reads' HO207.out).2.2 | (with_reducible refine Kd.C_alloc ?_ _) | (with_reducible refine Kd.C_drewN ?_ _) | (with_reducible refine Kd.C_drew ?_))); (case side4 => exact (Kd.R_reads' HO207.out).2.1); rintro e w' ⟨rfl, ⟨nd, rfl⟩⟩; refine ⟨_, rfl, ?_⟩))
      go_ret
      exact ⟨by first | rfl | (simp [errW_none, errW_some] <;> rfl) | (simp [*, errW_none, errW_some] <;> rfl), by repeat (first | (with_reducible first | exact HB.out | apply below_alloc | apply pw_below_drewN | apply below_drew1 | refine below_set ?_ GE183.out) | exact HB.out)⟩
def laws_FnExactGreedyBreaking.Pure : Prop := ∀ (a0_0 : Int) (a0_1 : Int) (a0_2 : Int) (l1 : List Int), (Lit.int .i64 a0_0).wf = true → (Lit.int .i64 a0_1).wf = true → (Lit.int .i64 a0_2).wf = true → (l1.length ≤ maxLen ∧ ∀ y2_ ∈ l1, (Lit.int .i64 y2_).wf = true) → ∃ k, laws_FnExactGreedyBreaking.f k a0_0 a0_1 a0_2 l1 = some true
end Go.Proofs.Ytnbmlblcmjaclaa.PFnExactGreedyBreaking
