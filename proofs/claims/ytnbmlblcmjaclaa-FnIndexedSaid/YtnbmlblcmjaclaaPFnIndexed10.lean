/- Written by a program of this session with the help of the kit's print: of each Go function a Lean function, and the proof that its call comes to just what that tells. No condition beyond those that each theorem states. -/
import Derived.Test.YtnbmlblcmjaclaaPFnIndexed0
import Derived.Test.YtnbmlblcmjaclaaPFnIndexed1
import Derived.Test.YtnbmlblcmjaclaaPFnIndexed4
import Derived.Test.YtnbmlblcmjaclaaPFnIndexed5
import Derived.Test.YtnbmlblcmjaclaaPFnIndexed6
import Derived.Test.YtnbmlblcmjaclaaPFnIndexed9
namespace Go.Proofs.Ytnbmlblcmjaclaa.PFnIndexed
open Go.RowKit Go.Proofs.YtnbmlblcmjaclaaW.PrintWords Go.Proofs.YtnbmlblcmjaclaaW.PrintLast Go.Proofs.YtnbmlblcmjaclaaW.PrintMore
attribute [local go_sem] max2_int min2_int max_two min_two max_three min_three max_four min_four
set_option linter.unusedVariables false
set_option linter.unusedSimpArgs false
mutual
def laws_FnIndexed.j0 : Nat → List Int → Int → Int → Bool → Int → Int → Int → Option (Bool)
 | 0, _, _, _, _, _, _, _ => none
 | k + 1, x4, x5, x6, x28, x367000, x367001, x367002 => if x28 = true then (some (x6 == (-1))) else ((impl_BreakingAt.f k x367000 x367001 x367002 x4 x5).bind fun bt370 => (if x5 < 0 then (laws_FnIndexed.j1 k x4 x5 x6 bt370.1 bt370.2 true x367000 x367001 x367002) else (laws_FnIndexed.j1 k x4 x5 x6 bt370.1 bt370.2 (decide (x5 ≥ x6)) x367000 x367001 x367002)))
def laws_FnIndexed.j1 : Nat → List Int → Int → Int → List Int → Bool → Bool → Int → Int → Int → Option (Bool)
 | 0, _, _, _, _, _, _, _, _, _ => none
 | k + 1, x4, x5, x6, x7, x8, x44, x367000, x367001, x367002 => if x44 = true then (if x6 ≥ 0 then (if x8 = true then (some false) else (some ((x7.length : Int) == 0))) else (some false)) else (if x8 = true then ((impl_IsBreaking.f k x367000 x367001 x367002 x4 x7).bind fun t374 => (if t374 = true then ((impl_BreakingIndex.f k x367000 x367001 x367002 x4 x7).bind fun t375 => (if t375 = x5 then ((laws_total.f k x7).bind fun t376 => (some (t376 == (x4.length : Int)))) else (some false))) else (some false))) else (some false))
end
def laws_FnIndexed.f (k : Nat) (l0 : List Int) : Option (Bool) := if (l0.length : Int) > 1048576 then (some true) else ((spec_DrawBreakingAt.f k l0).bind fun bt359 => ((impl_CountBreakings.f k bt359.1 bt359.2.1 bt359.2.2.1 bt359.2.2.2.1).bind fun t367 => ((spec_MeasureOk.f bt359.1 bt359.2.1 bt359.2.2.1).bind fun t368 => (if t368 = true then ((spec_TextOk.f k bt359.2.2.2.1).bind fun t369 => (laws_FnIndexed.j0 k bt359.2.2.2.1 bt359.2.2.2.2 t367 (!t369) bt359.1 bt359.2.1 bt359.2.2.1)) else (laws_FnIndexed.j0 k bt359.2.2.2.1 bt359.2.2.2.2 t367 true bt359.1 bt359.2.1 bt359.2.2.1)))))
theorem laws_FnIndexed.mono_l : ∀ k, (∀ y0 y1 y2 y3 y4 y5 y6, LeO (laws_FnIndexed.j0 k y0 y1 y2 y3 y4 y5 y6) (laws_FnIndexed.j0 (k + 1) y0 y1 y2 y3 y4 y5 y6)) ∧ (∀ y0 y1 y2 y3 y4 y5 y6 y7 y8, LeO (laws_FnIndexed.j1 k y0 y1 y2 y3 y4 y5 y6 y7 y8) (laws_FnIndexed.j1 (k + 1) y0 y1 y2 y3 y4 y5 y6 y7 y8))
 | 0 => ⟨fun _ _ _ _ _ _ _ r h => by simp [laws_FnIndexed.j0] at h, fun _ _ _ _ _ _ _ _ _ r h => by simp [laws_FnIndexed.j1] at h⟩
 | k + 1 => by
  obtain ⟨ih0, ih1⟩ := laws_FnIndexed.mono_l k
  refine ⟨?_, ?_⟩
  ·intro y0 y1 y2 y3 y4 y5 y6
   unfold laws_FnIndexed.j0
   repeat' first
   | (with_reducible exact ih0 _ _ _ _ _ _ _)
   | (with_reducible exact ih1 _ _ _ _ _ _ _ _ _)
   | (with_reducible exact impl_BreakingAt.mono _ _ _ _ _ _)
   | (with_reducible exact impl_BreakingIndex.mono _ _ _ _ _ _)
   | (with_reducible exact impl_CountBreakings.mono _ _ _ _ _)
   | (with_reducible exact impl_IsBreaking.mono _ _ _ _ _ _)
   | (with_reducible exact laws_total.mono _ _)
   | (with_reducible exact spec_DrawBreakingAt.mono _ _)
   | (with_reducible exact spec_TextOk.mono _ _)
   | (with_reducible exact LeO.refl _)
   | (with_reducible exact LeO.none _)
   | (with_reducible refine LeO.ite ?_ ?_)
   | (with_reducible refine LeO.bind ?_ (fun _ => ?_))
   | exact ih0 _ _ _ _ _ _ _
   | exact ih1 _ _ _ _ _ _ _ _ _
   | exact impl_BreakingAt.mono _ _ _ _ _ _
   | exact impl_BreakingIndex.mono _ _ _ _ _ _
   | exact impl_CountBreakings.mono _ _ _ _ _
   | exact impl_IsBreaking.mono _ _ _ _ _ _
   | exact laws_total.mono _ _
   | exact spec_DrawBreakingAt.mono _ _
   | exact spec_TextOk.mono _ _
   | exact LeO.none _
   | refine LeO.ite ?_ ?_
   | refine LeO.bind ?_ (fun _ => ?_)
  ·intro y0 y1 y2 y3 y4 y5 y6 y7 y8
   unfold laws_FnIndexed.j1
   repeat' first
   | (with_reducible exact ih0 _ _ _ _ _ _ _)
   | (with_reducible exact ih1 _ _ _ _ _ _ _ _ _)
   | (with_reducible exact impl_BreakingAt.mono _ _ _ _ _ _)
   | (with_reducible exact impl_BreakingIndex.mono _ _ _ _ _ _)
   | (with_reducible exact impl_CountBreakings.mono _ _ _ _ _)
   | (with_reducible exact impl_IsBreaking.mono _ _ _ _ _ _)
   | (with_reducible exact laws_total.mono _ _)
   | (with_reducible exact spec_DrawBreakingAt.mono _ _)
   | (with_reducible exact spec_TextOk.mono _ _)
   | (with_reducible exact LeO.refl _)
   | (with_reducible exact LeO.none _)
   | (with_reducible refine LeO.ite ?_ ?_)
   | (with_reducible refine LeO.bind ?_ (fun _ => ?_))
   | exact ih0 _ _ _ _ _ _ _
   | exact ih1 _ _ _ _ _ _ _ _ _
   | exact impl_BreakingAt.mono _ _ _ _ _ _
   | exact impl_BreakingIndex.mono _ _ _ _ _ _
   | exact impl_CountBreakings.mono _ _ _ _ _
   | exact impl_IsBreaking.mono _ _ _ _ _ _
   | exact laws_total.mono _ _
   | exact spec_DrawBreakingAt.mono _ _
   | exact spec_TextOk.mono _ _
   | exact LeO.none _
   | refine LeO.ite ?_ ?_
   | refine LeO.bind ?_ (fun _ => ?_)
theorem laws_FnIndexed.mono : ∀ a0 k, LeO (laws_FnIndexed.f k a0) (laws_FnIndexed.f (k + 1) a0) := by
 intro a0 k
 obtain ⟨ih0, ih1⟩ := laws_FnIndexed.mono_l k
 unfold laws_FnIndexed.f
 repeat' first
  | (with_reducible exact ih0 _ _ _ _ _ _ _)
  | (with_reducible exact ih1 _ _ _ _ _ _ _ _ _)
  | (with_reducible exact impl_BreakingAt.mono _ _ _ _ _ _)
  | (with_reducible exact impl_BreakingIndex.mono _ _ _ _ _ _)
  | (with_reducible exact impl_CountBreakings.mono _ _ _ _ _)
  | (with_reducible exact impl_IsBreaking.mono _ _ _ _ _ _)
  | (with_reducible exact laws_total.mono _ _)
  | (with_reducible exact spec_DrawBreakingAt.mono _ _)
  | (with_reducible exact spec_TextOk.mono _ _)
  | (with_reducible exact LeO.refl _)
  | (with_reducible exact LeO.none _)
  | (with_reducible refine LeO.ite ?_ ?_)
  | (with_reducible refine LeO.bind ?_ (fun _ => ?_))
  | exact ih0 _ _ _ _ _ _ _
  | exact ih1 _ _ _ _ _ _ _ _ _
  | exact impl_BreakingAt.mono _ _ _ _ _ _
  | exact impl_BreakingIndex.mono _ _ _ _ _ _
  | exact impl_CountBreakings.mono _ _ _ _ _
  | exact impl_IsBreaking.mono _ _ _ _ _ _
  | exact laws_total.mono _ _
  | exact spec_DrawBreakingAt.mono _ _
  | exact spec_TextOk.mono _ _
  | exact LeO.none _
  | refine LeO.ite ?_ ?_
  | refine LeO.bind ?_ (fun _ => ?_)
set_option maxHeartbeats 8000000 in
set_option maxRecDepth 100000 in
theorem laws_FnIndexed.calls (k : Nat) (A0 : Option Addr) (c0 : Nat) (l0 : List Int) (r : Bool) (w : World) (hr0 : Kd.C (Kd.int .u8) w A0 l0.length l0) (hc0 : l0.length ≤ c0) (h : laws_FnIndexed.f k l0 = some r) :
 Calls Try.prog 13 #[.slice A0 l0.length c0] w fun e w' => e = .returned (.bool r) ∧ Below w.heap.size w w' := by
 have hu27 := Try.underlying27
 have HR0 := Aside0.mk hr0
 have HC0 := Aside0.mk hc0
 clear hr0 hc0
 have HB := Aside0.mk (Below.refl w.heap.size w)
 have H : (if (l0.length : Int) > 1048576 then (some true) else ((spec_DrawBreakingAt.f k l0).bind fun bt359 => ((impl_CountBreakings.f k bt359.1 bt359.2.1 bt359.2.2.1 bt359.2.2.2.1).bind fun t367 => ((spec_MeasureOk.f bt359.1 bt359.2.1 bt359.2.2.1).bind fun t368 => (if t368 = true then ((spec_TextOk.f k bt359.2.2.2.1).bind fun t369 => (laws_FnIndexed.j0 k bt359.2.2.2.1 bt359.2.2.2.2 t367 (!t369) bt359.1 bt359.2.1 bt359.2.2.1)) else (laws_FnIndexed.j0 k bt359.2.2.2.1 bt359.2.2.2.2 t367 true bt359.1 bt359.2.1 bt359.2.2.1)))))) = some r := h
 clear h
 by_cases c2 : (l0.length : Int) > 1048576
 ·rw [if_pos c2] at H
  have c2b0 : decide (1048576 < (l0.length : Int)) = true := decide_eq_true c2
  have c2b1 : decide (1048576 < l0.length) = true := decide_eq_true zp81
  clear c2
  obtain rfl := Option.some.inj H
  go_enter Try.func13, Try.ntmps13
  go_wp2
  go_ret
  exact ⟨by first | rfl | (simp [errW_none, errW_some] <;> rfl) | (simp [*, errW_none, errW_some] <;> rfl), by repeat (first | (with_reducible first | exact HB.out | apply below_alloc | apply pw_below_drewN | apply below_drew1) | exact HB.out)⟩
 ·rw [if_neg c2] at H
  have c2b0 : decide (1048576 < (l0.length : Int)) = false := decide_eq_false c2
  have c2b1 : decide (1048576 < l0.length) = false := decide_eq_false zp81
  clear c2
  replace H := Option.bind_eq_some_iff.mp H
  obtain ⟨⟨t359, t360, t361, t362, t365⟩, A30, H⟩ := H
  replace H : ((impl_CountBreakings.f k t359 t360 t361 t362).bind fun t367 => ((spec_MeasureOk.f t359 t360 t361).bind fun t368 => (if t368 = true then ((spec_TextOk.f k t362).bind fun t369 => (laws_FnIndexed.j0 k t362 t365 t367 (!t369) t359 t360 t361)) else (laws_FnIndexed.j0 k t362 t365 t367 true t359 t360 t361)))) = some r := H
  have A3 := Aside0.mk A30
  clear A30
  replace H := Option.bind_eq_some_iff.mp H
  obtain ⟨t367, A40, H⟩ := H
  replace H : ((spec_MeasureOk.f t359 t360 t361).bind fun t368 => (if t368 = true then ((spec_TextOk.f k t362).bind fun t369 => (laws_FnIndexed.j0 k t362 t365 t367 (!t369) t359 t360 t361)) else (laws_FnIndexed.j0 k t362 t365 t367 true t359 t360 t361))) = some r := H
  have A4 := Aside0.mk A40
  clear A40
  have HC5 := Aside0.mk H
  clear H
  go_enter Try.func13, Try.ntmps13
  go_upto_region 5 with (first | ((with_reducible refine gate_callee (f := 42) rfl ?_); refine goesL_ (some 14) rfl rfl Try.func42 (by kernel_rfl) rfl #[.slice A0 l0.length c0] rfl zp1 ?_; (with_reducible refine (spec_DrawBreakingAt.calls k _ _ l0 t359 t360 t361 t362 t365 _ ?side1 ?side2 A3.out).mono ?_); (case side1 => repeat (first | exact HR0.out | (with_reducible refine Kd.C_alloc ?_ _) | (with_reducible refine Kd.C_drewN ?_ _) | (with_reducible refine Kd.C_drew ?_))); (case side2 => exact HC0.out); rintro e w6 ⟨v363, rfl, ho0, hb⟩; refine ⟨_, rfl, ?_⟩; have n0_ := Aside0.mk (Kd.R_lower ho0 (below_size zp0)); have n1_ := Aside0.mk (below_step zp0 hb); clear HB; have HO364 := n0_; have HB := n1_; clear n0_ n1_; (try clear hb); (try clear hb2); (try clear hk); (try clear hi); (try clear ho0)) | ((with_reducible refine gate_dst (N := 3) rfl ?_); (try (refine gate_guard (by rfl) ?_; dsimp only)); refine box_event ?hg (N := 3) ?hd (cs := #[.int .i64 0, .int .i64 0, .int .i64 0]) (t := 27) ?hr ?_; (case hd => rfl); (case hg => rfl); (case hr => first | (go_simp; done) | (go_simp; rfl)); intro gb366 hg w7 hbox hb; have n0_ := Aside0.mk (Kd.R_below zp88 hb); have n1_ := Aside0.mk (below_step zp0 hb); have n2_ := Aside0.mk (hbox); have n3_ := Aside0.mk ((zp6 : w.heap.size ≤ gb366)); have n4_ := Aside0.mk ((zp6 : w.heap.size ≤ gb366)); clear HO364; clear HB; have HO364 := n0_; have HB := n1_; have BK366 := n2_; have GW366 := n3_; have GE366 := n4_; clear n0_ n1_ n2_ n3_ n4_; clear hb hbox hg; have hcz8_0 : w7.cell? ⟨gb366, 0, none⟩ = some (.int .i64 0) := (blk_cell BK366.out 0).trans rfl; have hcz8_1 : w7.cell? ⟨gb366, 1, none⟩ = some (.int .i64 0) := (blk_cell BK366.out 1).trans rfl; have hcz8_2 : w7.cell? ⟨gb366, 2, none⟩ = some (.int .i64 0) := (blk_cell BK366.out 2).trans rfl; have hfz8_0 := blk_frozen BK366.out 0; have hfz8_1 := blk_frozen BK366.out 1; have hfz8_2 := blk_frozen BK366.out 2; obtain ⟨Ao9, co9, eo9⟩ := Kd.R_slice HO364.out; subst eo9) | ((with_reducible refine gate_callee (f := 29) rfl ?_); refine goesL_ (some 20) rfl rfl Try.func29 (by kernel_rfl) rfl #[.agg #[.int .i64 t359, .int .i64 t360, .int .i64 t361], .slice Ao9 t362.length co9] rfl zp1 ?_; (with_reducible refine (impl_CountBreakings.calls k t359 t360 t361 _ _ t362 t367 _ ?side1 ?side2 A4.out).mono ?_); (case side1 => refine (Kd.R_reads' (e := 3) (base := w.heap.size) (ok := fun k_ => True) (n := t362.length) (c := co9) ?_).2.2; exact (by (with_reducible repeat (first | apply Kd.R_alloc | apply Kd.R_drewN | apply Kd.R_drew)); exact (Kd.R_mono (Kd.R_far (p := ⟨gb366, 2, none⟩) (Kd.R_far (p := ⟨gb366, 1, none⟩) (Kd.R_far (p := ⟨gb366, 0, none⟩) (Kd.R_types HO364.out BK366.out (by decide)) (fun _ hk => hk.2) (.int .i64 t359)) (fun _ hk => hk.2) (.int .i64 t360)) (fun _ hk => hk.2) (.int .i64 t361)) (fun _ h_ => h_.1)))); (case side2 => exact (Kd.R_reads' HO364.out).2.1); rintro e w10 ⟨rfl, hb⟩; refine ⟨_, rfl, ?_⟩; have n0_ := Aside0.mk (Kd.R_below (by (with_reducible repeat (first | apply Kd.R_alloc | apply Kd.R_drewN | apply Kd.R_drew)); exact (Kd.R_mono (Kd.R_far (p := ⟨gb366, 2, none⟩) (Kd.R_far (p := ⟨gb366, 1, none⟩) (Kd.R_far (p := ⟨gb366, 0, none⟩) (Kd.R_types HO364.out BK366.out (by decide)) (fun _ hk => hk.2) (.int .i64 t359)) (fun _ hk => hk.2) (.int .i64 t360)) (fun _ hk => hk.2) (.int .i64 t361)) (fun _ h_ => h_.1))) hb); have n1_ := Aside0.mk (blk_below (g := gb366) (o := .cells #[.int .i64 t359, .int .i64 t360, .int .i64 t361] 27 (0, 0)) (by (with_reducible repeat (first | refine blk_drewN ?_ _ | refine blk_drew ?_ | refine blk_alloc ?_ _)); refine blk_put (cs := #[.int .i64 t359, .int .i64 t360, .int .i64 0]) ?_ 2 _ rfl; (with_reducible repeat (first | refine blk_drewN ?_ _ | refine blk_drew ?_ | refine blk_alloc ?_ _)); refine blk_put (cs := #[.int .i64 t359, .int .i64 0, .int .i64 0]) ?_ 1 _ rfl; (with_reducible repeat (first | refine blk_drewN ?_ _ | refine blk_drew ?_ | refine blk_alloc ?_ _)); refine blk_put (cs := #[.int .i64 0, .int .i64 0, .int .i64 0]) ?_ 0 _ rfl; (with_reducible repeat (first | refine blk_drewN ?_ _ | refine blk_drew ?_ | refine blk_alloc ?_ _)); exact BK366.out) hb); have n2_ := Aside0.mk (below_step zp22 hb); clear HO364; clear BK366; clear HB; have HO364 := n0_; have BK366 := n1_; have HB := n2_; clear n0_ n1_ n2_; (try clear hb); (try clear hb2); (try clear hk); (try clear hi)))
  (try simp only [Act.put, List.setIfInBounds_toArray, List.set_cons_zero, List.set_cons_succ])
  go_cut [28] (fun v28 wc => ∃ (kq : Nat) (x28_4 : Bool), v28 = .bool x28_4 ∧ Aside0 (laws_FnIndexed.j0 kq t362 t365 t367 x28_4 t359 t360 t361 = some r) ∧ Aside0 (kq ≤ k) ∧ Aside0 (Kd.R (Kd.int .i64) 3 wc w.heap.size (fun _ => True) (.slice Ao9 t362.length co9) t362) ∧ Aside0 (wc.heap[gb366]? = some (.cells #[.int .i64 t359, .int .i64 t360, .int .i64 t361] 27 (0, 0))) ∧ Aside0 (Below w.heap.size w wc))
  case first =>
   have H := HC5.out
   clear HC5
   replace H := Option.bind_eq_some_iff.mp H
   obtain ⟨t368, A110, H⟩ := H
   replace H : (if t368 = true then ((spec_TextOk.f k t362).bind fun t369 => (laws_FnIndexed.j0 k t362 t365 t367 (!t369) t359 t360 t361)) else (laws_FnIndexed.j0 k t362 t365 t367 true t359 t360 t361)) = some r := H
   have A11 := Aside0.mk A110
   clear A110
   by_cases c12 : t368 = true
   ·subst c12
    have H1 : ((spec_TextOk.f k t362).bind fun t369 => (laws_FnIndexed.j0 k t362 t365 t367 (!t369) t359 t360 t361)) = some r := by rw [if_pos rfl] at H; exact H
    clear H
    have H := H1
    clear H1
    replace H := Option.bind_eq_some_iff.mp H
    obtain ⟨t369, A130, H⟩ := H
    replace H : (laws_FnIndexed.j0 k t362 t365 t367 (!t369) t359 t360 t361) = some r := H
    have A13 := Aside0.mk A130
    clear A130
    have H' := Aside0.mk H
    clear H
    have hcz14_0 : w10.cell? ⟨gb366, 0, none⟩ = some (.int .i64 t359) := (blk_cell BK366.out 0).trans rfl
    have hcz14_1 : w10.cell? ⟨gb366, 1, none⟩ = some (.int .i64 t360) := (blk_cell BK366.out 1).trans rfl
    have hcz14_2 : w10.cell? ⟨gb366, 2, none⟩ = some (.int .i64 t361) := (blk_cell BK366.out 2).trans rfl
    have hfz14_0 := blk_frozen BK366.out 0
    have hfz14_1 := blk_frozen BK366.out 1
    have hfz14_2 := blk_frozen BK366.out 2
    go_wp2_with (first | ((with_reducible refine gate_callee (f := 26) rfl ?_); refine goesL_ (some 22) rfl rfl Try.func26 (by kernel_rfl) rfl #[.agg #[.int .i64 t359, .int .i64 t360, .int .i64 t361]] rfl zp1 ?_; (with_reducible refine (spec_MeasureOk.calls t359 t360 t361 true _ A11.out).mono ?_); rintro e w15 ⟨rfl, hb⟩; refine ⟨_, rfl, ?_⟩; have n0_ := Aside0.mk (Kd.R_below zp88 hb); have n1_ := Aside0.mk (blk_below (g := gb366) (o := .cells #[.int .i64 t359, .int .i64 t360, .int .i64 t361] 27 (0, 0)) zp34 hb); have n2_ := Aside0.mk (below_step zp22 hb); clear HO364; clear BK366; clear HB; have HO364 := n0_; have BK366 := n1_; have HB := n2_; clear n0_ n1_ n2_; (try clear hb); (try clear hb2); (try clear hk); (try clear hi)) | (go_at_call 27; (with_reducible refine (spec_TextOk.calls k _ _ t362 t369 _ ?side1 ?side2 A13.out).mono ?_); (case side1 => repeat (first | exact (Kd.R_reads' HO364.out).2.2 | (with_reducible refine Kd.C_alloc ?_ _) | (with_reducible refine Kd.C_drewN ?_ _) | (with_reducible refine Kd.C_drew ?_))); (case side2 => exact (Kd.R_reads' HO364.out).2.1); rintro e w' ⟨rfl, ⟨nd, rfl⟩⟩))
    go_meet
    case rel => exact ⟨_, (!t369), zp8, H', ⟨by first | omega | exact Nat.le_refl _⟩, ⟨by (with_reducible repeat (first | apply Kd.R_alloc | apply Kd.R_drewN | apply Kd.R_drew)); exact HO364.out⟩, ⟨by (with_reducible repeat (first | refine blk_drewN ?_ _ | refine blk_drew ?_ | refine blk_alloc ?_ _)); exact BK366.out⟩, ⟨by repeat (first | (with_reducible first | exact HB.out | apply below_alloc | apply pw_below_drewN | apply below_drew1 | refine below_set ?_ GE366.out) | exact HB.out)⟩⟩
   ·replace c12 := Bool.eq_false_iff.mpr c12
    subst c12
    have H1 : (laws_FnIndexed.j0 k t362 t365 t367 true t359 t360 t361) = some r := by rw [if_neg (show ¬ (false = true) by decide)] at H; exact H
    clear H
    have H := H1
    clear H1
    have H' := Aside0.mk H
    clear H
    have hcz16_0 : w10.cell? ⟨gb366, 0, none⟩ = some (.int .i64 t359) := (blk_cell BK366.out 0).trans rfl
    have hcz16_1 : w10.cell? ⟨gb366, 1, none⟩ = some (.int .i64 t360) := (blk_cell BK366.out 1).trans rfl
    have hcz16_2 : w10.cell? ⟨gb366, 2, none⟩ = some (.int .i64 t361) := (blk_cell BK366.out 2).trans rfl
    have hfz16_0 := blk_frozen BK366.out 0
    have hfz16_1 := blk_frozen BK366.out 1
    have hfz16_2 := blk_frozen BK366.out 2
    go_wp2_with (first | ((with_reducible refine gate_callee (f := 26) rfl ?_); refine goesL_ (some 22) rfl rfl Try.func26 (by kernel_rfl) rfl #[.agg #[.int .i64 t359, .int .i64 t360, .int .i64 t361]] rfl zp1 ?_; (with_reducible refine (spec_MeasureOk.calls t359 t360 t361 false _ A11.out).mono ?_); rintro e w17 ⟨rfl, hb⟩; refine ⟨_, rfl, ?_⟩; have n0_ := Aside0.mk (Kd.R_below zp88 hb); have n1_ := Aside0.mk (blk_below (g := gb366) (o := .cells #[.int .i64 t359, .int .i64 t360, .int .i64 t361] 27 (0, 0)) zp34 hb); have n2_ := Aside0.mk (below_step zp22 hb); clear HO364; clear BK366; clear HB; have HO364 := n0_; have BK366 := n1_; have HB := n2_; clear n0_ n1_ n2_; (try clear hb); (try clear hb2); (try clear hk); (try clear hi)))
    go_meet
    case rel => exact ⟨_, (true), zp8, H', ⟨by first | omega | exact Nat.le_refl _⟩, ⟨by (with_reducible repeat (first | apply Kd.R_alloc | apply Kd.R_drewN | apply Kd.R_drew)); exact HO364.out⟩, ⟨by (with_reducible repeat (first | refine blk_drewN ?_ _ | refine blk_drew ?_ | refine blk_alloc ?_ _)); exact BK366.out⟩, ⟨by repeat (first | (with_reducible first | exact HB.out | apply below_alloc | apply pw_below_drewN | apply below_drew1 | refine below_set ?_ GE366.out) | exact HB.out)⟩⟩
  case rest =>
   clear HC5
   try clear c1
   try clear c2
   try clear c2b0
   try clear c2b1
   try clear p2
   try clear c4
   try clear c12
   try clear c13
   try clear hcz14_0
   try clear hcz14_1
   try clear hcz14_2
   try clear hcz16_0
   try clear hcz16_1
   try clear hcz16_2
   try clear hcz8_0
   try clear hcz8_1
   try clear hcz8_2
   try clear hfz14_0
   try clear hfz14_1
   try clear hfz14_2
   try clear hfz16_0
   try clear hfz16_1
   try clear hfz16_2
   try clear hfz8_0
   try clear hfz8_1
   try clear hfz8_2
   obtain ⟨kq, x28_4, rfl, HA, HJ4, HO_4, BK366, HB⟩ := hcut
   cases kq with
   | zero => exact absurd HA.out (by simp [laws_FnIndexed.j0])
   | succ kj4 =>
    have H := HA.out
    clear HA
    simp only [laws_FnIndexed.j0] at H
    by_cases c18 : x28_4 = true
    ·subst c18
     have H1 : (some (t367 == (-1))) = some r := by rw [if_pos rfl] at H; exact H
     clear H
     have H := H1
     clear H1
     obtain rfl := Option.some.inj H
     go_wp2
     go_ret
     exact ⟨by first | rfl | (simp [errW_none, errW_some] <;> rfl) | (simp [*, errW_none, errW_some] <;> rfl), by repeat (first | (with_reducible first | exact HB.out | apply below_alloc | apply pw_below_drewN | apply below_drew1 | refine below_set ?_ GE366.out) | exact HB.out)⟩
    ·replace c18 := Bool.eq_false_iff.mpr c18
     subst c18
     have H1 : ((impl_BreakingAt.f kj4 t359 t360 t361 t362 t365).bind fun bt370 => (if t365 < 0 then (laws_FnIndexed.j1 kj4 t362 t365 t367 bt370.1 bt370.2 true t359 t360 t361) else (laws_FnIndexed.j1 kj4 t362 t365 t367 bt370.1 bt370.2 (decide (t365 ≥ t367)) t359 t360 t361))) = some r := by rw [if_neg (show ¬ (false = true) by decide)] at H; exact H
     clear H
     have H := H1
     clear H1
     replace H := Option.bind_eq_some_iff.mp H
     obtain ⟨⟨t370, t373⟩, A190, H⟩ := H
     replace H : (if t365 < 0 then (laws_FnIndexed.j1 kj4 t362 t365 t367 t370 t373 true t359 t360 t361) else (laws_FnIndexed.j1 kj4 t362 t365 t367 t370 t373 (decide (t365 ≥ t367)) t359 t360 t361)) = some r := H
     have A19 := Aside0.mk A190
     clear A190
     have HC20 := Aside0.mk H
     clear H
     have hcz21_0 : wc.cell? ⟨gb366, 0, none⟩ = some (.int .i64 t359) := (blk_cell BK366.out 0).trans rfl
     have hcz21_1 : wc.cell? ⟨gb366, 1, none⟩ = some (.int .i64 t360) := (blk_cell BK366.out 1).trans rfl
     have hcz21_2 : wc.cell? ⟨gb366, 2, none⟩ = some (.int .i64 t361) := (blk_cell BK366.out 2).trans rfl
     have hfz21_0 := blk_frozen BK366.out 0
     have hfz21_1 := blk_frozen BK366.out 1
     have hfz21_2 := blk_frozen BK366.out 2
     go_upto_region 8 with (first | ((with_reducible refine gate_callee (f := 37) rfl ?_); refine goesL_ (some 35) rfl rfl Try.func37 (by kernel_rfl) rfl #[.agg #[.int .i64 t359, .int .i64 t360, .int .i64 t361], .slice Ao9 t362.length co9, .int .i64 t365] rfl zp1 ?_; (with_reducible refine (impl_BreakingAt.calls kj4 t359 t360 t361 _ _ t362 t365 t370 t373 _ ?side1 ?side2 A19.out).mono ?_); (case side1 => repeat (first | exact (Kd.R_reads' HO_4.out).2.2 | (with_reducible refine Kd.C_alloc ?_ _) | (with_reducible refine Kd.C_drewN ?_ _) | (with_reducible refine Kd.C_drew ?_))); (case side2 => exact (Kd.R_reads' HO_4.out).2.1); rintro e w22 ⟨v371, rfl, ho0, hb⟩; refine ⟨_, rfl, ?_⟩; have n0_ := Aside0.mk (Kd.R_elder' zp48 (Kd.R_base ho0) hb); have n1_ := Aside0.mk (Kd.R_lower (Kd.R_new' ho0 (Kd.R_lt zp48)) (below_size zp22)); have n2_ := Aside0.mk (blk_below (g := gb366) (o := .cells #[.int .i64 t359, .int .i64 t360, .int .i64 t361] 27 (0, 0)) zp34 hb); have n3_ := Aside0.mk (below_step zp22 hb); clear HO_4; clear BK366; clear HB; have HO_4 := n0_; have HO372 := n1_; have BK366 := n2_; have HB := n3_; clear n0_ n1_ n2_ n3_; (try clear hb); (try clear hb2); (try clear hk); (try clear hi); (try clear ho0)))
     (try simp only [Act.put, List.setIfInBounds_toArray, List.set_cons_zero, List.set_cons_succ])
     go_cut [44] (fun v44 wc => ∃ (kq : Nat) (x44_19 : Bool), v44 = .bool x44_19 ∧ Aside0 (laws_FnIndexed.j1 kq t362 t365 t367 t370 t373 x44_19 t359 t360 t361 = some r) ∧ Aside0 (kq ≤ kj4) ∧ Aside0 (Kd.R (Kd.int .i64) 3 wc w.heap.size (fun k_ => some k_ ≠ (v371 : Value).ownBlock) (.slice Ao9 t362.length co9) t362) ∧ Aside0 (Kd.R (Kd.int .i64) 3 wc w.heap.size (fun k_ => some k_ ≠ ((.slice Ao9 t362.length co9) : Value).ownBlock) v371 t370) ∧ Aside0 (wc.heap[gb366]? = some (.cells #[.int .i64 t359, .int .i64 t360, .int .i64 t361] 27 (0, 0))) ∧ Aside0 (Below w.heap.size w wc))
     case first =>
      have H := HC20.out
      clear HC20
      by_cases c23 : t365 < 0
      ·rw [if_pos c23] at H
       have c23b0 : decide (t365 < 0) = true := decide_eq_true c23
       clear c23
       (first | rw [c23b0] | (simp only [i64_w, i32_w]; rw [c23b0]) | skip)
       have H' := Aside0.mk H
       clear H
       go_wp2
       go_meet
       case rel => exact ⟨_, (true), zp8, H', ⟨by have := HJ4.out; first | omega | exact Nat.le_refl _⟩, ⟨by (with_reducible repeat (first | apply Kd.R_alloc | apply Kd.R_drewN | apply Kd.R_drew)); exact Kd.R_mono HO_4.out (fun _ hk => hk.2)⟩, ⟨by (with_reducible repeat (first | apply Kd.R_alloc | apply Kd.R_drewN | apply Kd.R_drew)); exact Kd.R_mono HO372.out (fun _ hk => hk.2)⟩, ⟨by (with_reducible repeat (first | refine blk_drewN ?_ _ | refine blk_drew ?_ | refine blk_alloc ?_ _)); exact BK366.out⟩, ⟨by repeat (first | (with_reducible first | exact HB.out | apply below_alloc | apply pw_below_drewN | apply below_drew1 | refine below_set ?_ GE366.out) | exact HB.out)⟩⟩
      ·rw [if_neg c23] at H
       have c23b0 : decide (t365 < 0) = false := decide_eq_false c23
       clear c23
       (first | rw [c23b0] | (simp only [i64_w, i32_w]; rw [c23b0]) | skip)
       have H' := Aside0.mk H
       clear H
       go_wp2
       go_meet
       case rel => exact ⟨_, (decide (t365 ≥ t367)), zp8, H', ⟨by have := HJ4.out; first | omega | exact Nat.le_refl _⟩, ⟨by (with_reducible repeat (first | apply Kd.R_alloc | apply Kd.R_drewN | apply Kd.R_drew)); exact Kd.R_mono HO_4.out (fun _ hk => hk.2)⟩, ⟨by (with_reducible repeat (first | apply Kd.R_alloc | apply Kd.R_drewN | apply Kd.R_drew)); exact Kd.R_mono HO372.out (fun _ hk => hk.2)⟩, ⟨by (with_reducible repeat (first | refine blk_drewN ?_ _ | refine blk_drew ?_ | refine blk_alloc ?_ _)); exact BK366.out⟩, ⟨by repeat (first | (with_reducible first | exact HB.out | apply below_alloc | apply pw_below_drewN | apply below_drew1 | refine below_set ?_ GE366.out) | exact HB.out)⟩⟩
     case rest =>
      clear HC20
      try clear c1
      try clear c2
      try clear c2b0
      try clear c2b1
      try clear p2
      try clear c3
      try clear c4
      try clear c12
      try clear c13
      try clear c18
      try clear c23
      try clear c23b0
      try clear hcz14_0
      try clear hcz14_1
      try clear hcz14_2
      try clear hcz16_0
      try clear hcz16_1
      try clear hcz16_2
      try clear hcz21_0
      try clear hcz21_1
      try clear hcz21_2
      try clear hcz8_0
      try clear hcz8_1
      try clear hcz8_2
      try clear hfz14_0
      try clear hfz14_1
      try clear hfz14_2
      try clear hfz16_0
      try clear hfz16_1
      try clear hfz16_2
      try clear hfz21_0
      try clear hfz21_1
      try clear hfz21_2
      try clear hfz8_0
      try clear hfz8_1
      try clear hfz8_2
      try clear p2
      obtain ⟨kq, x44_19, rfl, HA, HJ19, HO_4, HO_7, BK366, HB⟩ := hcut
      cases kq with
      | zero => exact absurd HA.out (by simp [laws_FnIndexed.j1])
      | succ kj19 =>
       have H := HA.out
       clear HA
       simp only [laws_FnIndexed.j1] at H
       by_cases c24 : x44_19 = true
       ·subst c24
        have H1 : (if t367 ≥ 0 then (if t373 = true then (some false) else (some ((t370.length : Int) == 0))) else (some false)) = some r := by rw [if_pos rfl] at H; exact H
        clear H
        have H := H1
        clear H1
        by_cases c25 : t367 ≥ 0
        ·rw [if_pos c25] at H
         have c25b0 : decide (0 ≤ t367) = true := decide_eq_true c25
         clear c25
         by_cases c26 : t373 = true
         ·subst c26
          have H1 : (some false) = some r := by rw [if_pos rfl] at H; exact H
          clear H
          have H := H1
          clear H1
          obtain rfl := Option.some.inj H
          go_wp2
          go_ret
          exact ⟨by first | rfl | (simp [errW_none, errW_some] <;> rfl) | (simp [*, errW_none, errW_some] <;> rfl), by repeat (first | (with_reducible first | exact HB.out | apply below_alloc | apply pw_below_drewN | apply below_drew1 | refine below_set ?_ GE366.out) | exact HB.out)⟩
         ·replace c26 := Bool.eq_false_iff.mpr c26
          subst c26
          have H1 : (some ((t370.length : Int) == 0)) = some r := by rw [if_neg (show ¬ (false = true) by decide)] at H; exact H
          clear H
          have H := H1
          clear H1
          obtain rfl := Option.some.inj H
          obtain ⟨Ao27, co27, eo27⟩ := Kd.R_slice HO_7.out
          subst eo27
          go_wp2
          go_ret
          exact ⟨by first | rfl | (simp [errW_none, errW_some] <;> rfl) | (simp [*, errW_none, errW_some] <;> rfl), by repeat (first | (with_reducible first | exact HB.out | apply below_alloc | apply pw_below_drewN | apply below_drew1 | refine below_set ?_ GE366.out) | exact HB.out)⟩
        ·rw [if_neg c25] at H
         have c25b0 : decide (0 ≤ t367) = false := decide_eq_false c25
         clear c25
         obtain rfl := Option.some.inj H
         go_wp2
         go_ret
         exact ⟨by first | rfl | (simp [errW_none, errW_some] <;> rfl) | (simp [*, errW_none, errW_some] <;> rfl), by repeat (first | (with_reducible first | exact HB.out | apply below_alloc | apply pw_below_drewN | apply below_drew1 | refine below_set ?_ GE366.out) | exact HB.out)⟩
       ·replace c24 := Bool.eq_false_iff.mpr c24
        subst c24
        have H1 : (if t373 = true then ((impl_IsBreaking.f kj19 t359 t360 t361 t362 t370).bind fun t374 => (if t374 = true then ((impl_BreakingIndex.f kj19 t359 t360 t361 t362 t370).bind fun t375 => (if t375 = t365 then ((laws_total.f kj19 t370).bind fun t376 => (some (t376 == (t362.length : Int)))) else (some false))) else (some false))) else (some false)) = some r := by rw [if_neg (show ¬ (false = true) by decide)] at H; exact H
        clear H
        have H := H1
        clear H1
        by_cases c28 : t373 = true
        ·subst c28
         have H1 : ((impl_IsBreaking.f kj19 t359 t360 t361 t362 t370).bind fun t374 => (if t374 = true then ((impl_BreakingIndex.f kj19 t359 t360 t361 t362 t370).bind fun t375 => (if t375 = t365 then ((laws_total.f kj19 t370).bind fun t376 => (some (t376 == (t362.length : Int)))) else (some false))) else (some false))) = some r := by rw [if_pos rfl] at H; exact H
         clear H
         have H := H1
         clear H1
         replace H := Option.bind_eq_some_iff.mp H
         obtain ⟨t374, A290, H⟩ := H
         replace H : (if t374 = true then ((impl_BreakingIndex.f kj19 t359 t360 t361 t362 t370).bind fun t375 => (if t375 = t365 then ((laws_total.f kj19 t370).bind fun t376 => (some (t376 == (t362.length : Int)))) else (some false))) else (some false)) = some r := H
         have A29 := Aside0.mk A290
         clear A290
         by_cases c30 : t374 = true
         ·subst c30
          have H1 : ((impl_BreakingIndex.f kj19 t359 t360 t361 t362 t370).bind fun t375 => (if t375 = t365 then ((laws_total.f kj19 t370).bind fun t376 => (some (t376 == (t362.length : Int)))) else (some false))) = some r := by rw [if_pos rfl] at H; exact H
          clear H
          have H := H1
          clear H1
          replace H := Option.bind_eq_some_iff.mp H
          obtain ⟨t375, A310, H⟩ := H
          replace H : (if t375 = t365 then ((laws_total.f kj19 t370).bind fun t376 => (some (t376 == (t362.length : Int)))) else (some false)) = some r := H
          have A31 := Aside0.mk A310
          clear A310
          by_cases c32 : t375 = t365
          ·rw [if_pos c32] at H
           have c32b0 : (t375 == t365) = true := beq_iff_eq.mpr c32
           have c32b1 : (t375 != t365) = false := bne_eq_false_iff_eq.mpr c32
           clear c32
           replace H := Option.bind_eq_some_iff.mp H
           obtain ⟨t376, A330, H⟩ := H
           replace H : (some (t376 == (t362.length : Int))) = some r := H
           have A33 := Aside0.mk A330
           clear A330
           obtain rfl := Option.some.inj H
           have hcz34_0 : wc.cell? ⟨gb366, 0, none⟩ = some (.int .i64 t359) := (blk_cell BK366.out 0).trans rfl
           have hcz34_1 : wc.cell? ⟨gb366, 1, none⟩ = some (.int .i64 t360) := (blk_cell BK366.out 1).trans rfl
           have hcz34_2 : wc.cell? ⟨gb366, 2, none⟩ = some (.int .i64 t361) := (blk_cell BK366.out 2).trans rfl
           have hfz34_0 := blk_frozen BK366.out 0
           have hfz34_1 := blk_frozen BK366.out 1
           have hfz34_2 := blk_frozen BK366.out 2
           obtain ⟨Ao35, co35, eo35⟩ := Kd.R_slice HO_7.out
           subst eo35
           go_wp2_with (first | (go_at_call 45; (with_reducible refine (impl_IsBreaking.calls kj19 t359 t360 t361 _ _ t362 _ _ t370 true _ ?side1 ?side2 ?side3 ?side4 A29.out).mono ?_); (case side1 => repeat (first | exact (Kd.R_reads' HO_4.out).2.2 | (with_reducible refine Kd.C_alloc ?_ _) | (with_reducible refine Kd.C_drewN ?_ _) | (with_reducible refine Kd.C_drew ?_))); (case side2 => exact (Kd.R_reads' HO_4.out).2.1); (case side3 => repeat (first | exact (Kd.R_reads' HO_7.out).2.2 | (with_reducible refine Kd.C_alloc ?_ _) | (with_reducible refine Kd.C_drewN ?_ _) | (with_reducible refine Kd.C_drew ?_))); (case side4 => exact (Kd.R_reads' HO_7.out).2.1); rintro e w36 ⟨rfl, hb⟩; have n0_ := Aside0.mk (Kd.R_below zp48 hb); have n1_ := Aside0.mk (Kd.R_below zp60 hb); have n2_ := Aside0.mk (blk_below (g := gb366) (o := .cells #[.int .i64 t359, .int .i64 t360, .int .i64 t361] 27 (0, 0)) zp34 hb); have n3_ := Aside0.mk (below_step zp22 hb); clear HO_4; clear HO_7; clear BK366; clear HB; have HO_4 := n0_; have HO_7 := n1_; have BK366 := n2_; have HB := n3_; clear n0_ n1_ n2_ n3_; (try clear hb); (try clear hb2); (try clear hk); (try clear hi); have hcz37_0 : w36.cell? ⟨gb366, 0, none⟩ = some (.int .i64 t359) := (blk_cell BK366.out 0).trans rfl; have hcz37_1 : w36.cell? ⟨gb366, 1, none⟩ = some (.int .i64 t360) := (blk_cell BK366.out 1).trans rfl; have hcz37_2 : w36.cell? ⟨gb366, 2, none⟩ = some (.int .i64 t361) := (blk_cell BK366.out 2).trans rfl; have hfz37_0 := blk_frozen BK366.out 0; have hfz37_1 := blk_frozen BK366.out 1; have hfz37_2 := blk_frozen BK366.out 2) | (go_at_call 41; (with_reducible refine (impl_BreakingIndex.calls kj19 t359 t360 t361 _ _ t362 _ _ t370 t375 _ ?side1 ?side2 ?side3 ?side4 A31.out).mono ?_); (case side1 => repeat (first | exact (Kd.R_reads' HO_4.out).2.2 | (with_reducible refine Kd.C_alloc ?_ _) | (with_reducible refine Kd.C_drewN ?_ _) | (with_reducible refine Kd.C_drew ?_))); (case side2 => exact (Kd.R_reads' HO_4.out).2.1); (case side3 => repeat (first | exact (Kd.R_reads' HO_7.out).2.2 | (with_reducible refine Kd.C_alloc ?_ _) | (with_reducible refine Kd.C_drewN ?_ _) | (with_reducible refine Kd.C_drew ?_))); (case side4 => exact (Kd.R_reads' HO_7.out).2.1); rintro e w38 ⟨rfl, hb⟩; have n0_ := Aside0.mk (Kd.R_below zp48 hb); have n1_ := Aside0.mk (Kd.R_below zp60 hb); have n2_ := Aside0.mk (blk_below (g := gb366) (o := .cells #[.int .i64 t359, .int .i64 t360, .int .i64 t361] 27 (0, 0)) zp34 hb); have n3_ := Aside0.mk (below_step zp22 hb); clear HO_4; clear HO_7; clear BK366; clear HB; have HO_4 := n0_; have HO_7 := n1_; have BK366 := n2_; have HB := n3_; clear n0_ n1_ n2_ n3_; (try clear hb); (try clear hb2); (try clear hk); (try clear hi)) | (go_at_call 28; (with_reducible refine (laws_total.calls kj19 _ _ t370 t376 _ ?side1 ?side2 A33.out).mono ?_); (case side1 => repeat (first | exact (Kd.R_reads' HO_7.out).2.2 | (with_reducible refine Kd.C_alloc ?_ _) | (with_reducible refine Kd.C_drewN ?_ _) | (with_reducible refine Kd.C_drew ?_))); (case side2 => exact (Kd.R_reads' HO_7.out).2.1); rintro e w' ⟨rfl, ⟨nd, rfl⟩⟩))
           go_ret
           exact ⟨by first | rfl | (simp [errW_none, errW_some] <;> rfl) | (simp [*, errW_none, errW_some] <;> rfl), by repeat (first | (with_reducible first | exact HB.out | apply below_alloc | apply pw_below_drewN | apply below_drew1 | refine below_set ?_ GE366.out) | exact HB.out)⟩
          ·rw [if_neg c32] at H
           have c32b0 : (t375 == t365) = false := beq_eq_false_iff_ne.mpr c32
           have c32b1 : (t375 != t365) = true := bne_iff_ne.mpr c32
           obtain rfl := Option.some.inj H
           have hcz39_0 : wc.cell? ⟨gb366, 0, none⟩ = some (.int .i64 t359) := (blk_cell BK366.out 0).trans rfl
           have hcz39_1 : wc.cell? ⟨gb366, 1, none⟩ = some (.int .i64 t360) := (blk_cell BK366.out 1).trans rfl
           have hcz39_2 : wc.cell? ⟨gb366, 2, none⟩ = some (.int .i64 t361) := (blk_cell BK366.out 2).trans rfl
           have hfz39_0 := blk_frozen BK366.out 0
           have hfz39_1 := blk_frozen BK366.out 1
           have hfz39_2 := blk_frozen BK366.out 2
           obtain ⟨Ao40, co40, eo40⟩ := Kd.R_slice HO_7.out
           subst eo40
           go_wp2_with (first | (go_at_call 45; (with_reducible refine (impl_IsBreaking.calls kj19 t359 t360 t361 _ _ t362 _ _ t370 true _ ?side1 ?side2 ?side3 ?side4 A29.out).mono ?_); (case side1 => repeat (first | exact (Kd.R_reads' HO_4.out).2.2 | (with_reducible refine Kd.C_alloc ?_ _) | (with_reducible refine Kd.C_drewN ?_ _) | (with_reducible refine Kd.C_drew ?_))); (case side2 => exact (Kd.R_reads' HO_4.out).2.1); (case side3 => repeat (first | exact (Kd.R_reads' HO_7.out).2.2 | (with_reducible refine Kd.C_alloc ?_ _) | (with_reducible refine Kd.C_drewN ?_ _) | (with_reducible refine Kd.C_drew ?_))); (case side4 => exact (Kd.R_reads' HO_7.out).2.1); rintro e w41 ⟨rfl, hb⟩; have n0_ := Aside0.mk (Kd.R_below zp48 hb); have n1_ := Aside0.mk (Kd.R_below zp60 hb); have n2_ := Aside0.mk (blk_below (g := gb366) (o := .cells #[.int .i64 t359, .int .i64 t360, .int .i64 t361] 27 (0, 0)) zp34 hb); have n3_ := Aside0.mk (below_step zp22 hb); clear HO_4; clear HO_7; clear BK366; clear HB; have HO_4 := n0_; have HO_7 := n1_; have BK366 := n2_; have HB := n3_; clear n0_ n1_ n2_ n3_; (try clear hb); (try clear hb2); (try clear hk); (try clear hi); have hcz42_0 : w41.cell? ⟨gb366, 0, none⟩ = some (.int .i64 t359) := (blk_cell BK366.out 0).trans rfl; have hcz42_1 : w41.cell? ⟨gb366, 1, none⟩ = some (.int .i64 t360) := (blk_cell BK366.out 1).trans rfl; have hcz42_2 : w41.cell? ⟨gb366, 2, none⟩ = some (.int .i64 t361) := (blk_cell BK366.out 2).trans rfl; have hfz42_0 := blk_frozen BK366.out 0; have hfz42_1 := blk_frozen BK366.out 1; have hfz42_2 := blk_frozen BK366.out 2) | (go_at_call 41; (with_reducible refine (impl_BreakingIndex.calls kj19 t359 t360 t361 _ _ t362 _ _ t370 t375 _ ?side1 ?side2 ?side3 ?side4 A31.out).mono ?_); (case side1 => repeat (first | exact (Kd.R_reads' HO_4.out).2.2 | (with_reducible refine Kd.C_alloc ?_ _) | (with_reducible refine Kd.C_drewN ?_ _) | (with_reducible refine Kd.C_drew ?_))); (case side2 => exact (Kd.R_reads' HO_4.out).2.1); (case side3 => repeat (first | exact (Kd.R_reads' HO_7.out).2.2 | (with_reducible refine Kd.C_alloc ?_ _) | (with_reducible refine Kd.C_drewN ?_ _) | (with_reducible refine Kd.C_drew ?_))); (case side4 => exact (Kd.R_reads' HO_7.out).2.1); rintro e w43 ⟨rfl, hb⟩; have n0_ := Aside0.mk (Kd.R_below zp48 hb); have n1_ := Aside0.mk (Kd.R_below zp60 hb); have n2_ := Aside0.mk (blk_below (g := gb366) (o := .cells #[.int .i64 t359, .int .i64 t360, .int .i64 t361] 27 (0, 0)) zp34 hb); have n3_ := Aside0.mk (below_step zp22 hb); clear HO_4; clear HO_7; clear BK366; clear HB; have HO_4 := n0_; have HO_7 := n1_; have BK366 := n2_; have HB := n3_; clear n0_ n1_ n2_ n3_; (try clear hb); (try clear hb2); (try clear hk); (try clear hi)))
           go_ret
           exact ⟨by first | rfl | (simp [errW_none, errW_some] <;> rfl) | (simp [*, errW_none, errW_some] <;> rfl), by repeat (first | (with_reducible first | exact HB.out | apply below_alloc | apply pw_below_drewN | apply below_drew1 | refine below_set ?_ GE366.out) | exact HB.out)⟩
         ·replace c30 := Bool.eq_false_iff.mpr c30
          subst c30
          have H1 : (some false) = some r := by rw [if_neg (show ¬ (false = true) by decide)] at H; exact H
          clear H
          have H := H1
          clear H1
          obtain rfl := Option.some.inj H
          have hcz44_0 : wc.cell? ⟨gb366, 0, none⟩ = some (.int .i64 t359) := (blk_cell BK366.out 0).trans rfl
          have hcz44_1 : wc.cell? ⟨gb366, 1, none⟩ = some (.int .i64 t360) := (blk_cell BK366.out 1).trans rfl
          have hcz44_2 : wc.cell? ⟨gb366, 2, none⟩ = some (.int .i64 t361) := (blk_cell BK366.out 2).trans rfl
          have hfz44_0 := blk_frozen BK366.out 0
          have hfz44_1 := blk_frozen BK366.out 1
          have hfz44_2 := blk_frozen BK366.out 2
          obtain ⟨Ao45, co45, eo45⟩ := Kd.R_slice HO_7.out
          subst eo45
          go_wp2_with (first | (go_at_call 45; (with_reducible refine (impl_IsBreaking.calls kj19 t359 t360 t361 _ _ t362 _ _ t370 false _ ?side1 ?side2 ?side3 ?side4 A29.out).mono ?_); (case side1 => repeat (first | exact (Kd.R_reads' HO_4.out).2.2 | (with_reducible refine Kd.C_alloc ?_ _) | (with_reducible refine Kd.C_drewN ?_ _) | (with_reducible refine Kd.C_drew ?_))); (case side2 => exact (Kd.R_reads' HO_4.out).2.1); (case side3 => repeat (first | exact (Kd.R_reads' HO_7.out).2.2 | (with_reducible refine Kd.C_alloc ?_ _) | (with_reducible refine Kd.C_drewN ?_ _) | (with_reducible refine Kd.C_drew ?_))); (case side4 => exact (Kd.R_reads' HO_7.out).2.1); rintro e w46 ⟨rfl, hb⟩; have n0_ := Aside0.mk (Kd.R_below zp48 hb); have n1_ := Aside0.mk (Kd.R_below zp60 hb); have n2_ := Aside0.mk (blk_below (g := gb366) (o := .cells #[.int .i64 t359, .int .i64 t360, .int .i64 t361] 27 (0, 0)) zp34 hb); have n3_ := Aside0.mk (below_step zp22 hb); clear HO_4; clear HO_7; clear BK366; clear HB; have HO_4 := n0_; have HO_7 := n1_; have BK366 := n2_; have HB := n3_; clear n0_ n1_ n2_ n3_; (try clear hb); (try clear hb2); (try clear hk); (try clear hi)))
          go_ret
          exact ⟨by first | rfl | (simp [errW_none, errW_some] <;> rfl) | (simp [*, errW_none, errW_some] <;> rfl), by repeat (first | (with_reducible first | exact HB.out | apply below_alloc | apply pw_below_drewN | apply below_drew1 | refine below_set ?_ GE366.out) | exact HB.out)⟩
        ·replace c28 := Bool.eq_false_iff.mpr c28
         subst c28
         have H1 : (some false) = some r := by rw [if_neg (show ¬ (false = true) by decide)] at H; exact H
         clear H
         have H := H1
         clear H1
         obtain rfl := Option.some.inj H
         go_wp2
         go_ret
         exact ⟨by first | rfl | (simp [errW_none, errW_some] <;> rfl) | (simp [*, errW_none, errW_some] <;> rfl), by repeat (first | (with_reducible first | exact HB.out | apply below_alloc | apply pw_below_drewN | apply below_drew1 | refine below_set ?_ GE366.out) | exact HB.out)⟩
def laws_FnIndexed.Pure : Prop := ∀ (l0 : List Int), l0.length ≤ maxLen → l0.length * 1 ≤ 140737488351232 → (∀ x ∈ l0, (Lit.int .u8 x).wf = true) → ∃ k, laws_FnIndexed.f k l0 = some true
theorem laws_FnIndexed.walk (P : laws_FnIndexed.Pure) (a0 : Option Addr) (len0 cap0 : Nat) (z0 : List Int) (w : World) (w0 : (a0 = none ∧ len0 = 0 ∧ cap0 = 0 ∧ z0 = []) ∨ ∃ x, a0 = some x ∧ len0 ≤ cap0 ∧ cap0 ≤ maxLen ∧ z0.length = cap0 ∧ (∀ i, i < z0.length → w.cell? (x.add i) = some (.int .u8 (z0.getD i 0))) ∧ ∀ n ∈ z0, (Lit.int .u8 n).wf = true) (y0 : len0 * 1 ≤ 140737488351232) :
 Calls Try.prog 13 #[.slice a0 len0 cap0] w fun e w' => e = .returned (.bool true) ∧ Below w.heap.size w w' := by
 obtain ⟨l0, rfl, hr0, hm0, hw0, hc0⟩ := ReadsInt.ofRowC w0
 obtain ⟨k, h⟩ := P l0 hm0 y0 hw0
 refine (laws_FnIndexed.calls k _ _ l0 true w (Kd.C_of_reads (d := (0 : Int)) (h1 := fun _ => rfl) hr0) hc0 h).mono ?_
 rintro e w' ⟨rfl, hd⟩
 exact ⟨rfl, hd⟩
end Go.Proofs.Ytnbmlblcmjaclaa.PFnIndexed
