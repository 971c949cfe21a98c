/- Written by a program of this session with the help of the kit's print: of each Go function a Lean function, and the proof that its call comes to just what that tells. No condition beyond those that each theorem states. -/
import Derived.Test.YtnbmlblcmjaclaaPFnWidths0
import Derived.Test.YtnbmlblcmjaclaaPFnWidths2
import Derived.Test.YtnbmlblcmjaclaaPFnWidths6
namespace Go.Proofs.Ytnbmlblcmjaclaa.PFnWidths
open Go.RowKit Go.Proofs.YtnbmlblcmjaclaaW.PrintWords Go.Proofs.YtnbmlblcmjaclaaW.PrintLast Go.Proofs.YtnbmlblcmjaclaaW.PrintMore
attribute [local go_sem] max2_int min2_int max_two min_two max_three min_three max_four min_four
set_option linter.unusedVariables false
set_option linter.unusedSimpArgs false
mutual
def laws_FnWidths.j0 : Nat → List Int → Int → List Int → Bool → Int → Int → Int → Option (Bool)
 | 0, _, _, _, _, _, _, _ => none
 | k + 1, x4, x5, x6, x38, x315000, x315001, x315002 => if x38 = true then (some ((x6.length : Int) == 0)) else ((laws_total.f k x4).bind fun t320 => (laws_FnWidths.l0 k x4 x5 x6 (wrap64 ((wrap64 ((wrap64 ((x4.length : Int) - 1)) * x315001)) + t320)) 0 1 x315000 x315001 x315002))
def laws_FnWidths.l0 : Nat → List Int → Int → List Int → Int → Int → Int → Int → Int → Int → Option (Bool)
 | 0, _, _, _, _, _, _, _, _, _ => none
 | k + 1, x4, x5, x6, x7, x8, x9, x315000, x315001, x315002 => if x9 ≤ x5 then ((impl_CountBreakings.f k x9 x315001 x315002 x4).bind fun t321 => (if t321 < 1 then (if x9 ≥ x7 then (some false) else (laws_FnWidths.l0 k x4 x5 x6 x7 x8 (wrap64 (x9 + 1)) x315000 x315001 x315002)) else (if x8 ≥ (x6.length : Int) then (some false) else (if 0 ≤ x8 then (if x8 < (x6.length : Int) then (if (rd x6 x8) = x9 then (laws_FnWidths.l0 k x4 x5 x6 x7 (wrap64 (x8 + 1)) (wrap64 (x9 + 1)) x315000 x315001 x315002) else (some false)) else (none)) else (none))))) else (some (x8 == (x6.length : Int)))
end
def laws_FnWidths.f (k : Nat) (l0 : List Int) : Option (Bool) := if (l0.length : Int) > 1048576 then (some true) else ((spec_DrawWidthsFor.f k l0).bind fun bt307 => ((impl_WidthsFor.f k bt307.1 bt307.2.1 bt307.2.2.1 bt307.2.2.2.1 bt307.2.2.2.2).bind fun t315 => ((spec_MeasureOk.f bt307.1 bt307.2.1 bt307.2.2.1).bind fun t318 => (if t318 = true then ((spec_TextOk.f k bt307.2.2.2.1).bind fun t319 => (if t319 = true then (if bt307.2.2.2.2 < 0 then (laws_FnWidths.j0 k bt307.2.2.2.1 bt307.2.2.2.2 t315 true bt307.1 bt307.2.1 bt307.2.2.1) else (laws_FnWidths.j0 k bt307.2.2.2.1 bt307.2.2.2.2 t315 (decide (bt307.2.2.2.2 > 300)) bt307.1 bt307.2.1 bt307.2.2.1)) else (laws_FnWidths.j0 k bt307.2.2.2.1 bt307.2.2.2.2 t315 true bt307.1 bt307.2.1 bt307.2.2.1))) else (laws_FnWidths.j0 k bt307.2.2.2.1 bt307.2.2.2.2 t315 true bt307.1 bt307.2.1 bt307.2.2.1)))))
theorem laws_FnWidths.mono_l : ∀ k, (∀ y0 y1 y2 y3 y4 y5 y6, LeO (laws_FnWidths.j0 k y0 y1 y2 y3 y4 y5 y6) (laws_FnWidths.j0 (k + 1) y0 y1 y2 y3 y4 y5 y6)) ∧ (∀ y0 y1 y2 y3 y4 y5 y6 y7 y8, LeO (laws_FnWidths.l0 k y0 y1 y2 y3 y4 y5 y6 y7 y8) (laws_FnWidths.l0 (k + 1) y0 y1 y2 y3 y4 y5 y6 y7 y8))
 | 0 => ⟨fun _ _ _ _ _ _ _ r h => by simp [laws_FnWidths.j0] at h, fun _ _ _ _ _ _ _ _ _ r h => by simp [laws_FnWidths.l0] at h⟩
 | k + 1 => by
  obtain ⟨ih0, ih1⟩ := laws_FnWidths.mono_l k
  refine ⟨?_, ?_⟩
  ·intro y0 y1 y2 y3 y4 y5 y6
   unfold laws_FnWidths.j0
   repeat' first
   | (with_reducible exact ih0 _ _ _ _ _ _ _)
   | (with_reducible exact ih1 _ _ _ _ _ _ _ _ _)
   | (with_reducible exact impl_CountBreakings.mono _ _ _ _ _)
   | (with_reducible exact impl_WidthsFor.mono _ _ _ _ _ _)
   | (with_reducible exact laws_total.mono _ _)
   | (with_reducible exact spec_DrawWidthsFor.mono _ _)
   | (with_reducible exact spec_TextOk.mono _ _)
   | (with_reducible exact LeO.refl _)
   | (with_reducible exact LeO.none _)
   | (with_reducible refine LeO.ite ?_ ?_)
   | (with_reducible refine LeO.bind ?_ (fun _ => ?_))
   | exact ih0 _ _ _ _ _ _ _
   | exact ih1 _ _ _ _ _ _ _ _ _
   | exact impl_CountBreakings.mono _ _ _ _ _
   | exact impl_WidthsFor.mono _ _ _ _ _ _
   | exact laws_total.mono _ _
   | exact spec_DrawWidthsFor.mono _ _
   | exact spec_TextOk.mono _ _
   | exact LeO.none _
   | refine LeO.ite ?_ ?_
   | refine LeO.bind ?_ (fun _ => ?_)
  ·intro y0 y1 y2 y3 y4 y5 y6 y7 y8
   unfold laws_FnWidths.l0
   repeat' first
   | (with_reducible exact ih0 _ _ _ _ _ _ _)
   | (with_reducible exact ih1 _ _ _ _ _ _ _ _ _)
   | (with_reducible exact impl_CountBreakings.mono _ _ _ _ _)
   | (with_reducible exact impl_WidthsFor.mono _ _ _ _ _ _)
   | (with_reducible exact laws_total.mono _ _)
   | (with_reducible exact spec_DrawWidthsFor.mono _ _)
   | (with_reducible exact spec_TextOk.mono _ _)
   | (with_reducible exact LeO.refl _)
   | (with_reducible exact LeO.none _)
   | (with_reducible refine LeO.ite ?_ ?_)
   | (with_reducible refine LeO.bind ?_ (fun _ => ?_))
   | exact ih0 _ _ _ _ _ _ _
   | exact ih1 _ _ _ _ _ _ _ _ _
   | exact impl_CountBreakings.mono _ _ _ _ _
   | exact impl_WidthsFor.mono _ _ _ _ _ _
   | exact laws_total.mono _ _
   | exact spec_DrawWidthsFor.mono _ _
   | exact spec_TextOk.mono _ _
   | exact LeO.none _
   | refine LeO.ite ?_ ?_
   | refine LeO.bind ?_ (fun _ => ?_)
theorem laws_FnWidths.mono : ∀ a0 k, LeO (laws_FnWidths.f k a0) (laws_FnWidths.f (k + 1) a0) := by
 intro a0 k
 obtain ⟨ih0, ih1⟩ := laws_FnWidths.mono_l k
 unfold laws_FnWidths.f
 repeat' first
  | (with_reducible exact ih0 _ _ _ _ _ _ _)
  | (with_reducible exact ih1 _ _ _ _ _ _ _ _ _)
  | (with_reducible exact impl_CountBreakings.mono _ _ _ _ _)
  | (with_reducible exact impl_WidthsFor.mono _ _ _ _ _ _)
  | (with_reducible exact laws_total.mono _ _)
  | (with_reducible exact spec_DrawWidthsFor.mono _ _)
  | (with_reducible exact spec_TextOk.mono _ _)
  | (with_reducible exact LeO.refl _)
  | (with_reducible exact LeO.none _)
  | (with_reducible refine LeO.ite ?_ ?_)
  | (with_reducible refine LeO.bind ?_ (fun _ => ?_))
  | exact ih0 _ _ _ _ _ _ _
  | exact ih1 _ _ _ _ _ _ _ _ _
  | exact impl_CountBreakings.mono _ _ _ _ _
  | exact impl_WidthsFor.mono _ _ _ _ _ _
  | exact laws_total.mono _ _
  | exact spec_DrawWidthsFor.mono _ _
  | exact spec_TextOk.mono _ _
  | exact LeO.none _
  | refine LeO.ite ?_ ?_
  | refine LeO.bind ?_ (fun _ => ?_)
set_option maxHeartbeats 8000000 in
set_option maxRecDepth 100000 in
theorem laws_FnWidths.calls (k : Nat) (A0 : Option Addr) (c0 : Nat) (l0 : List Int) (r : Bool) (w : World) (hr0 : Kd.C (Kd.int .u8) w A0 l0.length l0) (hc0 : l0.length ≤ c0) (h : laws_FnWidths.f k l0 = some r) :
 Calls Try.prog 5 #[.slice A0 l0.length c0] w fun e w' => e = .returned (.bool r) ∧ Below w.heap.size w w' := by
 have hu27 := Try.underlying27
 have HR0 := Aside0.mk hr0
 have HC0 := Aside0.mk hc0
 clear hr0 hc0
 have HB := Aside0.mk (Below.refl w.heap.size w)
 have H : (if (l0.length : Int) > 1048576 then (some true) else ((spec_DrawWidthsFor.f k l0).bind fun bt307 => ((impl_WidthsFor.f k bt307.1 bt307.2.1 bt307.2.2.1 bt307.2.2.2.1 bt307.2.2.2.2).bind fun t315 => ((spec_MeasureOk.f bt307.1 bt307.2.1 bt307.2.2.1).bind fun t318 => (if t318 = true then ((spec_TextOk.f k bt307.2.2.2.1).bind fun t319 => (if t319 = true then (if bt307.2.2.2.2 < 0 then (laws_FnWidths.j0 k bt307.2.2.2.1 bt307.2.2.2.2 t315 true bt307.1 bt307.2.1 bt307.2.2.1) else (laws_FnWidths.j0 k bt307.2.2.2.1 bt307.2.2.2.2 t315 (decide (bt307.2.2.2.2 > 300)) bt307.1 bt307.2.1 bt307.2.2.1)) else (laws_FnWidths.j0 k bt307.2.2.2.1 bt307.2.2.2.2 t315 true bt307.1 bt307.2.1 bt307.2.2.1))) else (laws_FnWidths.j0 k bt307.2.2.2.1 bt307.2.2.2.2 t315 true bt307.1 bt307.2.1 bt307.2.2.1)))))) = some r := h
 clear h
 by_cases c2 : (l0.length : Int) > 1048576
 ·rw [if_pos c2] at H
  have c2b0 : decide (1048576 < (l0.length : Int)) = true := decide_eq_true c2
  have c2b1 : decide (1048576 < l0.length) = true := decide_eq_true zp71
  clear c2
  obtain rfl := Option.some.inj H
  go_enter Try.func5, Try.ntmps5
  go_wp2
  repeat (go_quiet (fail); try go_wp2)
  go_ret
  exact ⟨by first | rfl | (simp [errW_none, errW_some] <;> rfl) | (simp [*, errW_none, errW_some] <;> rfl), by repeat (first | (with_reducible first | exact HB.out | apply below_alloc | apply pw_below_drewN | apply below_drew1) | exact HB.out)⟩
 ·rw [if_neg c2] at H
  have c2b0 : decide (1048576 < (l0.length : Int)) = false := decide_eq_false c2
  have c2b1 : decide (1048576 < l0.length) = false := decide_eq_false zp71
  clear c2
  replace H := Option.bind_eq_some_iff.mp H
  obtain ⟨⟨t307, t308, t309, t310, t313⟩, A30, H⟩ := H
  replace H : ((impl_WidthsFor.f k t307 t308 t309 t310 t313).bind fun t315 => ((spec_MeasureOk.f t307 t308 t309).bind fun t318 => (if t318 = true then ((spec_TextOk.f k t310).bind fun t319 => (if t319 = true then (if t313 < 0 then (laws_FnWidths.j0 k t310 t313 t315 true t307 t308 t309) else (laws_FnWidths.j0 k t310 t313 t315 (decide (t313 > 300)) t307 t308 t309)) else (laws_FnWidths.j0 k t310 t313 t315 true t307 t308 t309))) else (laws_FnWidths.j0 k t310 t313 t315 true t307 t308 t309)))) = some r := H
  have A3 := Aside0.mk A30
  clear A30
  replace H := Option.bind_eq_some_iff.mp H
  obtain ⟨t315, A40, H⟩ := H
  replace H : ((spec_MeasureOk.f t307 t308 t309).bind fun t318 => (if t318 = true then ((spec_TextOk.f k t310).bind fun t319 => (if t319 = true then (if t313 < 0 then (laws_FnWidths.j0 k t310 t313 t315 true t307 t308 t309) else (laws_FnWidths.j0 k t310 t313 t315 (decide (t313 > 300)) t307 t308 t309)) else (laws_FnWidths.j0 k t310 t313 t315 true t307 t308 t309))) else (laws_FnWidths.j0 k t310 t313 t315 true t307 t308 t309))) = some r := H
  have A4 := Aside0.mk A40
  clear A40
  have HC5 := Aside0.mk H
  clear H
  go_enter Try.func5, Try.ntmps5
  go_upto_region 5 with (first | (go_at_call 24; (with_reducible refine (spec_DrawWidthsFor.calls k _ _ l0 t307 t308 t309 t310 t313 _ ?side1 ?side2 A3.out).mono ?_); (case side1 => repeat (first | exact HR0.out | (with_reducible refine Kd.C_alloc ?_ _) | (with_reducible refine Kd.C_drewN ?_ _) | (with_reducible refine Kd.C_drew ?_))); (case side2 => exact HC0.out); rintro e w6 ⟨v311, rfl, ho0, hb⟩; have n0_ := Aside0.mk (Kd.R_lower ho0 (below_size zp0)); have n1_ := Aside0.mk (below_step zp0 hb); clear HB; have HO312 := n0_; have HB := n1_; clear n0_ n1_; (try clear hb); (try clear hb2); (try clear hk); (try clear hi); (try clear ho0)) | ((with_reducible refine gate_dst (N := 3) rfl ?_); refine box_event ?hg (N := 3) ?hd (cs := #[.int .i64 0, .int .i64 0, .int .i64 0]) (t := 27) ?hr ?_; (case hd => rfl); (case hg => rfl); (case hr => first | (go_simp; done) | (go_simp; rfl)); intro gb314 hg w7 hbox hb; have n0_ := Aside0.mk (Kd.R_below zp22 hb); have n1_ := Aside0.mk (below_step zp0 hb); have n2_ := Aside0.mk (hbox); have n3_ := Aside0.mk ((zp13 : w.heap.size ≤ gb314)); have n4_ := Aside0.mk ((zp13 : w.heap.size ≤ gb314)); clear HO312; clear HB; have HO312 := n0_; have HB := n1_; have BK314 := n2_; have GW314 := n3_; have GE314 := n4_; clear n0_ n1_ n2_ n3_ n4_; clear hb hbox hg; have hcz8_0 : w7.cell? ⟨gb314, 0, none⟩ = some (.int .i64 0) := (blk_cell BK314.out 0).trans rfl; have hcz8_1 : w7.cell? ⟨gb314, 1, none⟩ = some (.int .i64 0) := (blk_cell BK314.out 1).trans rfl; have hcz8_2 : w7.cell? ⟨gb314, 2, none⟩ = some (.int .i64 0) := (blk_cell BK314.out 2).trans rfl; have hfz8_0 := blk_frozen BK314.out 0; have hfz8_1 := blk_frozen BK314.out 1; have hfz8_2 := blk_frozen BK314.out 2; obtain ⟨Ao9, co9, eo9⟩ := Kd.R_slice HO312.out; subst eo9) | (go_at_call 25; (with_reducible refine (impl_WidthsFor.calls k t307 t308 t309 _ _ t310 t313 t315 _ ?side1 ?side2 A4.out).mono ?_); (case side1 => refine (Kd.R_reads' (e := 3) (base := w.heap.size) (ok := fun k_ => True) (n := t310.length) (c := co9) ?_).2.2; exact (by (with_reducible repeat (first | apply Kd.R_alloc | apply Kd.R_drewN | apply Kd.R_drew)); exact (Kd.R_mono (Kd.R_far (p := ⟨gb314, 2, none⟩) (Kd.R_far (p := ⟨gb314, 1, none⟩) (Kd.R_far (p := ⟨gb314, 0, none⟩) (Kd.R_types HO312.out BK314.out (by decide)) (fun _ hk => hk.2) (.int .i64 t307)) (fun _ hk => hk.2) (.int .i64 t308)) (fun _ hk => hk.2) (.int .i64 t309)) (fun _ h_ => h_.1)))); (case side2 => exact (Kd.R_reads' HO312.out).2.1); rintro e w10 ⟨v316, rfl, ho0, hb⟩; have n0_ := Aside0.mk (Kd.R_elder' (by (with_reducible repeat (first | apply Kd.R_alloc | apply Kd.R_drewN | apply Kd.R_drew)); exact (Kd.R_mono (Kd.R_far (p := ⟨gb314, 2, none⟩) (Kd.R_far (p := ⟨gb314, 1, none⟩) (Kd.R_far (p := ⟨gb314, 0, none⟩) (Kd.R_types HO312.out BK314.out (by decide)) (fun _ hk => hk.2) (.int .i64 t307)) (fun _ hk => hk.2) (.int .i64 t308)) (fun _ hk => hk.2) (.int .i64 t309)) (fun _ h_ => h_.1))) (Kd.R_base ho0) hb); have n1_ := Aside0.mk (Kd.R_lower (Kd.R_new' ho0 (Kd.R_lt (by (with_reducible repeat (first | apply Kd.R_alloc | apply Kd.R_drewN | apply Kd.R_drew)); exact (Kd.R_mono (Kd.R_far (p := ⟨gb314, 2, none⟩) (Kd.R_far (p := ⟨gb314, 1, none⟩) (Kd.R_far (p := ⟨gb314, 0, none⟩) (Kd.R_types HO312.out BK314.out (by decide)) (fun _ hk => hk.2) (.int .i64 t307)) (fun _ hk => hk.2) (.int .i64 t308)) (fun _ hk => hk.2) (.int .i64 t309)) (fun _ h_ => h_.1))))) (below_size zp3)); have n2_ := Aside0.mk (blk_below (g := gb314) (o := .cells #[.int .i64 t307, .int .i64 t308, .int .i64 t309] 27 (0, 0)) zp27 hb); have n3_ := Aside0.mk (below_step zp3 hb); clear HO312; clear BK314; clear HB; have HO312 := n0_; have HO317 := n1_; have BK314 := n2_; have HB := n3_; clear n0_ n1_ n2_ n3_; (try clear hb); (try clear hb2); (try clear hk); (try clear hi); (try clear ho0)))
  repeat (go_quiet (first | (go_at_call 24; (with_reducible refine (spec_DrawWidthsFor.calls k _ _ l0 t307 t308 t309 t310 t313 _ ?side1 ?side2 A3.out).mono ?_); (case side1 => repeat (first | exact HR0.out | (with_reducible refine Kd.C_alloc ?_ _) | (with_reducible refine Kd.C_drewN ?_ _) | (with_reducible refine Kd.C_drew ?_))); (case side2 => exact HC0.out); rintro e w6 ⟨v311, rfl, ho0, hb⟩; have n0_ := Aside0.mk (Kd.R_lower ho0 (below_size zp0)); have n1_ := Aside0.mk (below_step zp0 hb); clear HB; have HO312 := n0_; have HB := n1_; clear n0_ n1_; (try clear hb); (try clear hb2); (try clear hk); (try clear hi); (try clear ho0)) | ((with_reducible refine gate_dst (N := 3) rfl ?_); refine box_event ?hg (N := 3) ?hd (cs := #[.int .i64 0, .int .i64 0, .int .i64 0]) (t := 27) ?hr ?_; (case hd => rfl); (case hg => rfl); (case hr => first | (go_simp; done) | (go_simp; rfl)); intro gb314 hg w7 hbox hb; have n0_ := Aside0.mk (Kd.R_below zp22 hb); have n1_ := Aside0.mk (below_step zp0 hb); have n2_ := Aside0.mk (hbox); have n3_ := Aside0.mk ((zp13 : w.heap.size ≤ gb314)); have n4_ := Aside0.mk ((zp13 : w.heap.size ≤ gb314)); clear HO312; clear HB; have HO312 := n0_; have HB := n1_; have BK314 := n2_; have GW314 := n3_; have GE314 := n4_; clear n0_ n1_ n2_ n3_ n4_; clear hb hbox hg; have hcz8_0 : w7.cell? ⟨gb314, 0, none⟩ = some (.int .i64 0) := (blk_cell BK314.out 0).trans rfl; have hcz8_1 : w7.cell? ⟨gb314, 1, none⟩ = some (.int .i64 0) := (blk_cell BK314.out 1).trans rfl; have hcz8_2 : w7.cell? ⟨gb314, 2, none⟩ = some (.int .i64 0) := (blk_cell BK314.out 2).trans rfl; have hfz8_0 := blk_frozen BK314.out 0; have hfz8_1 := blk_frozen BK314.out 1; have hfz8_2 := blk_frozen BK314.out 2; obtain ⟨Ao9, co9, eo9⟩ := Kd.R_slice HO312.out; subst eo9) | (go_at_call 25; (with_reducible refine (impl_WidthsFor.calls k t307 t308 t309 _ _ t310 t313 t315 _ ?side1 ?side2 A4.out).mono ?_); (case side1 => refine (Kd.R_reads' (e := 3) (base := w.heap.size) (ok := fun k_ => True) (n := t310.length) (c := co9) ?_).2.2; exact (by (with_reducible repeat (first | apply Kd.R_alloc | apply Kd.R_drewN | apply Kd.R_drew)); exact (Kd.R_mono (Kd.R_far (p := ⟨gb314, 2, none⟩) (Kd.R_far (p := ⟨gb314, 1, none⟩) (Kd.R_far (p := ⟨gb314, 0, none⟩) (Kd.R_types HO312.out BK314.out (by decide)) (fun _ hk => hk.2) (.int .i64 t307)) (fun _ hk => hk.2) (.int .i64 t308)) (fun _ hk => hk.2) (.int .i64 t309)) (fun _ h_ => h_.1)))); (case side2 => exact (Kd.R_reads' HO312.out).2.1); rintro e w10 ⟨v316, rfl, ho0, hb⟩; have n0_ := Aside0.mk (Kd.R_elder' (by (with_reducible repeat (first | apply Kd.R_alloc | apply Kd.R_drewN | apply Kd.R_drew)); exact (Kd.R_mono (Kd.R_far (p := ⟨gb314, 2, none⟩) (Kd.R_far (p := ⟨gb314, 1, none⟩) (Kd.R_far (p := ⟨gb314, 0, none⟩) (Kd.R_types HO312.out BK314.out (by decide)) (fun _ hk => hk.2) (.int .i64 t307)) (fun _ hk => hk.2) (.int .i64 t308)) (fun _ hk => hk.2) (.int .i64 t309)) (fun _ h_ => h_.1))) (Kd.R_base ho0) hb); have n1_ := Aside0.mk (Kd.R_lower (Kd.R_new' ho0 (Kd.R_lt (by (with_reducible repeat (first | apply Kd.R_alloc | apply Kd.R_drewN | apply Kd.R_drew)); exact (Kd.R_mono (Kd.R_far (p := ⟨gb314, 2, none⟩) (Kd.R_far (p := ⟨gb314, 1, none⟩) (Kd.R_far (p := ⟨gb314, 0, none⟩) (Kd.R_types HO312.out BK314.out (by decide)) (fun _ hk => hk.2) (.int .i64 t307)) (fun _ hk => hk.2) (.int .i64 t308)) (fun _ hk => hk.2) (.int .i64 t309)) (fun _ h_ => h_.1))))) (below_size zp3)); have n2_ := Aside0.mk (blk_below (g := gb314) (o := .cells #[.int .i64 t307, .int .i64 t308, .int .i64 t309] 27 (0, 0)) zp27 hb); have n3_ := Aside0.mk (below_step zp3 hb); clear HO312; clear BK314; clear HB; have HO312 := n0_; have HO317 := n1_; have BK314 := n2_; have HB := n3_; clear n0_ n1_ n2_ n3_; (try clear hb); (try clear hb2); (try clear hk); (try clear hi); (try clear ho0))); go_upto_region 5 with (first | (go_at_call 24; (with_reducible refine (spec_DrawWidthsFor.calls k _ _ l0 t307 t308 t309 t310 t313 _ ?side1 ?side2 A3.out).mono ?_); (case side1 => repeat (first | exact HR0.out | (with_reducible refine Kd.C_alloc ?_ _) | (with_reducible refine Kd.C_drewN ?_ _) | (with_reducible refine Kd.C_drew ?_))); (case side2 => exact HC0.out); rintro e w6 ⟨v311, rfl, ho0, hb⟩; have n0_ := Aside0.mk (Kd.R_lower ho0 (below_size zp0)); have n1_ := Aside0.mk (below_step zp0 hb); clear HB; have HO312 := n0_; have HB := n1_; clear n0_ n1_; (try clear hb); (try clear hb2); (try clear hk); (try clear hi); (try clear ho0)) | ((with_reducible refine gate_dst (N := 3) rfl ?_); refine box_event ?hg (N := 3) ?hd (cs := #[.int .i64 0, .int .i64 0, .int .i64 0]) (t := 27) ?hr ?_; (case hd => rfl); (case hg => rfl); (case hr => first | (go_simp; done) | (go_simp; rfl)); intro gb314 hg w7 hbox hb; have n0_ := Aside0.mk (Kd.R_below zp22 hb); have n1_ := Aside0.mk (below_step zp0 hb); have n2_ := Aside0.mk (hbox); have n3_ := Aside0.mk ((zp13 : w.heap.size ≤ gb314)); have n4_ := Aside0.mk ((zp13 : w.heap.size ≤ gb314)); clear HO312; clear HB; have HO312 := n0_; have HB := n1_; have BK314 := n2_; have GW314 := n3_; have GE314 := n4_; clear n0_ n1_ n2_ n3_ n4_; clear hb hbox hg; have hcz8_0 : w7.cell? ⟨gb314, 0, none⟩ = some (.int .i64 0) := (blk_cell BK314.out 0).trans rfl; have hcz8_1 : w7.cell? ⟨gb314, 1, none⟩ = some (.int .i64 0) := (blk_cell BK314.out 1).trans rfl; have hcz8_2 : w7.cell? ⟨gb314, 2, none⟩ = some (.int .i64 0) := (blk_cell BK314.out 2).trans rfl; have hfz8_0 := blk_frozen BK314.out 0; have hfz8_1 := blk_frozen BK314.out 1; have hfz8_2 := blk_frozen BK314.out 2; obtain ⟨Ao9, co9, eo9⟩ := Kd.R_slice HO312.out; subst eo9) | (go_at_call 25; (with_reducible refine (impl_WidthsFor.calls k t307 t308 t309 _ _ t310 t313 t315 _ ?side1 ?side2 A4.out).mono ?_); (case side1 => refine (Kd.R_reads' (e := 3) (base := w.heap.size) (ok := fun k_ => True) (n := t310.length) (c := co9) ?_).2.2; exact (by (with_reducible repeat (first | apply Kd.R_alloc | apply Kd.R_drewN | apply Kd.R_drew)); exact (Kd.R_mono (Kd.R_far (p := ⟨gb314, 2, none⟩) (Kd.R_far (p := ⟨gb314, 1, none⟩) (Kd.R_far (p := ⟨gb314, 0, none⟩) (Kd.R_types HO312.out BK314.out (by decide)) (fun _ hk => hk.2) (.int .i64 t307)) (fun _ hk => hk.2) (.int .i64 t308)) (fun _ hk => hk.2) (.int .i64 t309)) (fun _ h_ => h_.1)))); (case side2 => exact (Kd.R_reads' HO312.out).2.1); rintro e w10 ⟨v316, rfl, ho0, hb⟩; have n0_ := Aside0.mk (Kd.R_elder' (by (with_reducible repeat (first | apply Kd.R_alloc | apply Kd.R_drewN | apply Kd.R_drew)); exact (Kd.R_mono (Kd.R_far (p := ⟨gb314, 2, none⟩) (Kd.R_far (p := ⟨gb314, 1, none⟩) (Kd.R_far (p := ⟨gb314, 0, none⟩) (Kd.R_types HO312.out BK314.out (by decide)) (fun _ hk => hk.2) (.int .i64 t307)) (fun _ hk => hk.2) (.int .i64 t308)) (fun _ hk => hk.2) (.int .i64 t309)) (fun _ h_ => h_.1))) (Kd.R_base ho0) hb); have n1_ := Aside0.mk (Kd.R_lower (Kd.R_new' ho0 (Kd.R_lt (by (with_reducible repeat (first | apply Kd.R_alloc | apply Kd.R_drewN | apply Kd.R_drew)); exact (Kd.R_mono (Kd.R_far (p := ⟨gb314, 2, none⟩) (Kd.R_far (p := ⟨gb314, 1, none⟩) (Kd.R_far (p := ⟨gb314, 0, none⟩) (Kd.R_types HO312.out BK314.out (by decide)) (fun _ hk => hk.2) (.int .i64 t307)) (fun _ hk => hk.2) (.int .i64 t308)) (fun _ hk => hk.2) (.int .i64 t309)) (fun _ h_ => h_.1))))) (below_size zp3)); have n2_ := Aside0.mk (blk_below (g := gb314) (o := .cells #[.int .i64 t307, .int .i64 t308, .int .i64 t309] 27 (0, 0)) zp27 hb); have n3_ := Aside0.mk (below_step zp3 hb); clear HO312; clear BK314; clear HB; have HO312 := n0_; have HO317 := n1_; have BK314 := n2_; have HB := n3_; clear n0_ n1_ n2_ n3_; (try clear hb); (try clear hb2); (try clear hk); (try clear hi); (try clear ho0))))
  (try simp only [Act.put, List.setIfInBounds_toArray, List.set_cons_zero, List.set_cons_succ])
  go_cut [38] (fun v38 wc => ∃ (kq : Nat) (x38_4 : Bool), v38 = .bool x38_4 ∧ Aside0 (laws_FnWidths.j0 kq t310 t313 t315 x38_4 t307 t308 t309 = some r) ∧ Aside0 (kq ≤ k) ∧ Aside0 (Kd.R (Kd.int .i64) 3 wc w.heap.size (fun k_ => some k_ ≠ (v316 : Value).ownBlock) (.slice Ao9 t310.length co9) t310) ∧ Aside0 (Kd.R (Kd.int .i64) 3 wc w.heap.size (fun k_ => some k_ ≠ ((.slice Ao9 t310.length co9) : Value).ownBlock) v316 t315) ∧ Aside0 (wc.heap[gb314]? = some (.cells #[.int .i64 t307, .int .i64 t308, .int .i64 t309] 27 (0, 0))) ∧ Aside0 (Below w.heap.size w wc))
  case first =>
   have H := HC5.out
   clear HC5
   replace H := Option.bind_eq_some_iff.mp H
   obtain ⟨t318, A110, H⟩ := H
   replace H : (if t318 = true then ((spec_TextOk.f k t310).bind fun t319 => (if t319 = true then (if t313 < 0 then (laws_FnWidths.j0 k t310 t313 t315 true t307 t308 t309) else (laws_FnWidths.j0 k t310 t313 t315 (decide (t313 > 300)) t307 t308 t309)) else (laws_FnWidths.j0 k t310 t313 t315 true t307 t308 t309))) else (laws_FnWidths.j0 k t310 t313 t315 true t307 t308 t309)) = some r := H
   have A11 := Aside0.mk A110
   clear A110
   by_cases c12 : t318 = true
   ·subst c12
    have H1 : ((spec_TextOk.f k t310).bind fun t319 => (if t319 = true then (if t313 < 0 then (laws_FnWidths.j0 k t310 t313 t315 true t307 t308 t309) else (laws_FnWidths.j0 k t310 t313 t315 (decide (t313 > 300)) t307 t308 t309)) else (laws_FnWidths.j0 k t310 t313 t315 true t307 t308 t309))) = some r := by rw [if_pos rfl] at H; exact H
    clear H
    have H := H1
    clear H1
    replace H := Option.bind_eq_some_iff.mp H
    obtain ⟨t319, A130, H⟩ := H
    replace H : (if t319 = true then (if t313 < 0 then (laws_FnWidths.j0 k t310 t313 t315 true t307 t308 t309) else (laws_FnWidths.j0 k t310 t313 t315 (decide (t313 > 300)) t307 t308 t309)) else (laws_FnWidths.j0 k t310 t313 t315 true t307 t308 t309)) = some r := H
    have A13 := Aside0.mk A130
    clear A130
    by_cases c14 : t319 = true
    ·subst c14
     have H1 : (if t313 < 0 then (laws_FnWidths.j0 k t310 t313 t315 true t307 t308 t309) else (laws_FnWidths.j0 k t310 t313 t315 (decide (t313 > 300)) t307 t308 t309)) = some r := by rw [if_pos rfl] at H; exact H
     clear H
     have H := H1
     clear H1
     by_cases c15 : t313 < 0
     ·rw [if_pos c15] at H
      have c15b0 : decide (t313 < 0) = true := decide_eq_true c15
      clear c15
      (first | rw [c15b0] | (simp only [i64_w, i32_w]; rw [c15b0]) | skip)
      have H' := Aside0.mk H
      clear H
      have hcz16_0 : w10.cell? ⟨gb314, 0, none⟩ = some (.int .i64 t307) := (blk_cell BK314.out 0).trans rfl
      have hcz16_1 : w10.cell? ⟨gb314, 1, none⟩ = some (.int .i64 t308) := (blk_cell BK314.out 1).trans rfl
      have hcz16_2 : w10.cell? ⟨gb314, 2, none⟩ = some (.int .i64 t309) := (blk_cell BK314.out 2).trans rfl
      have hfz16_0 := blk_frozen BK314.out 0
      have hfz16_1 := blk_frozen BK314.out 1
      have hfz16_2 := blk_frozen BK314.out 2
      go_wp2_with (first | (go_at_call 26; (with_reducible refine (spec_MeasureOk.calls t307 t308 t309 true _ A11.out).mono ?_); rintro e w17 ⟨rfl, hb⟩; have n0_ := Aside0.mk (Kd.R_below zp22 hb); have n1_ := Aside0.mk (Kd.R_below zp30 hb); have n2_ := Aside0.mk (blk_below (g := gb314) (o := .cells #[.int .i64 t307, .int .i64 t308, .int .i64 t309] 27 (0, 0)) zp7 hb); have n3_ := Aside0.mk (below_step zp3 hb); clear HO312; clear HO317; clear BK314; clear HB; have HO312 := n0_; have HO317 := n1_; have BK314 := n2_; have HB := n3_; clear n0_ n1_ n2_ n3_; (try clear hb); (try clear hb2); (try clear hk); (try clear hi)) | (go_at_call 27; (with_reducible refine (spec_TextOk.calls k _ _ t310 true _ ?side1 ?side2 A13.out).mono ?_); (case side1 => repeat (first | exact (Kd.R_reads' HO312.out).2.2 | (with_reducible refine Kd.C_alloc ?_ _) | (with_reducible refine Kd.C_drewN ?_ _) | (with_reducible refine Kd.C_drew ?_))); (case side2 => exact (Kd.R_reads' HO312.out).2.1); rintro e w' ⟨rfl, ⟨nd, rfl⟩⟩; (try first | exact ⟨rfl, _, World.drewN_drewN _ _ _⟩ | exact ⟨rfl, _, Eq.trans (World.drewN_drewN _ _ _) (congrArg (World.drewN _) (Nat.add_assoc _ _ _))⟩)))
      repeat (go_quiet (first | (go_at_call 26; (with_reducible refine (spec_MeasureOk.calls t307 t308 t309 true _ A11.out).mono ?_); rintro e w17 ⟨rfl, hb⟩; have n0_ := Aside0.mk (Kd.R_below zp22 hb); have n1_ := Aside0.mk (Kd.R_below zp30 hb); have n2_ := Aside0.mk (blk_below (g := gb314) (o := .cells #[.int .i64 t307, .int .i64 t308, .int .i64 t309] 27 (0, 0)) zp7 hb); have n3_ := Aside0.mk (below_step zp3 hb); clear HO312; clear HO317; clear BK314; clear HB; have HO312 := n0_; have HO317 := n1_; have BK314 := n2_; have HB := n3_; clear n0_ n1_ n2_ n3_; (try clear hb); (try clear hb2); (try clear hk); (try clear hi)) | (go_at_call 27; (with_reducible refine (spec_TextOk.calls k _ _ t310 true _ ?side1 ?side2 A13.out).mono ?_); (case side1 => repeat (first | exact (Kd.R_reads' HO312.out).2.2 | (with_reducible refine Kd.C_alloc ?_ _) | (with_reducible refine Kd.C_drewN ?_ _) | (with_reducible refine Kd.C_drew ?_))); (case side2 => exact (Kd.R_reads' HO312.out).2.1); rintro e w' ⟨rfl, ⟨nd, rfl⟩⟩; (try first | exact ⟨rfl, _, World.drewN_drewN _ _ _⟩ | exact ⟨rfl, _, Eq.trans (World.drewN_drewN _ _ _) (congrArg (World.drewN _) (Nat.add_assoc _ _ _))⟩))); try go_wp2_with (first | (go_at_call 26; (with_reducible refine (spec_MeasureOk.calls t307 t308 t309 true _ A11.out).mono ?_); rintro e w17 ⟨rfl, hb⟩; have n0_ := Aside0.mk (Kd.R_below zp22 hb); have n1_ := Aside0.mk (Kd.R_below zp30 hb); have n2_ := Aside0.mk (blk_below (g := gb314) (o := .cells #[.int .i64 t307, .int .i64 t308, .int .i64 t309] 27 (0, 0)) zp7 hb); have n3_ := Aside0.mk (below_step zp3 hb); clear HO312; clear HO317; clear BK314; clear HB; have HO312 := n0_; have HO317 := n1_; have BK314 := n2_; have HB := n3_; clear n0_ n1_ n2_ n3_; (try clear hb); (try clear hb2); (try clear hk); (try clear hi)) | (go_at_call 27; (with_reducible refine (spec_TextOk.calls k _ _ t310 true _ ?side1 ?side2 A13.out).mono ?_); (case side1 => repeat (first | exact (Kd.R_reads' HO312.out).2.2 | (with_reducible refine Kd.C_alloc ?_ _) | (with_reducible refine Kd.C_drewN ?_ _) | (with_reducible refine Kd.C_drew ?_))); (case side2 => exact (Kd.R_reads' HO312.out).2.1); rintro e w' ⟨rfl, ⟨nd, rfl⟩⟩; (try first | exact ⟨rfl, _, World.drewN_drewN _ _ _⟩ | exact ⟨rfl, _, Eq.trans (World.drewN_drewN _ _ _) (congrArg (World.drewN _) (Nat.add_assoc _ _ _))⟩))))
      go_meet
      case rel => exact ⟨_, (true), zp21, H', ⟨by first | omega | exact Nat.le_refl _⟩, ⟨by (with_reducible repeat (first | apply Kd.R_alloc | apply Kd.R_drewN | apply Kd.R_drew)); exact Kd.R_mono HO312.out (fun _ hk => hk.2)⟩, ⟨by (with_reducible repeat (first | apply Kd.R_alloc | apply Kd.R_drewN | apply Kd.R_drew)); exact Kd.R_mono HO317.out (fun _ hk => hk.2)⟩, ⟨by (with_reducible repeat (first | refine blk_drewN ?_ _ | refine blk_drew ?_ | refine blk_alloc ?_ _)); exact BK314.out⟩, ⟨by repeat (first | (with_reducible first | exact HB.out | apply below_alloc | apply pw_below_drewN | apply below_drew1 | refine below_set ?_ GE314.out) | exact HB.out)⟩⟩
     ·rw [if_neg c15] at H
      have c15b0 : decide (t313 < 0) = false := decide_eq_false c15
      clear c15
      (first | rw [c15b0] | (simp only [i64_w, i32_w]; rw [c15b0]) | skip)
      have H' := Aside0.mk H
      clear H
      have hcz18_0 : w10.cell? ⟨gb314, 0, none⟩ = some (.int .i64 t307) := (blk_cell BK314.out 0).trans rfl
      have hcz18_1 : w10.cell? ⟨gb314, 1, none⟩ = some (.int .i64 t308) := (blk_cell BK314.out 1).trans rfl
      have hcz18_2 : w10.cell? ⟨gb314, 2, none⟩ = some (.int .i64 t309) := (blk_cell BK314.out 2).trans rfl
      have hfz18_0 := blk_frozen BK314.out 0
      have hfz18_1 := blk_frozen BK314.out 1
      have hfz18_2 := blk_frozen BK314.out 2
      go_wp2_with (first | (go_at_call 26; (with_reducible refine (spec_MeasureOk.calls t307 t308 t309 true _ A11.out).mono ?_); rintro e w19 ⟨rfl, hb⟩; have n0_ := Aside0.mk (Kd.R_below zp22 hb); have n1_ := Aside0.mk (Kd.R_below zp30 hb); have n2_ := Aside0.mk (blk_below (g := gb314) (o := .cells #[.int .i64 t307, .int .i64 t308, .int .i64 t309] 27 (0, 0)) zp7 hb); have n3_ := Aside0.mk (below_step zp3 hb); clear HO312; clear HO317; clear BK314; clear HB; have HO312 := n0_; have HO317 := n1_; have BK314 := n2_; have HB := n3_; clear n0_ n1_ n2_ n3_; (try clear hb); (try clear hb2); (try clear hk); (try clear hi)) | (go_at_call 27; (with_reducible refine (spec_TextOk.calls k _ _ t310 true _ ?side1 ?side2 A13.out).mono ?_); (case side1 => repeat (first | exact (Kd.R_reads' HO312.out).2.2 | (with_reducible refine Kd.C_alloc ?_ _) | (with_reducible refine Kd.C_drewN ?_ _) | (with_reducible refine Kd.C_drew ?_))); (case side2 => exact (Kd.R_reads' HO312.out).2.1); rintro e w' ⟨rfl, ⟨nd, rfl⟩⟩; (try first | exact ⟨rfl, _, World.drewN_drewN _ _ _⟩ | exact ⟨rfl, _, Eq.trans (World.drewN_drewN _ _ _) (congrArg (World.drewN _) (Nat.add_assoc _ _ _))⟩)))
      repeat (go_quiet (first | (go_at_call 26; (with_reducible refine (spec_MeasureOk.calls t307 t308 t309 true _ A11.out).mono ?_); rintro e w19 ⟨rfl, hb⟩; have n0_ := Aside0.mk (Kd.R_below zp22 hb); have n1_ := Aside0.mk (Kd.R_below zp30 hb); have n2_ := Aside0.mk (blk_below (g := gb314) (o := .cells #[.int .i64 t307, .int .i64 t308, .int .i64 t309] 27 (0, 0)) zp7 hb); have n3_ := Aside0.mk (below_step zp3 hb); clear HO312; clear HO317; clear BK314; clear HB; have HO312 := n0_; have HO317 := n1_; have BK314 := n2_; have HB := n3_; clear n0_ n1_ n2_ n3_; (try clear hb); (try clear hb2); (try clear hk); (try clear hi)) | (go_at_call 27; (with_reducible refine (spec_TextOk.calls k _ _ t310 true _ ?side1 ?side2 A13.out).mono ?_); (case side1 => repeat (first | exact (Kd.R_reads' HO312.out).2.2 | (with_reducible refine Kd.C_alloc ?_ _) | (with_reducible refine Kd.C_drewN ?_ _) | (with_reducible refine Kd.C_drew ?_))); (case side2 => exact (Kd.R_reads' HO312.out).2.1); rintro e w' ⟨rfl, ⟨nd, rfl⟩⟩; (try first | exact ⟨rfl, _, World.drewN_drewN _ _ _⟩ | exact ⟨rfl, _, Eq.trans (World.drewN_drewN _ _ _) (congrArg (World.drewN _) (Nat.add_assoc _ _ _))⟩))); try go_wp2_with (first | (go_at_call 26; (with_reducible refine (spec_MeasureOk.calls t307 t308 t309 true _ A11.out).mono ?_); rintro e w19 ⟨rfl, hb⟩; have n0_ := Aside0.mk (Kd.R_below zp22 hb); have n1_ := Aside0.mk (Kd.R_below zp30 hb); have n2_ := Aside0.mk (blk_below (g := gb314) (o := .cells #[.int .i64 t307, .int .i64 t308, .int .i64 t309] 27 (0, 0)) zp7 hb); have n3_ := Aside0.mk (below_step zp3 hb); clear HO312; clear HO317; clear BK314; clear HB; have HO312 := n0_; have HO317 := n1_; have BK314 := n2_; have HB := n3_; clear n0_ n1_ n2_ n3_; (try clear hb); (try clear hb2); (try clear hk); (try clear hi)) | (go_at_call 27; (with_reducible refine (spec_TextOk.calls k _ _ t310 true _ ?side1 ?side2 A13.out).mono ?_); (case side1 => repeat (first | exact (Kd.R_reads' HO312.out).2.2 | (with_reducible refine Kd.C_alloc ?_ _) | (with_reducible refine Kd.C_drewN ?_ _) | (with_reducible refine Kd.C_drew ?_))); (case side2 => exact (Kd.R_reads' HO312.out).2.1); rintro e w' ⟨rfl, ⟨nd, rfl⟩⟩; (try first | exact ⟨rfl, _, World.drewN_drewN _ _ _⟩ | exact ⟨rfl, _, Eq.trans (World.drewN_drewN _ _ _) (congrArg (World.drewN _) (Nat.add_assoc _ _ _))⟩))))
      go_meet
      case rel => exact ⟨_, (decide (t313 > 300)), zp21, H', ⟨by first | omega | exact Nat.le_refl _⟩, ⟨by (with_reducible repeat (first | apply Kd.R_alloc | apply Kd.R_drewN | apply Kd.R_drew)); exact Kd.R_mono HO312.out (fun _ hk => hk.2)⟩, ⟨by (with_reducible repeat (first | apply Kd.R_alloc | apply Kd.R_drewN | apply Kd.R_drew)); exact Kd.R_mono HO317.out (fun _ hk => hk.2)⟩, ⟨by (with_reducible repeat (first | refine blk_drewN ?_ _ | refine blk_drew ?_ | refine blk_alloc ?_ _)); exact BK314.out⟩, ⟨by repeat (first | (with_reducible first | exact HB.out | apply below_alloc | apply pw_below_drewN | apply below_drew1 | refine below_set ?_ GE314.out) | exact HB.out)⟩⟩
    ·replace c14 := Bool.eq_false_iff.mpr c14
     subst c14
     have H1 : (laws_FnWidths.j0 k t310 t313 t315 true t307 t308 t309) = some r := by rw [if_neg (show ¬ (false = true) by decide)] at H; exact H
     clear H
     have H := H1
     clear H1
     have H' := Aside0.mk H
     clear H
     have hcz20_0 : w10.cell? ⟨gb314, 0, none⟩ = some (.int .i64 t307) := (blk_cell BK314.out 0).trans rfl
     have hcz20_1 : w10.cell? ⟨gb314, 1, none⟩ = some (.int .i64 t308) := (blk_cell BK314.out 1).trans rfl
     have hcz20_2 : w10.cell? ⟨gb314, 2, none⟩ = some (.int .i64 t309) := (blk_cell BK314.out 2).trans rfl
     have hfz20_0 := blk_frozen BK314.out 0
     have hfz20_1 := blk_frozen BK314.out 1
     have hfz20_2 := blk_frozen BK314.out 2
     go_wp2_with (first | (go_at_call 26; (with_reducible refine (spec_MeasureOk.calls t307 t308 t309 true _ A11.out).mono ?_); rintro e w21 ⟨rfl, hb⟩; have n0_ := Aside0.mk (Kd.R_below zp22 hb); have n1_ := Aside0.mk (Kd.R_below zp30 hb); have n2_ := Aside0.mk (blk_below (g := gb314) (o := .cells #[.int .i64 t307, .int .i64 t308, .int .i64 t309] 27 (0, 0)) zp7 hb); have n3_ := Aside0.mk (below_step zp3 hb); clear HO312; clear HO317; clear BK314; clear HB; have HO312 := n0_; have HO317 := n1_; have BK314 := n2_; have HB := n3_; clear n0_ n1_ n2_ n3_; (try clear hb); (try clear hb2); (try clear hk); (try clear hi)) | (go_at_call 27; (with_reducible refine (spec_TextOk.calls k _ _ t310 false _ ?side1 ?side2 A13.out).mono ?_); (case side1 => repeat (first | exact (Kd.R_reads' HO312.out).2.2 | (with_reducible refine Kd.C_alloc ?_ _) | (with_reducible refine Kd.C_drewN ?_ _) | (with_reducible refine Kd.C_drew ?_))); (case side2 => exact (Kd.R_reads' HO312.out).2.1); rintro e w' ⟨rfl, ⟨nd, rfl⟩⟩; (try first | exact ⟨rfl, _, World.drewN_drewN _ _ _⟩ | exact ⟨rfl, _, Eq.trans (World.drewN_drewN _ _ _) (congrArg (World.drewN _) (Nat.add_assoc _ _ _))⟩)))
     repeat (go_quiet (first | (go_at_call 26; (with_reducible refine (spec_MeasureOk.calls t307 t308 t309 true _ A11.out).mono ?_); rintro e w21 ⟨rfl, hb⟩; have n0_ := Aside0.mk (Kd.R_below zp22 hb); have n1_ := Aside0.mk (Kd.R_below zp30 hb); have n2_ := Aside0.mk (blk_below (g := gb314) (o := .cells #[.int .i64 t307, .int .i64 t308, .int .i64 t309] 27 (0, 0)) zp7 hb); have n3_ := Aside0.mk (below_step zp3 hb); clear HO312; clear HO317; clear BK314; clear HB; have HO312 := n0_; have HO317 := n1_; have BK314 := n2_; have HB := n3_; clear n0_ n1_ n2_ n3_; (try clear hb); (try clear hb2); (try clear hk); (try clear hi)) | (go_at_call 27; (with_reducible refine (spec_TextOk.calls k _ _ t310 false _ ?side1 ?side2 A13.out).mono ?_); (case side1 => repeat (first | exact (Kd.R_reads' HO312.out).2.2 | (with_reducible refine Kd.C_alloc ?_ _) | (with_reducible refine Kd.C_drewN ?_ _) | (with_reducible refine Kd.C_drew ?_))); (case side2 => exact (Kd.R_reads' HO312.out).2.1); rintro e w' ⟨rfl, ⟨nd, rfl⟩⟩; (try first | exact ⟨rfl, _, World.drewN_drewN _ _ _⟩ | exact ⟨rfl, _, Eq.trans (World.drewN_drewN _ _ _) (congrArg (World.drewN _) (Nat.add_assoc _ _ _))⟩))); try go_wp2_with (first | (go_at_call 26; (with_reducible refine (spec_MeasureOk.calls t307 t308 t309 true _ A11.out).mono ?_); rintro e w21 ⟨rfl, hb⟩; have n0_ := Aside0.mk (Kd.R_below zp22 hb); have n1_ := Aside0.mk (Kd.R_below zp30 hb); have n2_ := Aside0.mk (blk_below (g := gb314) (o := .cells #[.int .i64 t307, .int .i64 t308, .int .i64 t309] 27 (0, 0)) zp7 hb); have n3_ := Aside0.mk (below_step zp3 hb); clear HO312; clear HO317; clear BK314; clear HB; have HO312 := n0_; have HO317 := n1_; have BK314 := n2_; have HB := n3_; clear n0_ n1_ n2_ n3_; (try clear hb); (try clear hb2); (try clear hk); (try clear hi)) | (go_at_call 27; (with_reducible refine (spec_TextOk.calls k _ _ t310 false _ ?side1 ?side2 A13.out).mono ?_); (case side1 => repeat (first | exact (Kd.R_reads' HO312.out).2.2 | (with_reducible refine Kd.C_alloc ?_ _) | (with_reducible refine Kd.C_drewN ?_ _) | (with_reducible refine Kd.C_drew ?_))); (case side2 => exact (Kd.R_reads' HO312.out).2.1); rintro e w' ⟨rfl, ⟨nd, rfl⟩⟩; (try first | exact ⟨rfl, _, World.drewN_drewN _ _ _⟩ | exact ⟨rfl, _, Eq.trans (World.drewN_drewN _ _ _) (congrArg (World.drewN _) (Nat.add_assoc _ _ _))⟩))))
     go_meet
     case rel => exact ⟨_, (true), zp21, H', ⟨by first | omega | exact Nat.le_refl _⟩, ⟨by (with_reducible repeat (first | apply Kd.R_alloc | apply Kd.R_drewN | apply Kd.R_drew)); exact Kd.R_mono HO312.out (fun _ hk => hk.2)⟩, ⟨by (with_reducible repeat (first | apply Kd.R_alloc | apply Kd.R_drewN | apply Kd.R_drew)); exact Kd.R_mono HO317.out (fun _ hk => hk.2)⟩, ⟨by (with_reducible repeat (first | refine blk_drewN ?_ _ | refine blk_drew ?_ | refine blk_alloc ?_ _)); exact BK314.out⟩, ⟨by repeat (first | (with_reducible first | exact HB.out | apply below_alloc | apply pw_below_drewN | apply below_drew1 | refine below_set ?_ GE314.out) | exact HB.out)⟩⟩
   ·replace c12 := Bool.eq_false_iff.mpr c12
    subst c12
    have H1 : (laws_FnWidths.j0 k t310 t313 t315 true t307 t308 t309) = some r := by rw [if_neg (show ¬ (false = true) by decide)] at H; exact H
    clear H
    have H := H1
    clear H1
    have H' := Aside0.mk H
    clear H
    have hcz22_0 : w10.cell? ⟨gb314, 0, none⟩ = some (.int .i64 t307) := (blk_cell BK314.out 0).trans rfl
    have hcz22_1 : w10.cell? ⟨gb314, 1, none⟩ = some (.int .i64 t308) := (blk_cell BK314.out 1).trans rfl
    have hcz22_2 : w10.cell? ⟨gb314, 2, none⟩ = some (.int .i64 t309) := (blk_cell BK314.out 2).trans rfl
    have hfz22_0 := blk_frozen BK314.out 0
    have hfz22_1 := blk_frozen BK314.out 1
    have hfz22_2 := blk_frozen BK314.out 2
    go_wp2_with (first | (go_at_call 26; (with_reducible refine (spec_MeasureOk.calls t307 t308 t309 false _ A11.out).mono ?_); rintro e w23 ⟨rfl, hb⟩; have n0_ := Aside0.mk (Kd.R_below zp22 hb); have n1_ := Aside0.mk (Kd.R_below zp30 hb); have n2_ := Aside0.mk (blk_below (g := gb314) (o := .cells #[.int .i64 t307, .int .i64 t308, .int .i64 t309] 27 (0, 0)) zp7 hb); have n3_ := Aside0.mk (below_step zp3 hb); clear HO312; clear HO317; clear BK314; clear HB; have HO312 := n0_; have HO317 := n1_; have BK314 := n2_; have HB := n3_; clear n0_ n1_ n2_ n3_; (try clear hb); (try clear hb2); (try clear hk); (try clear hi)))
    repeat (go_quiet (first | (go_at_call 26; (with_reducible refine (spec_MeasureOk.calls t307 t308 t309 false _ A11.out).mono ?_); rintro e w23 ⟨rfl, hb⟩; have n0_ := Aside0.mk (Kd.R_below zp22 hb); have n1_ := Aside0.mk (Kd.R_below zp30 hb); have n2_ := Aside0.mk (blk_below (g := gb314) (o := .cells #[.int .i64 t307, .int .i64 t308, .int .i64 t309] 27 (0, 0)) zp7 hb); have n3_ := Aside0.mk (below_step zp3 hb); clear HO312; clear HO317; clear BK314; clear HB; have HO312 := n0_; have HO317 := n1_; have BK314 := n2_; have HB := n3_; clear n0_ n1_ n2_ n3_; (try clear hb); (try clear hb2); (try clear hk); (try clear hi))); try go_wp2_with (first | (go_at_call 26; (with_reducible refine (spec_MeasureOk.calls t307 t308 t309 false _ A11.out).mono ?_); rintro e w23 ⟨rfl, hb⟩; have n0_ := Aside0.mk (Kd.R_below zp22 hb); have n1_ := Aside0.mk (Kd.R_below zp30 hb); have n2_ := Aside0.mk (blk_below (g := gb314) (o := .cells #[.int .i64 t307, .int .i64 t308, .int .i64 t309] 27 (0, 0)) zp7 hb); have n3_ := Aside0.mk (below_step zp3 hb); clear HO312; clear HO317; clear BK314; clear HB; have HO312 := n0_; have HO317 := n1_; have BK314 := n2_; have HB := n3_; clear n0_ n1_ n2_ n3_; (try clear hb); (try clear hb2); (try clear hk); (try clear hi))))
    go_meet
    case rel => exact ⟨_, (true), zp21, H', ⟨by first | omega | exact Nat.le_refl _⟩, ⟨by (with_reducible repeat (first | apply Kd.R_alloc | apply Kd.R_drewN | apply Kd.R_drew)); exact Kd.R_mono HO312.out (fun _ hk => hk.2)⟩, ⟨by (with_reducible repeat (first | apply Kd.R_alloc | apply Kd.R_drewN | apply Kd.R_drew)); exact Kd.R_mono HO317.out (fun _ hk => hk.2)⟩, ⟨by (with_reducible repeat (first | refine blk_drewN ?_ _ | refine blk_drew ?_ | refine blk_alloc ?_ _)); exact BK314.out⟩, ⟨by repeat (first | (with_reducible first | exact HB.out | apply below_alloc | apply pw_below_drewN | apply below_drew1 | refine below_set ?_ GE314.out) | exact HB.out)⟩⟩
  case rest =>
   clear HC5
   try clear c1
   try clear c2
   try clear c2b0
   try clear c2b1
   try clear p2
   try clear c5
   try clear c12
   try clear c14
   try clear c15
   try clear c15b0
   try clear hcz16_0
   try clear hcz16_1
   try clear hcz16_2
   try clear hcz18_0
   try clear hcz18_1
   try clear hcz18_2
   try clear hcz20_0
   try clear hcz20_1
   try clear hcz20_2
   try clear hcz22_0
   try clear hcz22_1
   try clear hcz22_2
   try clear hcz8_0
   try clear hcz8_1
   try clear hcz8_2
   try clear hfz16_0
   try clear hfz16_1
   try clear hfz16_2
   try clear hfz18_0
   try clear hfz18_1
   try clear hfz18_2
   try clear hfz20_0
   try clear hfz20_1
   try clear hfz20_2
   try clear hfz22_0
   try clear hfz22_1
   try clear hfz22_2
   try clear hfz8_0
   try clear hfz8_1
   try clear hfz8_2
   obtain ⟨kq, x38_4, rfl, HA, HJ4, HO_4, HO_6, BK314, HB⟩ := hcut
   cases kq with
   | zero => exact absurd HA.out (by simp [laws_FnWidths.j0])
   | succ kj4 =>
    have H := HA.out
    clear HA
    simp only [laws_FnWidths.j0] at H
    by_cases c24 : x38_4 = true
    ·subst c24
     have H1 : (some ((t315.length : Int) == 0)) = some r := by rw [if_pos rfl] at H; exact H
     clear H
     have H := H1
     clear H1
     obtain rfl := Option.some.inj H
     obtain ⟨Ao25, co25, eo25⟩ := Kd.R_slice HO_6.out
     subst eo25
     go_wp2
     repeat (go_quiet (fail); try go_wp2)
     go_ret
     exact ⟨by first | rfl | (simp [errW_none, errW_some] <;> rfl) | (simp [*, errW_none, errW_some] <;> rfl), by repeat (first | (with_reducible first | exact HB.out | apply below_alloc | apply pw_below_drewN | apply below_drew1 | refine below_set ?_ GE314.out) | exact HB.out)⟩
    ·replace c24 := Bool.eq_false_iff.mpr c24
     subst c24
     have H1 : ((laws_total.f kj4 t310).bind fun t320 => (laws_FnWidths.l0 kj4 t310 t313 t315 (wrap64 ((wrap64 ((wrap64 ((t310.length : Int) - 1)) * t308)) + t320)) 0 1 t307 t308 t309)) = some r := by rw [if_neg (show ¬ (false = true) by decide)] at H; exact H
     clear H
     have H := H1
     clear H1
     replace H := Option.bind_eq_some_iff.mp H
     obtain ⟨t320, A260, H⟩ := H
     replace H : (laws_FnWidths.l0 kj4 t310 t313 t315 (wrap64 ((wrap64 ((wrap64 ((t310.length : Int) - 1)) * t308)) + t320)) 0 1 t307 t308 t309) = some r := H
     have A26 := Aside0.mk A260
     clear A260
     have H' := Aside0.mk H
     clear H
     have hcz27_0 : wc.cell? ⟨gb314, 0, none⟩ = some (.int .i64 t307) := (blk_cell BK314.out 0).trans rfl
     have hcz27_1 : wc.cell? ⟨gb314, 1, none⟩ = some (.int .i64 t308) := (blk_cell BK314.out 1).trans rfl
     have hcz27_2 : wc.cell? ⟨gb314, 2, none⟩ = some (.int .i64 t309) := (blk_cell BK314.out 2).trans rfl
     have hfz27_0 := blk_frozen BK314.out 0
     have hfz27_1 := blk_frozen BK314.out 1
     have hfz27_2 := blk_frozen BK314.out 2
     go_wp2_with (first | (go_at_call 28; (with_reducible refine (laws_total.calls kj4 _ _ t310 t320 _ ?side1 ?side2 A26.out).mono ?_); (case side1 => repeat (first | exact (Kd.R_reads' HO_4.out).2.2 | (with_reducible refine Kd.C_alloc ?_ _) | (with_reducible refine Kd.C_drewN ?_ _) | (with_reducible refine Kd.C_drew ?_))); (case side2 => exact (Kd.R_reads' HO_4.out).2.1); rintro e w' ⟨rfl, ⟨nd, rfl⟩⟩; (try first | exact ⟨rfl, _, World.drewN_drewN _ _ _⟩ | exact ⟨rfl, _, Eq.trans (World.drewN_drewN _ _ _) (congrArg (World.drewN _) (Nat.add_assoc _ _ _))⟩)))
     repeat (go_quiet (first | (go_at_call 28; (with_reducible refine (laws_total.calls kj4 _ _ t310 t320 _ ?side1 ?side2 A26.out).mono ?_); (case side1 => repeat (first | exact (Kd.R_reads' HO_4.out).2.2 | (with_reducible refine Kd.C_alloc ?_ _) | (with_reducible refine Kd.C_drewN ?_ _) | (with_reducible refine Kd.C_drew ?_))); (case side2 => exact (Kd.R_reads' HO_4.out).2.1); rintro e w' ⟨rfl, ⟨nd, rfl⟩⟩; (try first | exact ⟨rfl, _, World.drewN_drewN _ _ _⟩ | exact ⟨rfl, _, Eq.trans (World.drewN_drewN _ _ _) (congrArg (World.drewN _) (Nat.add_assoc _ _ _))⟩))); try go_wp2_with (first | (go_at_call 28; (with_reducible refine (laws_total.calls kj4 _ _ t310 t320 _ ?side1 ?side2 A26.out).mono ?_); (case side1 => repeat (first | exact (Kd.R_reads' HO_4.out).2.2 | (with_reducible refine Kd.C_alloc ?_ _) | (with_reducible refine Kd.C_drewN ?_ _) | (with_reducible refine Kd.C_drew ?_))); (case side2 => exact (Kd.R_reads' HO_4.out).2.1); rintro e w' ⟨rfl, ⟨nd, rfl⟩⟩; (try first | exact ⟨rfl, _, World.drewN_drewN _ _ _⟩ | exact ⟨rfl, _, Eq.trans (World.drewN_drewN _ _ _) (congrArg (World.drewN _) (Nat.add_assoc _ _ _))⟩))))
     go_loopg [8, 9] kj4 (fun kq v8 v9 w' => ∃ (x8_2 : Int) (x9_2 : Int), v8 = .int .i64 x8_2 ∧ v9 = .int .i64 x9_2 ∧ Aside0 (laws_FnWidths.l0 kq t310 t313 t315 (wrap64 ((wrap64 ((wrap64 ((t310.length : Int) - 1)) * t308)) + t320)) x8_2 x9_2 t307 t308 t309 = some r) ∧ Aside0 (kq ≤ kj4) ∧ Aside0 (Kd.R (Kd.int .i64) 3 w' w.heap.size (fun k_ => some k_ ≠ (v316 : Value).ownBlock) (.slice Ao9 t310.length co9) t310) ∧ Aside0 (Kd.R (Kd.int .i64) 3 w' w.heap.size (fun k_ => some k_ ≠ ((.slice Ao9 t310.length co9) : Value).ownBlock) v316 t315) ∧ Aside0 (w'.heap[gb314]? = some (.cells #[.int .i64 t307, .int .i64 t308, .int .i64 t309] 27 (0, 0))) ∧ Aside0 (Below w.heap.size w w'))
     case atStart => exact ⟨(0), (1), zp21, zp21, H', ⟨Nat.le_refl _⟩, ⟨by (with_reducible repeat (first | apply Kd.R_alloc | apply Kd.R_drewN | apply Kd.R_drew)); exact HO_4.out⟩, ⟨by (with_reducible repeat (first | apply Kd.R_alloc | apply Kd.R_drewN | apply Kd.R_drew)); exact HO_6.out⟩, ⟨by (with_reducible repeat (first | refine blk_drewN ?_ _ | refine blk_drew ?_ | refine blk_alloc ?_ _)); exact BK314.out⟩, ⟨by repeat (first | (with_reducible first | exact HB.out | apply below_alloc | apply pw_below_drewN | apply below_drew1 | refine below_set ?_ GE314.out) | exact HB.out)⟩⟩
     case round =>
      clear H'
      try clear c1
      try clear c2
      try clear c2b0
      try clear c2b1
      try clear p2
      try clear c5
      try clear p6
      try clear c12
      try clear c14
      try clear c15
      try clear c15b0
      try clear c24
      try clear hcz16_0
      try clear hcz16_1
      try clear hcz16_2
      try clear hcz18_0
      try clear hcz18_1
      try clear hcz18_2
      try clear hcz20_0
      try clear hcz20_1
      try clear hcz20_2
      try clear hcz22_0
      try clear hcz22_1
      try clear hcz22_2
      try clear hcz27_0
      try clear hcz27_1
      try clear hcz27_2
      try clear hcz8_0
      try clear hcz8_1
      try clear hcz8_2
      try clear hfz16_0
      try clear hfz16_1
      try clear hfz16_2
      try clear hfz18_0
      try clear hfz18_1
      try clear hfz18_2
      try clear hfz20_0
      try clear hfz20_1
      try clear hfz20_2
      try clear hfz22_0
      try clear hfz22_1
      try clear hfz22_2
      try clear hfz27_0
      try clear hfz27_1
      try clear hfz27_2
      try clear hfz8_0
      try clear hfz8_1
      try clear hfz8_2
      try clear p2
      obtain ⟨x8_2, x9_2, rfl, rfl, HA, HK2, HO_4, HO_6, BK314, HB⟩ := hrel
      cases gk with
      | zero => exact absurd HA.out (by simp [laws_FnWidths.l0])
      | succ k2 =>
       have H := HA.out
       clear HA
       simp only [laws_FnWidths.l0] at H
       by_cases c28 : x9_2 ≤ t313
       ·rw [if_pos c28] at H
        have c28b0 : decide (x9_2 ≤ t313) = true := decide_eq_true c28
        clear c28
        replace H := Option.bind_eq_some_iff.mp H
        obtain ⟨t321, A290, H⟩ := H
        replace H : (if t321 < 1 then (if x9_2 ≥ (wrap64 ((wrap64 ((wrap64 ((t310.length : Int) - 1)) * t308)) + t320)) then (some false) else (laws_FnWidths.l0 k2 t310 t313 t315 (wrap64 ((wrap64 ((wrap64 ((t310.length : Int) - 1)) * t308)) + t320)) x8_2 (wrap64 (x9_2 + 1)) t307 t308 t309)) else (if x8_2 ≥ (t315.length : Int) then (some false) else (if 0 ≤ x8_2 then (if x8_2 < (t315.length : Int) then (if (rd t315 x8_2) = x9_2 then (laws_FnWidths.l0 k2 t310 t313 t315 (wrap64 ((wrap64 ((wrap64 ((t310.length : Int) - 1)) * t308)) + t320)) (wrap64 (x8_2 + 1)) (wrap64 (x9_2 + 1)) t307 t308 t309) else (some false)) else (none)) else (none)))) = some r := H
        have A29 := Aside0.mk A290
        clear A290
        by_cases c30 : t321 < 1
        ·rw [if_pos c30] at H
         have c30b0 : decide (t321 < 1) = true := decide_eq_true c30
         clear c30
         by_cases c31 : x9_2 ≥ (wrap64 ((wrap64 ((wrap64 ((t310.length : Int) - 1)) * t308)) + t320))
         ·rw [if_pos c31] at H
          have c31b0 : decide ((wrap64 ((wrap64 ((wrap64 ((t310.length : Int) - 1)) * t308)) + t320)) ≤ x9_2) = true := decide_eq_true c31
          clear c31
          obtain rfl := Option.some.inj H
          have hcz32_0 : wr.cell? ⟨gb314, 0, none⟩ = some (.int .i64 t307) := (blk_cell BK314.out 0).trans rfl
          have hcz32_1 : wr.cell? ⟨gb314, 1, none⟩ = some (.int .i64 t308) := (blk_cell BK314.out 1).trans rfl
          have hcz32_2 : wr.cell? ⟨gb314, 2, none⟩ = some (.int .i64 t309) := (blk_cell BK314.out 2).trans rfl
          have hfz32_0 := blk_frozen BK314.out 0
          have hfz32_1 := blk_frozen BK314.out 1
          have hfz32_2 := blk_frozen BK314.out 2
          go_wp2_with (first | (go_at_call 29; (with_reducible refine (impl_CountBreakings.calls k2 x9_2 t308 t309 _ _ t310 t321 _ ?side1 ?side2 A29.out).mono ?_); (case side1 => repeat (first | exact (Kd.R_reads' HO_4.out).2.2 | (with_reducible refine Kd.C_alloc ?_ _) | (with_reducible refine Kd.C_drewN ?_ _) | (with_reducible refine Kd.C_drew ?_))); (case side2 => exact (Kd.R_reads' HO_4.out).2.1); rintro e w33 ⟨rfl, hb⟩; have n0_ := Aside0.mk (Kd.R_below zp25 hb); have n1_ := Aside0.mk (Kd.R_below zp24 hb); have n2_ := Aside0.mk (blk_below (g := gb314) (o := .cells #[.int .i64 t307, .int .i64 t308, .int .i64 t309] 27 (0, 0)) zp7 hb); have n3_ := Aside0.mk (below_step zp3 hb); clear HO_4; clear HO_6; clear BK314; clear HB; have HO_4 := n0_; have HO_6 := n1_; have BK314 := n2_; have HB := n3_; clear n0_ n1_ n2_ n3_; (try clear hb); (try clear hb2); (try clear hk); (try clear hi)))
          repeat (go_quiet (first | (go_at_call 29; (with_reducible refine (impl_CountBreakings.calls k2 x9_2 t308 t309 _ _ t310 t321 _ ?side1 ?side2 A29.out).mono ?_); (case side1 => repeat (first | exact (Kd.R_reads' HO_4.out).2.2 | (with_reducible refine Kd.C_alloc ?_ _) | (with_reducible refine Kd.C_drewN ?_ _) | (with_reducible refine Kd.C_drew ?_))); (case side2 => exact (Kd.R_reads' HO_4.out).2.1); rintro e w33 ⟨rfl, hb⟩; have n0_ := Aside0.mk (Kd.R_below zp25 hb); have n1_ := Aside0.mk (Kd.R_below zp24 hb); have n2_ := Aside0.mk (blk_below (g := gb314) (o := .cells #[.int .i64 t307, .int .i64 t308, .int .i64 t309] 27 (0, 0)) zp7 hb); have n3_ := Aside0.mk (below_step zp3 hb); clear HO_4; clear HO_6; clear BK314; clear HB; have HO_4 := n0_; have HO_6 := n1_; have BK314 := n2_; have HB := n3_; clear n0_ n1_ n2_ n3_; (try clear hb); (try clear hb2); (try clear hk); (try clear hi))); try go_wp2_with (first | (go_at_call 29; (with_reducible refine (impl_CountBreakings.calls k2 x9_2 t308 t309 _ _ t310 t321 _ ?side1 ?side2 A29.out).mono ?_); (case side1 => repeat (first | exact (Kd.R_reads' HO_4.out).2.2 | (with_reducible refine Kd.C_alloc ?_ _) | (with_reducible refine Kd.C_drewN ?_ _) | (with_reducible refine Kd.C_drew ?_))); (case side2 => exact (Kd.R_reads' HO_4.out).2.1); rintro e w33 ⟨rfl, hb⟩; have n0_ := Aside0.mk (Kd.R_below zp25 hb); have n1_ := Aside0.mk (Kd.R_below zp24 hb); have n2_ := Aside0.mk (blk_below (g := gb314) (o := .cells #[.int .i64 t307, .int .i64 t308, .int .i64 t309] 27 (0, 0)) zp7 hb); have n3_ := Aside0.mk (below_step zp3 hb); clear HO_4; clear HO_6; clear BK314; clear HB; have HO_4 := n0_; have HO_6 := n1_; have BK314 := n2_; have HB := n3_; clear n0_ n1_ n2_ n3_; (try clear hb); (try clear hb2); (try clear hk); (try clear hi))))
          go_ret
          exact ⟨by first | rfl | (simp [errW_none, errW_some] <;> rfl) | (simp [*, errW_none, errW_some] <;> rfl), by repeat (first | (with_reducible first | exact HB.out | apply below_alloc | apply pw_below_drewN | apply below_drew1 | refine below_set ?_ GE314.out) | exact HB.out)⟩
         ·rw [if_neg c31] at H
          have c31b0 : decide ((wrap64 ((wrap64 ((wrap64 ((t310.length : Int) - 1)) * t308)) + t320)) ≤ x9_2) = false := decide_eq_false c31
          clear c31
          have H' := Aside0.mk H
          clear H
          have hcz34_0 : wr.cell? ⟨gb314, 0, none⟩ = some (.int .i64 t307) := (blk_cell BK314.out 0).trans rfl
          have hcz34_1 : wr.cell? ⟨gb314, 1, none⟩ = some (.int .i64 t308) := (blk_cell BK314.out 1).trans rfl
          have hcz34_2 : wr.cell? ⟨gb314, 2, none⟩ = some (.int .i64 t309) := (blk_cell BK314.out 2).trans rfl
          have hfz34_0 := blk_frozen BK314.out 0
          have hfz34_1 := blk_frozen BK314.out 1
          have hfz34_2 := blk_frozen BK314.out 2
          go_wp2_with (first | (go_at_call 29; (with_reducible refine (impl_CountBreakings.calls k2 x9_2 t308 t309 _ _ t310 t321 _ ?side1 ?side2 A29.out).mono ?_); (case side1 => repeat (first | exact (Kd.R_reads' HO_4.out).2.2 | (with_reducible refine Kd.C_alloc ?_ _) | (with_reducible refine Kd.C_drewN ?_ _) | (with_reducible refine Kd.C_drew ?_))); (case side2 => exact (Kd.R_reads' HO_4.out).2.1); rintro e w35 ⟨rfl, hb⟩; have n0_ := Aside0.mk (Kd.R_below zp25 hb); have n1_ := Aside0.mk (Kd.R_below zp24 hb); have n2_ := Aside0.mk (blk_below (g := gb314) (o := .cells #[.int .i64 t307, .int .i64 t308, .int .i64 t309] 27 (0, 0)) zp7 hb); have n3_ := Aside0.mk (below_step zp3 hb); clear HO_4; clear HO_6; clear BK314; clear HB; have HO_4 := n0_; have HO_6 := n1_; have BK314 := n2_; have HB := n3_; clear n0_ n1_ n2_ n3_; (try clear hb); (try clear hb2); (try clear hk); (try clear hi)))
          repeat (go_quiet (first | (go_at_call 29; (with_reducible refine (impl_CountBreakings.calls k2 x9_2 t308 t309 _ _ t310 t321 _ ?side1 ?side2 A29.out).mono ?_); (case side1 => repeat (first | exact (Kd.R_reads' HO_4.out).2.2 | (with_reducible refine Kd.C_alloc ?_ _) | (with_reducible refine Kd.C_drewN ?_ _) | (with_reducible refine Kd.C_drew ?_))); (case side2 => exact (Kd.R_reads' HO_4.out).2.1); rintro e w35 ⟨rfl, hb⟩; have n0_ := Aside0.mk (Kd.R_below zp25 hb); have n1_ := Aside0.mk (Kd.R_below zp24 hb); have n2_ := Aside0.mk (blk_below (g := gb314) (o := .cells #[.int .i64 t307, .int .i64 t308, .int .i64 t309] 27 (0, 0)) zp7 hb); have n3_ := Aside0.mk (below_step zp3 hb); clear HO_4; clear HO_6; clear BK314; clear HB; have HO_4 := n0_; have HO_6 := n1_; have BK314 := n2_; have HB := n3_; clear n0_ n1_ n2_ n3_; (try clear hb); (try clear hb2); (try clear hk); (try clear hi))); try go_wp2_with (first | (go_at_call 29; (with_reducible refine (impl_CountBreakings.calls k2 x9_2 t308 t309 _ _ t310 t321 _ ?side1 ?side2 A29.out).mono ?_); (case side1 => repeat (first | exact (Kd.R_reads' HO_4.out).2.2 | (with_reducible refine Kd.C_alloc ?_ _) | (with_reducible refine Kd.C_drewN ?_ _) | (with_reducible refine Kd.C_drew ?_))); (case side2 => exact (Kd.R_reads' HO_4.out).2.1); rintro e w35 ⟨rfl, hb⟩; have n0_ := Aside0.mk (Kd.R_below zp25 hb); have n1_ := Aside0.mk (Kd.R_below zp24 hb); have n2_ := Aside0.mk (blk_below (g := gb314) (o := .cells #[.int .i64 t307, .int .i64 t308, .int .i64 t309] 27 (0, 0)) zp7 hb); have n3_ := Aside0.mk (below_step zp3 hb); clear HO_4; clear HO_6; clear BK314; clear HB; have HO_4 := n0_; have HO_6 := n1_; have BK314 := n2_; have HB := n3_; clear n0_ n1_ n2_ n3_; (try clear hb); (try clear hb2); (try clear hk); (try clear hi))))
          go_roundg k2
          case measure => have := HJ4.out; have := HK2.out; omega
          case rel => exact ⟨(x8_2), (wrap64 (x9_2 + 1)), zp21, zp21, H', ⟨by have := HJ4.out; have := HK2.out; omega⟩, ⟨by (with_reducible repeat (first | apply Kd.R_alloc | apply Kd.R_drewN | apply Kd.R_drew)); exact HO_4.out⟩, ⟨by (with_reducible repeat (first | apply Kd.R_alloc | apply Kd.R_drewN | apply Kd.R_drew)); exact HO_6.out⟩, ⟨by (with_reducible repeat (first | refine blk_drewN ?_ _ | refine blk_drew ?_ | refine blk_alloc ?_ _)); exact BK314.out⟩, ⟨by repeat (first | (with_reducible first | exact HB.out | apply below_alloc | apply pw_below_drewN | apply below_drew1 | refine below_set ?_ GE314.out) | exact HB.out)⟩⟩
        ·rw [if_neg c30] at H
         have c30b0 : decide (t321 < 1) = false := decide_eq_false c30
         clear c30
         by_cases c36 : x8_2 ≥ (t315.length : Int)
         ·rw [if_pos c36] at H
          have c36b0 : decide ((t315.length : Int) ≤ x8_2) = true := decide_eq_true c36
          clear c36
          obtain rfl := Option.some.inj H
          have hcz37_0 : wr.cell? ⟨gb314, 0, none⟩ = some (.int .i64 t307) := (blk_cell BK314.out 0).trans rfl
          have hcz37_1 : wr.cell? ⟨gb314, 1, none⟩ = some (.int .i64 t308) := (blk_cell BK314.out 1).trans rfl
          have hcz37_2 : wr.cell? ⟨gb314, 2, none⟩ = some (.int .i64 t309) := (blk_cell BK314.out 2).trans rfl
          have hfz37_0 := blk_frozen BK314.out 0
          have hfz37_1 := blk_frozen BK314.out 1
          have hfz37_2 := blk_frozen BK314.out 2
          go_wp2_with (first | (go_at_call 29; (with_reducible refine (impl_CountBreakings.calls k2 x9_2 t308 t309 _ _ t310 t321 _ ?side1 ?side2 A29.out).mono ?_); (case side1 => repeat (first | exact (Kd.R_reads' HO_4.out).2.2 | (with_reducible refine Kd.C_alloc ?_ _) | (with_reducible refine Kd.C_drewN ?_ _) | (with_reducible refine Kd.C_drew ?_))); (case side2 => exact (Kd.R_reads' HO_4.out).2.1); rintro e w38 ⟨rfl, hb⟩; have n0_ := Aside0.mk (Kd.R_below zp25 hb); have n1_ := Aside0.mk (Kd.R_below zp24 hb); have n2_ := Aside0.mk (blk_below (g := gb314) (o := .cells #[.int .i64 t307, .int .i64 t308, .int .i64 t309] 27 (0, 0)) zp7 hb); have n3_ := Aside0.mk (below_step zp3 hb); clear HO_4; clear HO_6; clear BK314; clear HB; have HO_4 := n0_; have HO_6 := n1_; have BK314 := n2_; have HB := n3_; clear n0_ n1_ n2_ n3_; (try clear hb); (try clear hb2); (try clear hk); (try clear hi); obtain ⟨Ao39, co39, eo39⟩ := Kd.R_slice HO_6.out; subst eo39))
          repeat (go_quiet (first | (go_at_call 29; (with_reducible refine (impl_CountBreakings.calls k2 x9_2 t308 t309 _ _ t310 t321 _ ?side1 ?side2 A29.out).mono ?_); (case side1 => repeat (first | exact (Kd.R_reads' HO_4.out).2.2 | (with_reducible refine Kd.C_alloc ?_ _) | (with_reducible refine Kd.C_drewN ?_ _) | (with_reducible refine Kd.C_drew ?_))); (case side2 => exact (Kd.R_reads' HO_4.out).2.1); rintro e w38 ⟨rfl, hb⟩; have n0_ := Aside0.mk (Kd.R_below zp25 hb); have n1_ := Aside0.mk (Kd.R_below zp24 hb); have n2_ := Aside0.mk (blk_below (g := gb314) (o := .cells #[.int .i64 t307, .int .i64 t308, .int .i64 t309] 27 (0, 0)) zp7 hb); have n3_ := Aside0.mk (below_step zp3 hb); clear HO_4; clear HO_6; clear BK314; clear HB; have HO_4 := n0_; have HO_6 := n1_; have BK314 := n2_; have HB := n3_; clear n0_ n1_ n2_ n3_; (try clear hb); (try clear hb2); (try clear hk); (try clear hi); obtain ⟨Ao39, co39, eo39⟩ := Kd.R_slice HO_6.out; subst eo39)); try go_wp2_with (first | (go_at_call 29; (with_reducible refine (impl_CountBreakings.calls k2 x9_2 t308 t309 _ _ t310 t321 _ ?side1 ?side2 A29.out).mono ?_); (case side1 => repeat (first | exact (Kd.R_reads' HO_4.out).2.2 | (with_reducible refine Kd.C_alloc ?_ _) | (with_reducible refine Kd.C_drewN ?_ _) | (with_reducible refine Kd.C_drew ?_))); (case side2 => exact (Kd.R_reads' HO_4.out).2.1); rintro e w38 ⟨rfl, hb⟩; have n0_ := Aside0.mk (Kd.R_below zp25 hb); have n1_ := Aside0.mk (Kd.R_below zp24 hb); have n2_ := Aside0.mk (blk_below (g := gb314) (o := .cells #[.int .i64 t307, .int .i64 t308, .int .i64 t309] 27 (0, 0)) zp7 hb); have n3_ := Aside0.mk (below_step zp3 hb); clear HO_4; clear HO_6; clear BK314; clear HB; have HO_4 := n0_; have HO_6 := n1_; have BK314 := n2_; have HB := n3_; clear n0_ n1_ n2_ n3_; (try clear hb); (try clear hb2); (try clear hk); (try clear hi); obtain ⟨Ao39, co39, eo39⟩ := Kd.R_slice HO_6.out; subst eo39)))
          go_ret
          exact ⟨by first | rfl | (simp [errW_none, errW_some] <;> rfl) | (simp [*, errW_none, errW_some] <;> rfl), by repeat (first | (with_reducible first | exact HB.out | apply below_alloc | apply pw_below_drewN | apply below_drew1 | refine below_set ?_ GE314.out) | exact HB.out)⟩
         ·rw [if_neg c36] at H
          have c36b0 : decide ((t315.length : Int) ≤ x8_2) = false := decide_eq_false c36
          clear c36
          by_cases c40 : 0 ≤ x8_2
          ·rw [if_pos c40] at H
           have c40b0 : decide (0 ≤ x8_2) = true := decide_eq_true c40
           clear c40
           by_cases c41 : x8_2 < (t315.length : Int)
           ·rw [if_pos c41] at H
            have c41b0 : decide (x8_2 < (t315.length : Int)) = true := decide_eq_true c41
            clear c41
            by_cases c42 : (rd t315 x8_2) = x9_2
            ·rw [if_pos c42] at H
             have c42b0 : ((rd t315 x8_2) == x9_2) = true := beq_iff_eq.mpr c42
             have c42b1 : ((rd t315 x8_2) != x9_2) = false := bne_eq_false_iff_eq.mpr c42
             clear c42
             have H' := Aside0.mk H
             clear H
             have hcz43_0 : wr.cell? ⟨gb314, 0, none⟩ = some (.int .i64 t307) := (blk_cell BK314.out 0).trans rfl
             have hcz43_1 : wr.cell? ⟨gb314, 1, none⟩ = some (.int .i64 t308) := (blk_cell BK314.out 1).trans rfl
             have hcz43_2 : wr.cell? ⟨gb314, 2, none⟩ = some (.int .i64 t309) := (blk_cell BK314.out 2).trans rfl
             have hfz43_0 := blk_frozen BK314.out 0
             have hfz43_1 := blk_frozen BK314.out 1
             have hfz43_2 := blk_frozen BK314.out 2
             go_wp2_with (first | (go_at_call 29; (with_reducible refine (impl_CountBreakings.calls k2 x9_2 t308 t309 _ _ t310 t321 _ ?side1 ?side2 A29.out).mono ?_); (case side1 => repeat (first | exact (Kd.R_reads' HO_4.out).2.2 | (with_reducible refine Kd.C_alloc ?_ _) | (with_reducible refine Kd.C_drewN ?_ _) | (with_reducible refine Kd.C_drew ?_))); (case side2 => exact (Kd.R_reads' HO_4.out).2.1); rintro e w44 ⟨rfl, hb⟩; have n0_ := Aside0.mk (Kd.R_below zp25 hb); have n1_ := Aside0.mk (Kd.R_below zp24 hb); have n2_ := Aside0.mk (blk_below (g := gb314) (o := .cells #[.int .i64 t307, .int .i64 t308, .int .i64 t309] 27 (0, 0)) zp7 hb); have n3_ := Aside0.mk (below_step zp3 hb); clear HO_4; clear HO_6; clear BK314; clear HB; have HO_4 := n0_; have HO_6 := n1_; have BK314 := n2_; have HB := n3_; clear n0_ n1_ n2_ n3_; (try clear hb); (try clear hb2); (try clear hk); (try clear hi); obtain ⟨Ao45, co45, eo45⟩ := Kd.R_slice HO_6.out; subst eo45; have p322 : 0 ≤ (x8_2 : Int) := of_decide_eq_true zp12; have q322 : x8_2 < (t315.length : Int) := of_decide_eq_true zp12; obtain ⟨ad322, e322, hx322_0⟩ := Kd.at_int (Kd.R_reads' HO_6.out).2.2 x8_2 p322 q322; cases e322; replace p322 := eq_true p322; replace q322 := eq_true q322))
             repeat (go_quiet (first | (go_at_call 29; (with_reducible refine (impl_CountBreakings.calls k2 x9_2 t308 t309 _ _ t310 t321 _ ?side1 ?side2 A29.out).mono ?_); (case side1 => repeat (first | exact (Kd.R_reads' HO_4.out).2.2 | (with_reducible refine Kd.C_alloc ?_ _) | (with_reducible refine Kd.C_drewN ?_ _) | (with_reducible refine Kd.C_drew ?_))); (case side2 => exact (Kd.R_reads' HO_4.out).2.1); rintro e w44 ⟨rfl, hb⟩; have n0_ := Aside0.mk (Kd.R_below zp25 hb); have n1_ := Aside0.mk (Kd.R_below zp24 hb); have n2_ := Aside0.mk (blk_below (g := gb314) (o := .cells #[.int .i64 t307, .int .i64 t308, .int .i64 t309] 27 (0, 0)) zp7 hb); have n3_ := Aside0.mk (below_step zp3 hb); clear HO_4; clear HO_6; clear BK314; clear HB; have HO_4 := n0_; have HO_6 := n1_; have BK314 := n2_; have HB := n3_; clear n0_ n1_ n2_ n3_; (try clear hb); (try clear hb2); (try clear hk); (try clear hi); obtain ⟨Ao45, co45, eo45⟩ := Kd.R_slice HO_6.out; subst eo45; have p322 : 0 ≤ (x8_2 : Int) := of_decide_eq_true zp12; have q322 : x8_2 < (t315.length : Int) := of_decide_eq_true zp12; obtain ⟨ad322, e322, hx322_0⟩ := Kd.at_int (Kd.R_reads' HO_6.out).2.2 x8_2 p322 q322; cases e322; replace p322 := eq_true p322; replace q322 := eq_true q322)); try go_wp2_with (first | (go_at_call 29; (with_reducible refine (impl_CountBreakings.calls k2 x9_2 t308 t309 _ _ t310 t321 _ ?side1 ?side2 A29.out).mono ?_); (case side1 => repeat (first | exact (Kd.R_reads' HO_4.out).2.2 | (with_reducible refine Kd.C_alloc ?_ _) | (with_reducible refine Kd.C_drewN ?_ _) | (with_reducible refine Kd.C_drew ?_))); (case side2 => exact (Kd.R_reads' HO_4.out).2.1); rintro e w44 ⟨rfl, hb⟩; have n0_ := Aside0.mk (Kd.R_below zp25 hb); have n1_ := Aside0.mk (Kd.R_below zp24 hb); have n2_ := Aside0.mk (blk_below (g := gb314) (o := .cells #[.int .i64 t307, .int .i64 t308, .int .i64 t309] 27 (0, 0)) zp7 hb); have n3_ := Aside0.mk (below_step zp3 hb); clear HO_4; clear HO_6; clear BK314; clear HB; have HO_4 := n0_; have HO_6 := n1_; have BK314 := n2_; have HB := n3_; clear n0_ n1_ n2_ n3_; (try clear hb); (try clear hb2); (try clear hk); (try clear hi); obtain ⟨Ao45, co45, eo45⟩ := Kd.R_slice HO_6.out; subst eo45; have p322 : 0 ≤ (x8_2 : Int) := of_decide_eq_true zp12; have q322 : x8_2 < (t315.length : Int) := of_decide_eq_true zp12; obtain ⟨ad322, e322, hx322_0⟩ := Kd.at_int (Kd.R_reads' HO_6.out).2.2 x8_2 p322 q322; cases e322; replace p322 := eq_true p322; replace q322 := eq_true q322)))
             go_roundg k2
             case measure => have := HJ4.out; have := HK2.out; omega
             case rel => exact ⟨(wrap64 (x8_2 + 1)), (wrap64 (x9_2 + 1)), zp21, zp21, H', ⟨by have := HJ4.out; have := HK2.out; omega⟩, ⟨by (with_reducible repeat (first | apply Kd.R_alloc | apply Kd.R_drewN | apply Kd.R_drew)); exact HO_4.out⟩, ⟨by (with_reducible repeat (first | apply Kd.R_alloc | apply Kd.R_drewN | apply Kd.R_drew)); exact HO_6.out⟩, ⟨by (with_reducible repeat (first | refine blk_drewN ?_ _ | refine blk_drew ?_ | refine blk_alloc ?_ _)); exact BK314.out⟩, ⟨by repeat (first | (with_reducible first | exact HB.out | apply below_alloc | apply pw_below_drewN | apply below_drew1 | refine below_set ?_ GE314.out) | exact HB.out)⟩⟩
            ·rw [if_neg c42] at H
             have c42b0 : ((rd t315 x8_2) == x9_2) = false := beq_eq_false_iff_ne.mpr c42
             have c42b1 : ((rd t315 x8_2) != x9_2) = true := bne_iff_ne.mpr c42
             obtain rfl := Option.some.inj H
             have hcz46_0 : wr.cell? ⟨gb314, 0, none⟩ = some (.int .i64 t307) := (blk_cell BK314.out 0).trans rfl
             have hcz46_1 : wr.cell? ⟨gb314, 1, none⟩ = some (.int .i64 t308) := (blk_cell BK314.out 1).trans rfl
             have hcz46_2 : wr.cell? ⟨gb314, 2, none⟩ = some (.int .i64 t309) := (blk_cell BK314.out 2).trans rfl
             have hfz46_0 := blk_frozen BK314.out 0
             have hfz46_1 := blk_frozen BK314.out 1
             have hfz46_2 := blk_frozen BK314.out 2
             go_wp2_with (first | (go_at_call 29; (with_reducible refine (impl_CountBreakings.calls k2 x9_2 t308 t309 _ _ t310 t321 _ ?side1 ?side2 A29.out).mono ?_); (case side1 => repeat (first | exact (Kd.R_reads' HO_4.out).2.2 | (with_reducible refine Kd.C_alloc ?_ _) | (with_reducible refine Kd.C_drewN ?_ _) | (with_reducible refine Kd.C_drew ?_))); (case side2 => exact (Kd.R_reads' HO_4.out).2.1); rintro e w47 ⟨rfl, hb⟩; have n0_ := Aside0.mk (Kd.R_below zp25 hb); have n1_ := Aside0.mk (Kd.R_below zp24 hb); have n2_ := Aside0.mk (blk_below (g := gb314) (o := .cells #[.int .i64 t307, .int .i64 t308, .int .i64 t309] 27 (0, 0)) zp7 hb); have n3_ := Aside0.mk (below_step zp3 hb); clear HO_4; clear HO_6; clear BK314; clear HB; have HO_4 := n0_; have HO_6 := n1_; have BK314 := n2_; have HB := n3_; clear n0_ n1_ n2_ n3_; (try clear hb); (try clear hb2); (try clear hk); (try clear hi); obtain ⟨Ao48, co48, eo48⟩ := Kd.R_slice HO_6.out; subst eo48; have p322 : 0 ≤ (x8_2 : Int) := of_decide_eq_true zp12; have q322 : x8_2 < (t315.length : Int) := of_decide_eq_true zp12; obtain ⟨ad322, e322, hx322_0⟩ := Kd.at_int (Kd.R_reads' HO_6.out).2.2 x8_2 p322 q322; cases e322; replace p322 := eq_true p322; replace q322 := eq_true q322))
             repeat (go_quiet (first | (go_at_call 29; (with_reducible refine (impl_CountBreakings.calls k2 x9_2 t308 t309 _ _ t310 t321 _ ?side1 ?side2 A29.out).mono ?_); (case side1 => repeat (first | exact (Kd.R_reads' HO_4.out).2.2 | (with_reducible refine Kd.C_alloc ?_ _) | (with_reducible refine Kd.C_drewN ?_ _) | (with_reducible refine Kd.C_drew ?_))); (case side2 => exact (Kd.R_reads' HO_4.out).2.1); rintro e w47 ⟨rfl, hb⟩; have n0_ := Aside0.mk (Kd.R_below zp25 hb); have n1_ := Aside0.mk (Kd.R_below zp24 hb); have n2_ := Aside0.mk (blk_below (g := gb314) (o := .cells #[.int .i64 t307, .int .i64 t308, .int .i64 t309] 27 (0, 0)) zp7 hb); have n3_ := Aside0.mk (below_step zp3 hb); clear HO_4; clear HO_6; clear BK314; clear HB; have HO_4 := n0_; have HO_6 := n1_; have BK314 := n2_; have HB := n3_; clear n0_ n1_ n2_ n3_; (try clear hb); (try clear hb2); (try clear hk); (try clear hi); obtain ⟨Ao48, co48, eo48⟩ := Kd.R_slice HO_6.out; subst eo48; have p322 : 0 ≤ (x8_2 : Int) := of_decide_eq_true zp12; have q322 : x8_2 < (t315.length : Int) := of_decide_eq_true zp12; obtain ⟨ad322, e322, hx322_0⟩ := Kd.at_int (Kd.R_reads' HO_6.out).2.2 x8_2 p322 q322; cases e322; replace p322 := eq_true p322; replace q322 := eq_true q322)); try go_wp2_with (first | (go_at_call 29; (with_reducible refine (impl_CountBreakings.calls k2 x9_2 t308 t309 _ _ t310 t321 _ ?side1 ?side2 A29.out).mono ?_); (case side1 => repeat (first | exact (Kd.R_reads' HO_4.out).2.2 | (with_reducible refine Kd.C_alloc ?_ _) | (with_reducible refine Kd.C_drewN ?_ _) | (with_reducible refine Kd.C_drew ?_))); (case side2 => exact (Kd.R_reads' HO_4.out).2.1); rintro e w47 ⟨rfl, hb⟩; have n0_ := Aside0.mk (Kd.R_below zp25 hb); have n1_ := Aside0.mk (Kd.R_below zp24 hb); have n2_ := Aside0.mk (blk_below (g := gb314) (o := .cells #[.int .i64 t307, .int .i64 t308, .int .i64 t309] 27 (0, 0)) zp7 hb); have n3_ := Aside0.mk (below_step zp3 hb); clear HO_4; clear HO_6; clear BK314; clear HB; have HO_4 := n0_; have HO_6 := n1_; have BK314 := n2_; have HB := n3_; clear n0_ n1_ n2_ n3_; (try clear hb); (try clear hb2); (try clear hk); (try clear hi); obtain ⟨Ao48, co48, eo48⟩ := Kd.R_slice HO_6.out; subst eo48; have p322 : 0 ≤ (x8_2 : Int) := of_decide_eq_true zp12; have q322 : x8_2 < (t315.length : Int) := of_decide_eq_true zp12; obtain ⟨ad322, e322, hx322_0⟩ := Kd.at_int (Kd.R_reads' HO_6.out).2.2 x8_2 p322 q322; cases e322; replace p322 := eq_true p322; replace q322 := eq_true q322)))
             go_ret
             exact ⟨by first | rfl | (simp [errW_none, errW_some] <;> rfl) | (simp [*, errW_none, errW_some] <;> rfl), by repeat (first | (with_reducible first | exact HB.out | apply below_alloc | apply pw_below_drewN | apply below_drew1 | refine below_set ?_ GE314.out) | exact HB.out)⟩
           ·rw [if_neg c41] at H
            exact absurd H zp48
          ·rw [if_neg c40] at H
           exact absurd H zp48
       ·rw [if_neg c28] at H
        have c28b0 : decide (x9_2 ≤ t313) = false := decide_eq_false c28
        clear c28
        obtain rfl := Option.some.inj H
        obtain ⟨Ao49, co49, eo49⟩ := Kd.R_slice HO_6.out
        subst eo49
        go_wp2
        repeat (go_quiet (fail); try go_wp2)
        go_ret
        exact ⟨by first | rfl | (simp [errW_none, errW_some] <;> rfl) | (simp [*, errW_none, errW_some] <;> rfl), by repeat (first | (with_reducible first | exact HB.out | apply below_alloc | apply pw_below_drewN | apply below_drew1 | refine below_set ?_ GE314.out) | exact HB.out)⟩
def laws_FnWidths.Pure : Prop := ∀ (l0 : List Int), l0.length ≤ maxLen → l0.length * 1 ≤ 140737488351232 → (∀ x ∈ l0, (Lit.int .u8 x).wf = true) → ∃ k, laws_FnWidths.f k l0 = some true
theorem laws_FnWidths.walk (P : laws_FnWidths.Pure) (a0 : Option Addr) (len0 cap0 : Nat) (z0 : List Int) (w : World) (w0 : (a0 = none ∧ len0 = 0 ∧ cap0 = 0 ∧ z0 = []) ∨ ∃ x, a0 = some x ∧ len0 ≤ cap0 ∧ cap0 ≤ maxLen ∧ z0.length = cap0 ∧ (∀ i, i < z0.length → w.cell? (x.add i) = some (.int .u8 (z0.getD i 0))) ∧ ∀ n ∈ z0, (Lit.int .u8 n).wf = true) (y0 : len0 * 1 ≤ 140737488351232) :
 Calls Try.prog 5 #[.slice a0 len0 cap0] w fun e w' => e = .returned (.bool true) ∧ Below w.heap.size w w' := by
 obtain ⟨l0, rfl, hr0, hm0, hw0, hc0⟩ := ReadsInt.ofRowC w0
 obtain ⟨k, h⟩ := P l0 hm0 y0 hw0
 refine (laws_FnWidths.calls k _ _ l0 true w (Kd.C_of_reads (d := (0 : Int)) (h1 := fun _ => rfl) hr0) hc0 h).mono ?_
 rintro e w' ⟨rfl, hd⟩
 exact ⟨rfl, hd⟩
end Go.Proofs.Ytnbmlblcmjaclaa.PFnWidths
