/- Written by a program of this session with the help of the kit's print: of each Go function a Lean function, and the proof that its call comes to just what that tells. No condition beyond those that each theorem states. -/
import Derived.Test.YtnbmlblcmjaclaaPFnWidths0
import Derived.Test.YtnbmlblcmjaclaaPFnWidths1
namespace Go.Proofs.Ytnbmlblcmjaclaa.PFnWidths
open Go.RowKit Go.Proofs.YtnbmlblcmjaclaaW.PrintWords Go.Proofs.YtnbmlblcmjaclaaW.PrintLast Go.Proofs.YtnbmlblcmjaclaaW.PrintMore
attribute [local go_sem] max2_int min2_int max_two min_two max_three min_three max_four min_four
set_option linter.unusedVariables false
set_option linter.unusedSimpArgs false
def spec_l4Both.l0 : Nat → List Int → Int → List Int → Int → Int → Int → Int → Int → Option (Int × Int × Int × List Int × Int × Int)
 | 0, _, _, _, _, _, _, _, _ => none
 | k + 1, x5, x6, x1000, x1001, x1002, x193000, x193001, x193002 => if (x5.length : Int) < x6 then ((spec_l01Below.f x1000 x1001 x1002 4).bind fun bt218 => (if x5.length < 17592186044416 then (spec_l4Both.l0 k (x5 ++ [wrap64 (1 + bt218.1)]) x6 x1000 bt218.2.1 bt218.2.2 x193000 x193001 x193002) else (none))) else (some (x193000, x193001, x193002, x5, x1001, x1002))
def spec_l4Both.f (k : Nat) (s0_0 : List Int) (s0_1 : Int) (s0_2 : Int) : Option (Int × Int × Int × List Int × Int × Int) := (spec_l4Measure.f s0_0 s0_1 s0_2).bind fun bt187 => ((spec_l4Words.f k s0_0 bt187.2.2.2.1 bt187.2.2.2.2).bind fun bt193 => ((spec_l01Below.f s0_0 bt193.2.1 bt193.2.2 20).bind fun bt198 => (if bt198.1 = 0 then ((spec_l3Any.f s0_0 bt198.2.1 bt198.2.2).bind fun bt201 => (some (bt201.1, bt201.2.1, bt201.2.2.1, bt193.1, bt201.2.2.2.1, bt201.2.2.2.2))) else (if bt198.1 = 1 then ((spec_l01Int.f s0_0 bt198.2.1 bt198.2.2 (([0, (-1), 2000, 2001] : List Int))).bind fun bt209 => (if bt193.1.length < 17592186044416 then (some (bt187.1, bt187.2.1, bt187.2.2.1, (bt193.1 ++ [bt209.1]), bt209.2.1, bt209.2.2)) else (none))) else (if bt198.1 = 2 then ((spec_l01Below.f s0_0 bt198.2.1 bt198.2.2 3).bind fun bt215 => (spec_l4Both.l0 k bt193.1 (wrap64 (39 + bt215.1)) s0_0 bt215.2.1 bt215.2.2 bt187.1 bt187.2.1 bt187.2.2.1)) else (if bt198.1 = 3 then (some (bt187.1, bt187.2.1, bt187.2.2.1, ([] : List Int), bt198.2.1, bt198.2.2)) else (some (bt187.1, bt187.2.1, bt187.2.2.1, bt193.1, bt198.2.1, bt198.2.2))))))))
theorem spec_l4Both.mono_l : ∀ k, (∀ y0 y1 y2 y3 y4 y5 y6 y7, LeO (spec_l4Both.l0 k y0 y1 y2 y3 y4 y5 y6 y7) (spec_l4Both.l0 (k + 1) y0 y1 y2 y3 y4 y5 y6 y7))
 | 0 => fun _ _ _ _ _ _ _ _ r h => by simp [spec_l4Both.l0] at h
 | k + 1 => by
  have ih0 := spec_l4Both.mono_l k
  ·intro y0 y1 y2 y3 y4 y5 y6 y7
   unfold spec_l4Both.l0
   repeat' first
   | (with_reducible exact ih0 _ _ _ _ _ _ _ _)
   | (with_reducible exact spec_l4Words.mono _ _ _ _)
   | (with_reducible exact LeO.refl _)
   | (with_reducible exact LeO.none _)
   | (with_reducible refine LeO.ite ?_ ?_)
   | (with_reducible refine LeO.bind ?_ (fun _ => ?_))
   | exact ih0 _ _ _ _ _ _ _ _
   | exact spec_l4Words.mono _ _ _ _
   | exact LeO.none _
   | refine LeO.ite ?_ ?_
   | refine LeO.bind ?_ (fun _ => ?_)
theorem spec_l4Both.mono : ∀ a0 a1 a2 k, LeO (spec_l4Both.f k a0 a1 a2) (spec_l4Both.f (k + 1) a0 a1 a2) := by
 intro a0 a1 a2 k
 have ih0 := spec_l4Both.mono_l k
 unfold spec_l4Both.f
 repeat' first
  | (with_reducible exact ih0 _ _ _ _ _ _ _ _)
  | (with_reducible exact spec_l4Words.mono _ _ _ _)
  | (with_reducible exact LeO.refl _)
  | (with_reducible exact LeO.none _)
  | (with_reducible refine LeO.ite ?_ ?_)
  | (with_reducible refine LeO.bind ?_ (fun _ => ?_))
  | exact ih0 _ _ _ _ _ _ _ _
  | exact spec_l4Words.mono _ _ _ _
  | exact LeO.none _
  | refine LeO.ite ?_ ?_
  | refine LeO.bind ?_ (fun _ => ?_)
set_option maxHeartbeats 8000000 in
set_option maxRecDepth 100000 in
theorem spec_l4Both.calls (k : Nat) (g : Nat) (s0_0 : List Int) (s0_1 : Int) (s0_2 : Int) (r1 : Int) (r2 : Int) (r3 : Int) (r4 : List Int) (r5 : Int) (r6 : Int) (w0 w : World) (hI : IsS74 w0 w g s0_0 s0_1 s0_2) (hB : Below w0.heap.size w0 w) (h : spec_l4Both.f k s0_0 s0_1 s0_2 = some (r1, r2, r3, r4, r5, r6)) :
 Calls Try.prog 56 #[.pointer (some ⟨g, 0, none⟩)] w fun e w' => ∃ v3_ : Value, e = .returned (.tuple #[.agg #[.int .i64 r1, .int .i64 r2, .int .i64 r3], v3_]) ∧ Kd.R (Kd.int .i64) 3 w' w.heap.size (fun _ => True) v3_ r4 ∧ IsS74 w0 w' g s0_0 r5 r6 ∧ Below w0.heap.size w0 w' ∧ KeepBut w w' g none := by
 have hu27 := Try.underlying27
 have HI0 := Aside0.mk hI
 have HK := Aside0.mk (KeepBut.refl w g none)
 have HL := Aside0.mk hB.size
 clear hI
 have HW0 := Aside0.mk hB.size
 have HB := Aside0.mk hB
 clear hB
 have H : ((spec_l4Measure.f s0_0 s0_1 s0_2).bind fun bt187 => ((spec_l4Words.f k s0_0 bt187.2.2.2.1 bt187.2.2.2.2).bind fun bt193 => ((spec_l01Below.f s0_0 bt193.2.1 bt193.2.2 20).bind fun bt198 => (if bt198.1 = 0 then ((spec_l3Any.f s0_0 bt198.2.1 bt198.2.2).bind fun bt201 => (some (bt201.1, bt201.2.1, bt201.2.2.1, bt193.1, bt201.2.2.2.1, bt201.2.2.2.2))) else (if bt198.1 = 1 then ((spec_l01Int.f s0_0 bt198.2.1 bt198.2.2 (([0, (-1), 2000, 2001] : List Int))).bind fun bt209 => (if bt193.1.length < 17592186044416 then (some (bt187.1, bt187.2.1, bt187.2.2.1, (bt193.1 ++ [bt209.1]), bt209.2.1, bt209.2.2)) else (none))) else (if bt198.1 = 2 then ((spec_l01Below.f s0_0 bt198.2.1 bt198.2.2 3).bind fun bt215 => (spec_l4Both.l0 k bt193.1 (wrap64 (39 + bt215.1)) s0_0 bt215.2.1 bt215.2.2 bt187.1 bt187.2.1 bt187.2.2.1)) else (if bt198.1 = 3 then (some (bt187.1, bt187.2.1, bt187.2.2.1, ([] : List Int), bt198.2.1, bt198.2.2)) else (some (bt187.1, bt187.2.1, bt187.2.2.1, bt193.1, bt198.2.1, bt198.2.2))))))))) = some (r1, r2, r3, r4, r5, r6) := h
 clear h
 replace H := Option.bind_eq_some_iff.mp H
 obtain ⟨⟨t187, t188, t189, t190, t191⟩, A20, H⟩ := H
 replace H : ((spec_l4Words.f k s0_0 t190 t191).bind fun bt193 => ((spec_l01Below.f s0_0 bt193.2.1 bt193.2.2 20).bind fun bt198 => (if bt198.1 = 0 then ((spec_l3Any.f s0_0 bt198.2.1 bt198.2.2).bind fun bt201 => (some (bt201.1, bt201.2.1, bt201.2.2.1, bt193.1, bt201.2.2.2.1, bt201.2.2.2.2))) else (if bt198.1 = 1 then ((spec_l01Int.f s0_0 bt198.2.1 bt198.2.2 (([0, (-1), 2000, 2001] : List Int))).bind fun bt209 => (if bt193.1.length < 17592186044416 then (some (t187, t188, t189, (bt193.1 ++ [bt209.1]), bt209.2.1, bt209.2.2)) else (none))) else (if bt198.1 = 2 then ((spec_l01Below.f s0_0 bt198.2.1 bt198.2.2 3).bind fun bt215 => (spec_l4Both.l0 k bt193.1 (wrap64 (39 + bt215.1)) s0_0 bt215.2.1 bt215.2.2 t187 t188 t189)) else (if bt198.1 = 3 then (some (t187, t188, t189, ([] : List Int), bt198.2.1, bt198.2.2)) else (some (t187, t188, t189, bt193.1, bt198.2.1, bt198.2.2)))))))) = some (r1, r2, r3, r4, r5, r6) := H
 have A2 := Aside0.mk A20
 clear A20
 replace H := Option.bind_eq_some_iff.mp H
 obtain ⟨⟨t193, t196, t197⟩, A30, H⟩ := H
 replace H : ((spec_l01Below.f s0_0 t196 t197 20).bind fun bt198 => (if bt198.1 = 0 then ((spec_l3Any.f s0_0 bt198.2.1 bt198.2.2).bind fun bt201 => (some (bt201.1, bt201.2.1, bt201.2.2.1, t193, bt201.2.2.2.1, bt201.2.2.2.2))) else (if bt198.1 = 1 then ((spec_l01Int.f s0_0 bt198.2.1 bt198.2.2 (([0, (-1), 2000, 2001] : List Int))).bind fun bt209 => (if t193.length < 17592186044416 then (some (t187, t188, t189, (t193 ++ [bt209.1]), bt209.2.1, bt209.2.2)) else (none))) else (if bt198.1 = 2 then ((spec_l01Below.f s0_0 bt198.2.1 bt198.2.2 3).bind fun bt215 => (spec_l4Both.l0 k t193 (wrap64 (39 + bt215.1)) s0_0 bt215.2.1 bt215.2.2 t187 t188 t189)) else (if bt198.1 = 3 then (some (t187, t188, t189, ([] : List Int), bt198.2.1, bt198.2.2)) else (some (t187, t188, t189, t193, bt198.2.1, bt198.2.2))))))) = some (r1, r2, r3, r4, r5, r6) := H
 have A3 := Aside0.mk A30
 clear A30
 replace H := Option.bind_eq_some_iff.mp H
 obtain ⟨⟨t198, t199, t200⟩, A40, H⟩ := H
 replace H : (if t198 = 0 then ((spec_l3Any.f s0_0 t199 t200).bind fun bt201 => (some (bt201.1, bt201.2.1, bt201.2.2.1, t193, bt201.2.2.2.1, bt201.2.2.2.2))) else (if t198 = 1 then ((spec_l01Int.f s0_0 t199 t200 (([0, (-1), 2000, 2001] : List Int))).bind fun bt209 => (if t193.length < 17592186044416 then (some (t187, t188, t189, (t193 ++ [bt209.1]), bt209.2.1, bt209.2.2)) else (none))) else (if t198 = 2 then ((spec_l01Below.f s0_0 t199 t200 3).bind fun bt215 => (spec_l4Both.l0 k t193 (wrap64 (39 + bt215.1)) s0_0 bt215.2.1 bt215.2.2 t187 t188 t189)) else (if t198 = 3 then (some (t187, t188, t189, ([] : List Int), t199, t200)) else (some (t187, t188, t189, t193, t199, t200)))))) = some (r1, r2, r3, r4, r5, r6) := H
 have A4 := Aside0.mk A40
 clear A40
 by_cases c5 : t198 = 0
 ·rw [if_pos c5] at H
  have c5b0 : (t198 == 0) = true := beq_iff_eq.mpr c5
  have c5b1 : (t198 != 0) = false := bne_eq_false_iff_eq.mpr c5
  clear c5
  replace H := Option.bind_eq_some_iff.mp H
  obtain ⟨⟨t201, t202, t203, t204, t205⟩, A60, H⟩ := H
  replace H : (some (t201, t202, t203, t193, t204, t205)) = some (r1, r2, r3, r4, r5, r6) := H
  have A6 := Aside0.mk A60
  clear A60
  simp only [Option.some.injEq, Prod.mk.injEq] at H
  obtain ⟨rfl, rfl, rfl, rfl, rfl, rfl⟩ := H
  go_enter Try.func56, Try.ntmps56
  go_wp2_with (first | ((with_reducible refine gate_dst (N := 2) rfl ?_); refine box_event ?hg (N := 2) ?hd (cs := #[.int .i64 0, .int .i64 0, .int .i64 0]) (t := 27) ?hr ?_; (case hd => rfl); (case hg => rfl); (case hr => first | (go_simp; done) | (go_simp; rfl)); intro gb186 hg w7 hbox hb; have n0_ := Aside0.mk (IsS74.below zp16 hb); have n1_ := Aside0.mk (KeepBut.trans zp2 (KeepBut.of_below hb g none) (.inl rfl)); have n2_ := Aside0.mk (below_step zp15 hb); have n3_ := Aside0.mk (hbox); have n4_ := Aside0.mk ((zp26 : w.heap.size ≤ gb186)); have n5_ := Aside0.mk ((Nat.le_trans HW0.out (zp26 : w.heap.size ≤ gb186) : w0.heap.size ≤ gb186)); have n6_ := Aside0.mk ((by rw [hg]; exact Nat.ne_of_lt (IsS74.lt (show IsS74 w0 _ g s0_0 s0_1 s0_2 from by repeat (first | (with_reducible first | exact HI0.out | apply IsS74.alloc | apply IsS74.drewN | apply IsS74.drew | apply IsS74.set_1 | apply IsS74.set_2) | exact HI0.out))) : g ≠ gb186)); have n7_ := Aside0.mk ((by rw [hg]; exact Nat.ne_of_gt (IsS74.lt (show IsS74 w0 _ g s0_0 s0_1 s0_2 from by repeat (first | (with_reducible first | exact HI0.out | apply IsS74.alloc | apply IsS74.drewN | apply IsS74.drew | apply IsS74.set_1 | apply IsS74.set_2) | exact HI0.out))) : gb186 ≠ g)); clear HI0; clear HK; clear HB; have HI0 := n0_; have HK := n1_; have HB := n2_; have BK186 := n3_; have GW186 := n4_; have GE186 := n5_; have NB0_186 := n6_; have NB186_0 := n7_; clear n0_ n1_ n2_ n3_ n4_ n5_ n6_ n7_; clear hb hbox hg) | ((with_reducible refine gate_callee (f := 73) rfl ?_); refine goesL_ (some 8) rfl rfl Try.func73 (by kernel_rfl) rfl #[.pointer (some ⟨g, 0, none⟩)] rfl zp1 ?_; (with_reducible refine (spec_l4Measure.calls g s0_0 s0_1 s0_2 t187 t188 t189 t190 t191 w0 _ ?side1 ?side2 A2.out).mono ?_); (case side1 => repeat (first | (with_reducible first | exact HI0.out | apply IsS74.alloc | apply IsS74.drewN | apply IsS74.drew | apply IsS74.set_1 | apply IsS74.set_2 | refine IsS74.far ?_ NB0_186.out _) | exact HI0.out)); (case side2 => repeat (first | (with_reducible first | exact HB.out | apply below_alloc | apply pw_below_drewN | apply below_drew1 | refine below_set ?_ (IsS74.ge HI0.out) | refine below_set ?_ GE186.out) | exact HB.out)); rintro e w8 ⟨rfl, hi, hb, hk⟩; refine ⟨_, rfl, ?_⟩; have n0_ := Aside0.mk (KeepBut.blk hk (g' := gb186) (o := .cells #[.int .i64 0, .int .i64 0, .int .i64 0] 27 (0, 0)) zp5 NB186_0.out zp48); have n1_ := Aside0.mk (KeepBut.trans zp6 hk (.inl rfl)); have n2_ := Aside0.mk (hb); have n3_ := Aside0.mk (hi); clear BK186; clear HK; clear HB; clear HI0; have BK186 := n0_; have HK := n1_; have HB := n2_; have HI0 := n3_; clear n0_ n1_ n2_ n3_; (try clear hb); (try clear hb2); (try clear hk); (try clear hi)) | ((with_reducible refine gate_dst (N := 4) rfl ?_); refine box_event ?hg (N := 4) ?hd (cs := #[.int .i64 0, .int .i64 0, .int .i64 0]) (t := 27) ?hr ?_; (case hd => rfl); (case hg => rfl); (case hr => first | (go_simp; done) | (go_simp; rfl)); intro gb192 hg w9 hbox hb; have n0_ := Aside0.mk (IsS74.below zp33 hb); have n1_ := Aside0.mk (blk_below (g := gb186) (o := .cells #[.int .i64 0, .int .i64 0, .int .i64 0] 27 (0, 0)) zp5 hb); have n2_ := Aside0.mk (KeepBut.trans zp6 (KeepBut.of_below hb g none) (.inl rfl)); have n3_ := Aside0.mk (below_step zp34 hb); have n4_ := Aside0.mk (hbox); have n5_ := Aside0.mk ((zp47 : w.heap.size ≤ gb192)); have n6_ := Aside0.mk ((Nat.le_trans HW0.out (zp47 : w.heap.size ≤ gb192) : w0.heap.size ≤ gb192)); have n7_ := Aside0.mk ((zp53 : gb186 ≠ gb192)); have n8_ := Aside0.mk ((zp54 : gb192 ≠ gb186)); have n9_ := Aside0.mk ((by rw [hg]; exact Nat.ne_of_lt (IsS74.lt (show IsS74 w0 _ g s0_0 t190 t191 from by repeat (first | (with_reducible first | exact HI0.out | apply IsS74.alloc | apply IsS74.drewN | apply IsS74.drew | apply IsS74.set_1 | apply IsS74.set_2 | refine IsS74.far ?_ NB0_186.out _) | exact HI0.out))) : g ≠ gb192)); have n10_ := Aside0.mk ((by rw [hg]; exact Nat.ne_of_gt (IsS74.lt (show IsS74 w0 _ g s0_0 t190 t191 from by repeat (first | (with_reducible first | exact HI0.out | apply IsS74.alloc | apply IsS74.drewN | apply IsS74.drew | apply IsS74.set_1 | apply IsS74.set_2 | refine IsS74.far ?_ NB0_186.out _) | exact HI0.out))) : gb192 ≠ g)); clear HI0; clear BK186; clear HK; clear HB; have HI0 := n0_; have BK186 := n1_; have HK := n2_; have HB := n3_; have BK192 := n4_; have GW192 := n5_; have GE192 := n6_; have NB186_192 := n7_; have NB192_186 := n8_; have NB0_192 := n9_; have NB192_0 := n10_; clear n0_ n1_ n2_ n3_ n4_ n5_ n6_ n7_ n8_ n9_ n10_; clear hb hbox hg; have hnb10 := NB192_186.out; have hnc10 := NB186_192.out; have hnb11 := NB192_0.out; have hnc11 := NB0_192.out; have hcz12_0 : w9.cell? ⟨gb192, 0, none⟩ = some (.int .i64 0) := (blk_cell BK192.out 0).trans rfl; have hcz12_1 : w9.cell? ⟨gb192, 1, none⟩ = some (.int .i64 0) := (blk_cell BK192.out 1).trans rfl; have hcz12_2 : w9.cell? ⟨gb192, 2, none⟩ = some (.int .i64 0) := (blk_cell BK192.out 2).trans rfl; have hfz12_0 := blk_frozen BK192.out 0; have hfz12_1 := blk_frozen BK192.out 1; have hfz12_2 := blk_frozen BK192.out 2) | ((with_reducible refine gate_callee (f := 74) rfl ?_); refine goesL_ (some 10) rfl rfl Try.func74 (by kernel_rfl) rfl #[.pointer (some ⟨g, 0, none⟩)] rfl zp1 ?_; (with_reducible refine (spec_l4Words.calls k g s0_0 t190 t191 t193 t196 t197 w0 _ ?side1 ?side2 A3.out).mono ?_); (case side1 => repeat (first | (with_reducible first | exact HI0.out | apply IsS74.alloc | apply IsS74.drewN | apply IsS74.drew | apply IsS74.set_1 | apply IsS74.set_2 | refine IsS74.far ?_ NB0_186.out _ | refine IsS74.far ?_ NB0_192.out _) | exact HI0.out)); (case side2 => repeat (first | (with_reducible first | exact HB.out | apply below_alloc | apply pw_below_drewN | apply below_drew1 | refine below_set ?_ (IsS74.ge HI0.out) | refine below_set ?_ GE186.out | refine below_set ?_ GE192.out) | exact HB.out)); rintro e w13 ⟨v194, rfl, ho0, hi, hb, hk⟩; refine ⟨_, rfl, ?_⟩; have n0_ := Aside0.mk (KeepBut.blk hk (g' := gb186) (o := .cells #[.int .i64 0, .int .i64 0, .int .i64 0] 27 (0, 0)) zp14 NB186_0.out zp48); have n1_ := Aside0.mk (KeepBut.blk hk (g' := gb192) (o := .cells #[.int .i64 t187, .int .i64 t188, .int .i64 t189] 27 (0, 0)) zp9 NB192_0.out zp48); have n2_ := Aside0.mk (Kd.R_lower ho0 (keep_size (w := w) (g := g) (row := none) zp4)); have n3_ := Aside0.mk (KeepBut.trans zp4 hk (.inl rfl)); have n4_ := Aside0.mk (hb); have n5_ := Aside0.mk (hi); clear BK186; clear BK192; clear HK; clear HB; clear HI0; have BK186 := n0_; have BK192 := n1_; have HO195 := n2_; have HK := n3_; have HB := n4_; have HI0 := n5_; clear n0_ n1_ n2_ n3_ n4_ n5_; (try clear hb); (try clear hb2); (try clear hk); (try clear hi); (try clear ho0)) | ((with_reducible refine gate_callee (f := 61) rfl ?_); refine goesL_ (some 12) rfl rfl Try.func61 (by kernel_rfl) rfl #[.pointer (some ⟨g, 0, none⟩), .int .i64 20] rfl zp1 ?_; (with_reducible refine (spec_l01Below.calls g s0_0 t196 t197 20 t198 t199 t200 w0 _ ?side1 ?side2 A4.out).mono ?_); (case side1 => repeat (first | (with_reducible first | exact HI0.out | apply IsS74.alloc | apply IsS74.drewN | apply IsS74.drew | apply IsS74.set_1 | apply IsS74.set_2 | refine IsS74.far ?_ NB0_186.out _ | refine IsS74.far ?_ NB0_192.out _) | exact HI0.out)); (case side2 => repeat (first | (with_reducible first | exact HB.out | apply below_alloc | apply pw_below_drewN | apply below_drew1 | refine below_set ?_ (IsS74.ge HI0.out) | refine below_set ?_ GE186.out | refine below_set ?_ GE192.out) | exact HB.out)); rintro e w14 ⟨rfl, hi, hb, hk⟩; refine ⟨_, rfl, ?_⟩; have n0_ := Aside0.mk (KeepBut.blk hk (g' := gb186) (o := .cells #[.int .i64 0, .int .i64 0, .int .i64 0] 27 (0, 0)) zp5 NB186_0.out zp48); have n1_ := Aside0.mk (KeepBut.blk hk (g' := gb192) (o := .cells #[.int .i64 t187, .int .i64 t188, .int .i64 t189] 27 (0, 0)) zp29 NB192_0.out zp48); have n2_ := Aside0.mk (Kd.R_mono (Kd.R_keep (IsS74.apart (show IsS74 w0 _ g s0_0 t196 t197 from by repeat (first | (with_reducible first | exact HI0.out | apply IsS74.alloc | apply IsS74.drewN | apply IsS74.drew | apply IsS74.set_1 | apply IsS74.set_2 | refine IsS74.far ?_ NB0_186.out _ | refine IsS74.far ?_ NB0_192.out _) | exact HI0.out)) zp32 (by decide)) hk (fun _ h => h.2)) (fun _ h => h.1)); have n3_ := Aside0.mk (KeepBut.trans zp4 hk (.inl rfl)); have n4_ := Aside0.mk (hb); have n5_ := Aside0.mk (hi); clear BK186; clear BK192; clear HO195; clear HK; clear HB; clear HI0; have BK186 := n0_; have BK192 := n1_; have HO195 := n2_; have HK := n3_; have HB := n4_; have HI0 := n5_; clear n0_ n1_ n2_ n3_ n4_ n5_; (try clear hb); (try clear hb2); (try clear hk); (try clear hi)) | ((with_reducible refine gate_callee (f := 75) rfl ?_); refine goesL_ (some 16) rfl rfl Try.func75 (by kernel_rfl) rfl #[.pointer (some ⟨g, 0, none⟩)] rfl zp1 ?_; (with_reducible refine (spec_l3Any.calls g s0_0 t199 t200 t201 t202 t203 t204 t205 w0 _ ?side1 ?side2 A6.out).mono ?_); (case side1 => repeat (first | (with_reducible first | exact HI0.out | apply IsS74.alloc | apply IsS74.drewN | apply IsS74.drew | apply IsS74.set_1 | apply IsS74.set_2 | refine IsS74.far ?_ NB0_186.out _ | refine IsS74.far ?_ NB0_192.out _) | exact HI0.out)); (case side2 => repeat (first | (with_reducible first | exact HB.out | apply below_alloc | apply pw_below_drewN | apply below_drew1 | refine below_set ?_ (IsS74.ge HI0.out) | refine below_set ?_ GE186.out | refine below_set ?_ GE192.out) | exact HB.out)); rintro e w15 ⟨rfl, hi, hb, hk⟩; refine ⟨_, rfl, ?_⟩; have n0_ := Aside0.mk (KeepBut.blk hk (g' := gb186) (o := .cells #[.int .i64 0, .int .i64 0, .int .i64 0] 27 (0, 0)) zp5 NB186_0.out zp48); have n1_ := Aside0.mk (KeepBut.blk hk (g' := gb192) (o := .cells #[.int .i64 t187, .int .i64 t188, .int .i64 t189] 27 (0, 0)) zp29 NB192_0.out zp48); have n2_ := Aside0.mk (Kd.R_mono (Kd.R_keep (IsS74.apart (show IsS74 w0 _ g s0_0 t199 t200 from by repeat (first | (with_reducible first | exact HI0.out | apply IsS74.alloc | apply IsS74.drewN | apply IsS74.drew | apply IsS74.set_1 | apply IsS74.set_2 | refine IsS74.far ?_ NB0_186.out _ | refine IsS74.far ?_ NB0_192.out _) | exact HI0.out)) zp32 (by decide)) hk (fun _ h => h.2)) (fun _ h => h.1)); have n3_ := Aside0.mk (KeepBut.trans zp4 hk (.inl rfl)); have n4_ := Aside0.mk (hb); have n5_ := Aside0.mk (hi); clear BK186; clear BK192; clear HO195; clear HK; clear HB; clear HI0; have BK186 := n0_; have BK192 := n1_; have HO195 := n2_; have HK := n3_; have HB := n4_; have HI0 := n5_; clear n0_ n1_ n2_ n3_ n4_ n5_; (try clear hb); (try clear hb2); (try clear hk); (try clear hi); have hnb16 := NB186_0.out; have hnc16 := NB0_186.out; have hcz17_0 : w15.cell? ⟨gb186, 0, none⟩ = some (.int .i64 0) := (blk_cell BK186.out 0).trans rfl; have hcz17_1 : w15.cell? ⟨gb186, 1, none⟩ = some (.int .i64 0) := (blk_cell BK186.out 1).trans rfl; have hcz17_2 : w15.cell? ⟨gb186, 2, none⟩ = some (.int .i64 0) := (blk_cell BK186.out 2).trans rfl; have hfz17_0 := blk_frozen BK186.out 0; have hfz17_1 := blk_frozen BK186.out 1; have hfz17_2 := blk_frozen BK186.out 2))
  refine bodyPost_ret (results_ct rfl _ _ gb186 27 #[.int .i64 t201, .int .i64 t202, .int .i64 t203] (0, 0) _ rfl (by (with_reducible repeat (first | refine blk_drewN ?_ _ | refine blk_drew ?_ | refine blk_alloc ?_ _)); refine blk_put (cs := #[.int .i64 t201, .int .i64 t202, .int .i64 0]) ?_ 2 _ rfl; (with_reducible repeat (first | refine blk_drewN ?_ _ | refine blk_drew ?_ | refine blk_alloc ?_ _)); refine blk_put (cs := #[.int .i64 t201, .int .i64 0, .int .i64 0]) ?_ 1 _ rfl; (with_reducible repeat (first | refine blk_drewN ?_ _ | refine blk_drew ?_ | refine blk_alloc ?_ _)); refine blk_put (cs := #[.int .i64 0, .int .i64 0, .int .i64 0]) ?_ 0 _ rfl; (with_reducible repeat (first | refine blk_drewN ?_ _ | refine blk_drew ?_ | refine blk_alloc ?_ _)); exact BK186.out) Try.underlying27 rfl (by kernel_rfl)) rfl ?_
  exact ⟨_, by first | rfl | (simp [errW_none, errW_some] <;> rfl) | (simp [*, errW_none, errW_some] <;> rfl), by (with_reducible repeat (first | apply Kd.R_alloc | apply Kd.R_drewN | apply Kd.R_drew)); exact Kd.R_mono (Kd.R_far (p := ⟨gb186, 2, none⟩) (Kd.R_far (p := ⟨gb186, 1, none⟩) (Kd.R_far (p := ⟨gb186, 0, none⟩) (Kd.R_types HO195.out BK186.out (by decide)) (fun _ hk => hk.2) (.int .i64 t201)) (fun _ hk => hk.2) (.int .i64 t202)) (fun _ hk => hk.2) (.int .i64 t203)) (fun _ hk => trivial), by repeat (first | (with_reducible first | exact HI0.out | apply IsS74.alloc | apply IsS74.drewN | apply IsS74.drew | apply IsS74.set_1 | apply IsS74.set_2 | refine IsS74.far ?_ NB0_186.out _ | refine IsS74.far ?_ NB0_192.out _) | exact HI0.out), by repeat (first | (with_reducible first | exact HB.out | apply below_alloc | apply pw_below_drewN | apply below_drew1 | refine below_set ?_ (IsS74.ge HI0.out) | refine below_set ?_ GE186.out | refine below_set ?_ GE192.out) | exact HB.out), by repeat (first | (with_reducible first | exact HK.out | apply KeepBut.set_ | apply keep_drewN | apply keep_drew | apply keep_alloc | refine keep_far ?_ GW186.out _ | refine keep_far ?_ GW192.out _) | exact HK.out)⟩
 ·rw [if_neg c5] at H
  have c5b0 : (t198 == 0) = false := beq_eq_false_iff_ne.mpr c5
  have c5b1 : (t198 != 0) = true := bne_iff_ne.mpr c5
  by_cases c18 : t198 = 1
  ·rw [if_pos c18] at H
   have c18b0 : (t198 == 1) = true := beq_iff_eq.mpr c18
   have c18b1 : (t198 != 1) = false := bne_eq_false_iff_eq.mpr c18
   clear c18
   obtain ⟨y206, hy206⟩ : ∃ y_ : List Int, y_ = (([0, (-1), 2000, 2001] : List Int)) := ⟨_, rfl⟩
   replace H : ((spec_l01Int.f s0_0 t199 t200 y206).bind fun bt209 => (if t193.length < 17592186044416 then (some (t187, t188, t189, (t193 ++ [bt209.1]), bt209.2.1, bt209.2.2)) else (none))) = some (r1, r2, r3, r4, r5, r6) := by first | (rw [hy206]; with_reducible exact H) | (have H2_ := (Option.bind_some _ _).symm.trans H; rw [hy206]; with_reducible exact H2_) | (have H2_ := (Option.bind_some _ _).symm.trans H; with_reducible exact H2_) | with_reducible exact H | (rw [hy206]; exact H) | exact H
   have Ny206 := Aside0.mk hy206
   clear hy206
   replace H := Option.bind_eq_some_iff.mp H
   obtain ⟨⟨t209, t210, t211⟩, A190, H⟩ := H
   replace H : (if t193.length < 17592186044416 then (some (t187, t188, t189, (t193 ++ [t209]), t210, t211)) else (none)) = some (r1, r2, r3, r4, r5, r6) := H
   have A19 := Aside0.mk A190
   clear A190
   by_cases c20 : t193.length < 17592186044416
   ·rw [if_pos c20] at H
    have LMc20 := Aside0.mk c20
    clear c20
    obtain ⟨y212, hy212⟩ : ∃ y_ : List Int, y_ = (t193 ++ [t209]) := ⟨_, rfl⟩
    replace H : (some (t187, t188, t189, y212, t210, t211)) = some (r1, r2, r3, r4, r5, r6) := by first | (rw [hy212]; with_reducible exact H) | (have H2_ := (Option.bind_some _ _).symm.trans H; rw [hy212]; with_reducible exact H2_) | (have H2_ := (Option.bind_some _ _).symm.trans H; with_reducible exact H2_) | with_reducible exact H | (rw [hy212]; exact H) | exact H
    have Ny212 := Aside0.mk hy212
    clear hy212
    simp only [Option.some.injEq, Prod.mk.injEq] at H
    obtain ⟨rfl, rfl, rfl, rfl, rfl, rfl⟩ := H
    go_enter Try.func56, Try.ntmps56
    go_wp2_with (first | ((with_reducible refine gate_dst (N := 2) rfl ?_); refine box_event ?hg (N := 2) ?hd (cs := #[.int .i64 0, .int .i64 0, .int .i64 0]) (t := 27) ?hr ?_; (case hd => rfl); (case hg => rfl); (case hr => first | (go_simp; done) | (go_simp; rfl)); intro gb186 hg w21 hbox hb; have n0_ := Aside0.mk (IsS74.below zp16 hb); have n1_ := Aside0.mk (KeepBut.trans zp2 (KeepBut.of_below hb g none) (.inl rfl)); have n2_ := Aside0.mk (below_step zp15 hb); have n3_ := Aside0.mk (hbox); have n4_ := Aside0.mk ((zp26 : w.heap.size ≤ gb186)); have n5_ := Aside0.mk ((Nat.le_trans HW0.out (zp26 : w.heap.size ≤ gb186) : w0.heap.size ≤ gb186)); have n6_ := Aside0.mk ((by rw [hg]; exact Nat.ne_of_lt (IsS74.lt (show IsS74 w0 _ g s0_0 s0_1 s0_2 from by repeat (first | (with_reducible first | exact HI0.out | apply IsS74.alloc | apply IsS74.drewN | apply IsS74.drew | apply IsS74.set_1 | apply IsS74.set_2) | exact HI0.out))) : g ≠ gb186)); have n7_ := Aside0.mk ((by rw [hg]; exact Nat.ne_of_gt (IsS74.lt (show IsS74 w0 _ g s0_0 s0_1 s0_2 from by repeat (first | (with_reducible first | exact HI0.out | apply IsS74.alloc | apply IsS74.drewN | apply IsS74.drew | apply IsS74.set_1 | apply IsS74.set_2) | exact HI0.out))) : gb186 ≠ g)); clear HI0; clear HK; clear HB; have HI0 := n0_; have HK := n1_; have HB := n2_; have BK186 := n3_; have GW186 := n4_; have GE186 := n5_; have NB0_186 := n6_; have NB186_0 := n7_; clear n0_ n1_ n2_ n3_ n4_ n5_ n6_ n7_; clear hb hbox hg) | ((with_reducible refine gate_callee (f := 73) rfl ?_); refine goesL_ (some 8) rfl rfl Try.func73 (by kernel_rfl) rfl #[.pointer (some ⟨g, 0, none⟩)] rfl zp1 ?_; (with_reducible refine (spec_l4Measure.calls g s0_0 s0_1 s0_2 t187 t188 t189 t190 t191 w0 _ ?side1 ?side2 A2.out).mono ?_); (case side1 => repeat (first | (with_reducible first | exact HI0.out | apply IsS74.alloc | apply IsS74.drewN | apply IsS74.drew | apply IsS74.set_1 | apply IsS74.set_2 | refine IsS74.far ?_ NB0_186.out _) | exact HI0.out)); (case side2 => repeat (first | (with_reducible first | exact HB.out | apply below_alloc | apply pw_below_drewN | apply below_drew1 | refine below_set ?_ (IsS74.ge HI0.out) | refine below_set ?_ GE186.out) | exact HB.out)); rintro e w22 ⟨rfl, hi, hb, hk⟩; refine ⟨_, rfl, ?_⟩; have n0_ := Aside0.mk (KeepBut.blk hk (g' := gb186) (o := .cells #[.int .i64 0, .int .i64 0, .int .i64 0] 27 (0, 0)) zp5 NB186_0.out zp48); have n1_ := Aside0.mk (KeepBut.trans zp6 hk (.inl rfl)); have n2_ := Aside0.mk (hb); have n3_ := Aside0.mk (hi); clear BK186; clear HK; clear HB; clear HI0; have BK186 := n0_; have HK := n1_; have HB := n2_; have HI0 := n3_; clear n0_ n1_ n2_ n3_; (try clear hb); (try clear hb2); (try clear hk); (try clear hi)) | ((with_reducible refine gate_dst (N := 4) rfl ?_); refine box_event ?hg (N := 4) ?hd (cs := #[.int .i64 0, .int .i64 0, .int .i64 0]) (t := 27) ?hr ?_; (case hd => rfl); (case hg => rfl); (case hr => first | (go_simp; done) | (go_simp; rfl)); intro gb192 hg w23 hbox hb; have n0_ := Aside0.mk (IsS74.below zp33 hb); have n1_ := Aside0.mk (blk_below (g := gb186) (o := .cells #[.int .i64 0, .int .i64 0, .int .i64 0] 27 (0, 0)) zp5 hb); have n2_ := Aside0.mk (KeepBut.trans zp6 (KeepBut.of_below hb g none) (.inl rfl)); have n3_ := Aside0.mk (below_step zp34 hb); have n4_ := Aside0.mk (hbox); have n5_ := Aside0.mk ((zp47 : w.heap.size ≤ gb192)); have n6_ := Aside0.mk ((Nat.le_trans HW0.out (zp47 : w.heap.size ≤ gb192) : w0.heap.size ≤ gb192)); have n7_ := Aside0.mk ((zp53 : gb186 ≠ gb192)); have n8_ := Aside0.mk ((zp54 : gb192 ≠ gb186)); have n9_ := Aside0.mk ((by rw [hg]; exact Nat.ne_of_lt (IsS74.lt (show IsS74 w0 _ g s0_0 t190 t191 from by repeat (first | (with_reducible first | exact HI0.out | apply IsS74.alloc | apply IsS74.drewN | apply IsS74.drew | apply IsS74.set_1 | apply IsS74.set_2 | refine IsS74.far ?_ NB0_186.out _) | exact HI0.out))) : g ≠ gb192)); have n10_ := Aside0.mk ((by rw [hg]; exact Nat.ne_of_gt (IsS74.lt (show IsS74 w0 _ g s0_0 t190 t191 from by repeat (first | (with_reducible first | exact HI0.out | apply IsS74.alloc | apply IsS74.drewN | apply IsS74.drew | apply IsS74.set_1 | apply IsS74.set_2 | refine IsS74.far ?_ NB0_186.out _) | exact HI0.out))) : gb192 ≠ g)); clear HI0; clear BK186; clear HK; clear HB; have HI0 := n0_; have BK186 := n1_; have HK := n2_; have HB := n3_; have BK192 := n4_; have GW192 := n5_; have GE192 := n6_; have NB186_192 := n7_; have NB192_186 := n8_; have NB0_192 := n9_; have NB192_0 := n10_; clear n0_ n1_ n2_ n3_ n4_ n5_ n6_ n7_ n8_ n9_ n10_; clear hb hbox hg; have hnb24 := NB192_186.out; have hnc24 := NB186_192.out; have hnb25 := NB192_0.out; have hnc25 := NB0_192.out; have hcz26_0 : w23.cell? ⟨gb192, 0, none⟩ = some (.int .i64 0) := (blk_cell BK192.out 0).trans rfl; have hcz26_1 : w23.cell? ⟨gb192, 1, none⟩ = some (.int .i64 0) := (blk_cell BK192.out 1).trans rfl; have hcz26_2 : w23.cell? ⟨gb192, 2, none⟩ = some (.int .i64 0) := (blk_cell BK192.out 2).trans rfl; have hfz26_0 := blk_frozen BK192.out 0; have hfz26_1 := blk_frozen BK192.out 1; have hfz26_2 := blk_frozen BK192.out 2) | ((with_reducible refine gate_callee (f := 74) rfl ?_); refine goesL_ (some 10) rfl rfl Try.func74 (by kernel_rfl) rfl #[.pointer (some ⟨g, 0, none⟩)] rfl zp1 ?_; (with_reducible refine (spec_l4Words.calls k g s0_0 t190 t191 t193 t196 t197 w0 _ ?side1 ?side2 A3.out).mono ?_); (case side1 => repeat (first | (with_reducible first | exact HI0.out | apply IsS74.alloc | apply IsS74.drewN | apply IsS74.drew | apply IsS74.set_1 | apply IsS74.set_2 | refine IsS74.far ?_ NB0_186.out _ | refine IsS74.far ?_ NB0_192.out _) | exact HI0.out)); (case side2 => repeat (first | (with_reducible first | exact HB.out | apply below_alloc | apply pw_below_drewN | apply below_drew1 | refine below_set ?_ (IsS74.ge HI0.out) | refine below_set ?_ GE186.out | refine below_set ?_ GE192.out) | exact HB.out)); rintro e w27 ⟨v194, rfl, ho0, hi, hb, hk⟩; refine ⟨_, rfl, ?_⟩; have n0_ := Aside0.mk (KeepBut.blk hk (g' := gb186) (o := .cells #[.int .i64 0, .int .i64 0, .int .i64 0] 27 (0, 0)) zp14 NB186_0.out zp48); have n1_ := Aside0.mk (KeepBut.blk hk (g' := gb192) (o := .cells #[.int .i64 t187, .int .i64 t188, .int .i64 t189] 27 (0, 0)) zp9 NB192_0.out zp48); have n2_ := Aside0.mk (Kd.R_lower ho0 (keep_size (w := w) (g := g) (row := none) zp4)); have n3_ := Aside0.mk (KeepBut.trans zp4 hk (.inl rfl)); have n4_ := Aside0.mk (hb); have n5_ := Aside0.mk (hi); clear BK186; clear BK192; clear HK; clear HB; clear HI0; have BK186 := n0_; have BK192 := n1_; have HO195 := n2_; have HK := n3_; have HB := n4_; have HI0 := n5_; clear n0_ n1_ n2_ n3_ n4_ n5_; (try clear hb); (try clear hb2); (try clear hk); (try clear hi); (try clear ho0)) | ((with_reducible refine gate_callee (f := 61) rfl ?_); refine goesL_ (some 12) rfl rfl Try.func61 (by kernel_rfl) rfl #[.pointer (some ⟨g, 0, none⟩), .int .i64 20] rfl zp1 ?_; (with_reducible refine (spec_l01Below.calls g s0_0 t196 t197 20 t198 t199 t200 w0 _ ?side1 ?side2 A4.out).mono ?_); (case side1 => repeat (first | (with_reducible first | exact HI0.out | apply IsS74.alloc | apply IsS74.drewN | apply IsS74.drew | apply IsS74.set_1 | apply IsS74.set_2 | refine IsS74.far ?_ NB0_186.out _ | refine IsS74.far ?_ NB0_192.out _) | exact HI0.out)); (case side2 => repeat (first | (with_reducible first | exact HB.out | apply below_alloc | apply pw_below_drewN | apply below_drew1 | refine below_set ?_ (IsS74.ge HI0.out) | refine below_set ?_ GE186.out | refine below_set ?_ GE192.out) | exact HB.out)); rintro e w28 ⟨rfl, hi, hb, hk⟩; refine ⟨_, rfl, ?_⟩; have n0_ := Aside0.mk (KeepBut.blk hk (g' := gb186) (o := .cells #[.int .i64 0, .int .i64 0, .int .i64 0] 27 (0, 0)) zp5 NB186_0.out zp48); have n1_ := Aside0.mk (KeepBut.blk hk (g' := gb192) (o := .cells #[.int .i64 t187, .int .i64 t188, .int .i64 t189] 27 (0, 0)) zp29 NB192_0.out zp48); have n2_ := Aside0.mk (Kd.R_mono (Kd.R_keep (IsS74.apart (show IsS74 w0 _ g s0_0 t196 t197 from by repeat (first | (with_reducible first | exact HI0.out | apply IsS74.alloc | apply IsS74.drewN | apply IsS74.drew | apply IsS74.set_1 | apply IsS74.set_2 | refine IsS74.far ?_ NB0_186.out _ | refine IsS74.far ?_ NB0_192.out _) | exact HI0.out)) zp32 (by decide)) hk (fun _ h => h.2)) (fun _ h => h.1)); have n3_ := Aside0.mk (KeepBut.trans zp4 hk (.inl rfl)); have n4_ := Aside0.mk (hb); have n5_ := Aside0.mk (hi); clear BK186; clear BK192; clear HO195; clear HK; clear HB; clear HI0; have BK186 := n0_; have BK192 := n1_; have HO195 := n2_; have HK := n3_; have HB := n4_; have HI0 := n5_; clear n0_ n1_ n2_ n3_ n4_ n5_; (try clear hb); (try clear hb2); (try clear hk); (try clear hi)) | ((with_reducible refine gate_dst (N := 22) rfl ?_); refine Kd.R_lit (Kd.int .i64) _ 3 ?hg (N := 22) ?hd (xs := ([0, (-1), 2000, 2001] : List Int)) (inner := [.int .i64 0, .int .i64 (-1), .int .i64 2000, .int .i64 2001]) (ok := fun _ => True) (okp := fun _ => True) ?hr ?hp (fun _ hk => hk) trivial (Below.refl _ _) (Nat.le_refl _) zp48 ?_; (case hd => rfl); (case hg => rfl); (case hr => first | (go_simp; done) | (go_simp; rfl)); (case hp => exact (Reps.one (show Kd.M (Kd.int .i64) _ _ _ 0 [.int .i64 0] from rfl) (Reps.one (show Kd.M (Kd.int .i64) _ _ _ (-1) [.int .i64 (-1)] from rfl) (Reps.one (show Kd.M (Kd.int .i64) _ _ _ 2000 [.int .i64 2000] from rfl) (Reps.one (show Kd.M (Kd.int .i64) _ _ _ 2001 [.int .i64 2001] from rfl) (Reps.none _ _)))))); intro v207 w29 ho30 hb hg_ hnew_; clear hg_ hnew_; (first | rw [← Ny206.out] at ho30 | (simp only [Int.reduceToNat] at ho30; rw [← Ny206.out] at ho30)); have n0_ := Aside0.mk (Kd.R_elder' zp32 (Kd.R_base ho30) hb); have n1_ := Aside0.mk (Kd.R_lower (Kd.R_new' ho30 (Kd.R_lt zp32)) (keep_size (w := w) (g := g) (row := none) zp4)); have n2_ := Aside0.mk (IsS74.below zp51 hb); have n3_ := Aside0.mk (blk_below (g := gb186) (o := .cells #[.int .i64 0, .int .i64 0, .int .i64 0] 27 (0, 0)) zp5 hb); have n4_ := Aside0.mk (blk_below (g := gb192) (o := .cells #[.int .i64 t187, .int .i64 t188, .int .i64 t189] 27 (0, 0)) zp29 hb); have n5_ := Aside0.mk (KeepBut.trans zp4 (KeepBut.of_below hb g none) (.inl rfl)); have n6_ := Aside0.mk (below_step zp55 hb); clear HO195; clear HI0; clear BK186; clear BK192; clear HK; clear HB; have HO195 := n0_; have HO208 := n1_; have HI0 := n2_; have BK186 := n3_; have BK192 := n4_; have HK := n5_; have HB := n6_; clear n0_ n1_ n2_ n3_ n4_ n5_ n6_; clear hb ho30; obtain ⟨Ao31, co31, eo31⟩ := Kd.R_slice HO208.out; subst eo31) | ((with_reducible refine gate_callee (f := 57) rfl ?_); refine goesL_ (some 23) rfl rfl Try.func57 (by kernel_rfl) rfl #[.pointer (some ⟨g, 0, none⟩), .slice Ao31 y206.length co31] rfl zp1 ?_; (with_reducible refine (spec_l01Int.calls g s0_0 t199 t200 _ _ y206 t209 t210 t211 w0 _ ?side1 ?side2 ?side3 ?side4 ?side5 A19.out).mono ?_); (case side1 => repeat (first | (with_reducible first | exact HI0.out | apply IsS74.alloc | apply IsS74.drewN | apply IsS74.drew | apply IsS74.set_1 | apply IsS74.set_2 | refine IsS74.far ?_ NB0_186.out _ | refine IsS74.far ?_ NB0_192.out _) | exact HI0.out)); (case side2 => repeat (first | (with_reducible first | exact HB.out | apply below_alloc | apply pw_below_drewN | apply below_drew1 | refine below_set ?_ (IsS74.ge HI0.out) | refine below_set ?_ GE186.out | refine below_set ?_ GE192.out) | exact HB.out)); (case side3 => repeat (first | exact (Kd.R_reads' HO208.out).2.2 | (with_reducible refine Kd.C_alloc ?_ _) | (with_reducible refine Kd.C_drewN ?_ _) | (with_reducible refine Kd.C_drew ?_))); (case side4 => exact (Kd.R_reads' HO208.out).2.1); (case side5 => exact far_slice (IsS74.own_ne HI0.out HO208.out (by decide))); rintro e w32 ⟨rfl, hi, hb, hk⟩; refine ⟨_, rfl, ?_⟩; have n0_ := Aside0.mk (KeepBut.blk hk (g' := gb186) (o := .cells #[.int .i64 0, .int .i64 0, .int .i64 0] 27 (0, 0)) zp5 NB186_0.out zp48); have n1_ := Aside0.mk (KeepBut.blk hk (g' := gb192) (o := .cells #[.int .i64 t187, .int .i64 t188, .int .i64 t189] 27 (0, 0)) zp29 NB192_0.out zp48); have n2_ := Aside0.mk (Kd.R_mono (Kd.R_keep (IsS74.apart (show IsS74 w0 _ g s0_0 t199 t200 from by repeat (first | (with_reducible first | exact HI0.out | apply IsS74.alloc | apply IsS74.drewN | apply IsS74.drew | apply IsS74.set_1 | apply IsS74.set_2 | refine IsS74.far ?_ NB0_186.out _ | refine IsS74.far ?_ NB0_192.out _) | exact HI0.out)) zp32 (by decide)) hk (fun _ h => h.2)) (fun _ h => h.1)); have n3_ := Aside0.mk (Kd.R_mono (Kd.R_keep (IsS74.apart (show IsS74 w0 _ g s0_0 t199 t200 from by repeat (first | (with_reducible first | exact HI0.out | apply IsS74.alloc | apply IsS74.drewN | apply IsS74.drew | apply IsS74.set_1 | apply IsS74.set_2 | refine IsS74.far ?_ NB0_186.out _ | refine IsS74.far ?_ NB0_192.out _) | exact HI0.out)) zp73 (by decide)) hk (fun _ h => h.2)) (fun _ h => h.1)); have n4_ := Aside0.mk (KeepBut.trans zp4 hk (.inl rfl)); have n5_ := Aside0.mk (hb); have n6_ := Aside0.mk (hi); clear BK186; clear BK192; clear HO195; clear HO208; clear HK; clear HB; clear HI0; have BK186 := n0_; have BK192 := n1_; have HO195 := n2_; have HO208 := n3_; have HK := n4_; have HB := n5_; have HI0 := n6_; clear n0_ n1_ n2_ n3_ n4_ n5_ n6_; (try clear hb); (try clear hb2); (try clear hk); (try clear hi)) | ((with_reducible refine gate_builtin (b := .append) (xs := #[.tmp 20, .tmp 24]) rfl ?_); at_builtin; refine Kd.R_append (Kd.int .i64) w.heap.size rfl (.tmp 20) (.tmp 24) 24 3 (.int .i64 0) 8 rfl Try.underlying24 info3 rfl (by decide) zp71 v194 t193 t209 [.int .i64 t209] (fun k_ => some k_ ≠ (.slice Ao31 y206.length co31 : Value).ownBlock) (fun _ => False) rfl rfl ?aP (fun _ hk => hk.elim) ?aF ?aO (Below.refl _ _) ?aS ?aL ?_; (case aP => exact rfl); (case aF => exact (fun k_ hk => Kd.fresh' (Kd.R_lt zp73) k_ hk)); (case aO => exact (by (with_reducible repeat (first | apply Kd.R_alloc | apply Kd.R_drewN | apply Kd.R_drew)); exact Kd.R_mono HO195.out (fun _ hk => hk.2))); (case aS => exact (keep_size (w := w) (g := g) (row := none) zp4)); (case aL => have := LMc20.out; omega); intro v213 w33 ho hb hg hat; rw [← Ny212.out] at ho; have n0_ := Aside0.mk (IsS74.grown zp51 hg (IsS74.own_ne HI0.out HO195.out (by decide))); have n1_ := Aside0.mk (blk_grown (g := gb186) (o := .cells #[.int .i64 0, .int .i64 0, .int .i64 0] 27 (0, 0)) zp5 hg (Kd.R_ne HO195.out BK186.out (by decide))); have n2_ := Aside0.mk (blk_grown (g := gb192) (o := .cells #[.int .i64 t187, .int .i64 t188, .int .i64 t189] 27 (0, 0)) zp29 hg (Kd.R_ne HO195.out BK192.out (by decide))); have n3_ := Aside0.mk (Kd.R_after (ok := (fun _ => True)) zp73 hg hat); have n4_ := Aside0.mk (below_weaken zp55 HL.out hb); have n5_ := Aside0.mk (KeepBut.trans zp4 (KeepBut.of_grown hg g) (Kd.R_base2 HO195.out)); have n6_ := Aside0.mk (ho); clear HI0; clear BK186; clear BK192; clear HO208; clear HB; clear HK; clear HO195; have HI0 := n0_; have BK186 := n1_; have BK192 := n2_; have HO208 := n3_; have HB := n4_; have HK := n5_; have HO214 := n6_; clear n0_ n1_ n2_ n3_ n4_ n5_ n6_; clear ho hb hg hat; have hcz34_0 : w33.cell? ⟨gb192, 0, none⟩ = some (.int .i64 t187) := (blk_cell BK192.out 0).trans rfl; have hcz34_1 : w33.cell? ⟨gb192, 1, none⟩ = some (.int .i64 t188) := (blk_cell BK192.out 1).trans rfl; have hcz34_2 : w33.cell? ⟨gb192, 2, none⟩ = some (.int .i64 t189) := (blk_cell BK192.out 2).trans rfl; have hfz34_0 := blk_frozen BK192.out 0; have hfz34_1 := blk_frozen BK192.out 1; have hfz34_2 := blk_frozen BK192.out 2; have hnb35 := NB186_0.out; have hnc35 := NB0_186.out; have hcz36_0 : w33.cell? ⟨gb186, 0, none⟩ = some (.int .i64 0) := (blk_cell BK186.out 0).trans rfl; have hcz36_1 : w33.cell? ⟨gb186, 1, none⟩ = some (.int .i64 0) := (blk_cell BK186.out 1).trans rfl; have hcz36_2 : w33.cell? ⟨gb186, 2, none⟩ = some (.int .i64 0) := (blk_cell BK186.out 2).trans rfl; have hfz36_0 := blk_frozen BK186.out 0; have hfz36_1 := blk_frozen BK186.out 1; have hfz36_2 := blk_frozen BK186.out 2))
    refine bodyPost_ret (results_ct rfl _ _ gb186 27 #[.int .i64 t187, .int .i64 t188, .int .i64 t189] (0, 0) _ rfl zp18 Try.underlying27 rfl (by kernel_rfl)) rfl ?_
    exact ⟨_, by first | rfl | (simp [errW_none, errW_some] <;> rfl) | (simp [*, errW_none, errW_some] <;> rfl), by (with_reducible repeat (first | apply Kd.R_alloc | apply Kd.R_drewN | apply Kd.R_drew)); exact Kd.R_mono (Kd.R_far (p := ⟨gb186, 2, none⟩) (Kd.R_far (p := ⟨gb186, 1, none⟩) (Kd.R_far (p := ⟨gb186, 0, none⟩) (Kd.R_types HO214.out BK186.out (by decide)) (fun _ hk => hk.2) (.int .i64 t187)) (fun _ hk => hk.2) (.int .i64 t188)) (fun _ hk => hk.2) (.int .i64 t189)) (fun _ hk => trivial), by repeat (first | (with_reducible first | exact HI0.out | apply IsS74.alloc | apply IsS74.drewN | apply IsS74.drew | apply IsS74.set_1 | apply IsS74.set_2 | refine IsS74.far ?_ NB0_186.out _ | refine IsS74.far ?_ NB0_192.out _) | exact HI0.out), by repeat (first | (with_reducible first | exact HB.out | apply below_alloc | apply pw_below_drewN | apply below_drew1 | refine below_set ?_ (IsS74.ge HI0.out) | refine below_set ?_ GE186.out | refine below_set ?_ GE192.out) | exact HB.out), by repeat (first | (with_reducible first | exact HK.out | apply KeepBut.set_ | apply keep_drewN | apply keep_drew | apply keep_alloc | refine keep_far ?_ GW186.out _ | refine keep_far ?_ GW192.out _) | exact HK.out)⟩
   ·rw [if_neg c20] at H
    exact absurd H zp48
  ·rw [if_neg c18] at H
   have c18b0 : (t198 == 1) = false := beq_eq_false_iff_ne.mpr c18
   have c18b1 : (t198 != 1) = true := bne_iff_ne.mpr c18
   by_cases c37 : t198 = 2
   ·rw [if_pos c37] at H
    have c37b0 : (t198 == 2) = true := beq_iff_eq.mpr c37
    have c37b1 : (t198 != 2) = false := bne_eq_false_iff_eq.mpr c37
    clear c37
    replace H := Option.bind_eq_some_iff.mp H
    obtain ⟨⟨t215, t216, t217⟩, A380, H⟩ := H
    replace H : (spec_l4Both.l0 k t193 (wrap64 (39 + t215)) s0_0 t216 t217 t187 t188 t189) = some (r1, r2, r3, r4, r5, r6) := H
    have A38 := Aside0.mk A380
    clear A380
    have H' := Aside0.mk H
    clear H
    go_enter Try.func56, Try.ntmps56
    go_wp2_with (first | ((with_reducible refine gate_dst (N := 2) rfl ?_); refine box_event ?hg (N := 2) ?hd (cs := #[.int .i64 0, .int .i64 0, .int .i64 0]) (t := 27) ?hr ?_; (case hd => rfl); (case hg => rfl); (case hr => first | (go_simp; done) | (go_simp; rfl)); intro gb186 hg w39 hbox hb; have n0_ := Aside0.mk (IsS74.below zp16 hb); have n1_ := Aside0.mk (KeepBut.trans zp2 (KeepBut.of_below hb g none) (.inl rfl)); have n2_ := Aside0.mk (below_step zp15 hb); have n3_ := Aside0.mk (hbox); have n4_ := Aside0.mk ((zp26 : w.heap.size ≤ gb186)); have n5_ := Aside0.mk ((Nat.le_trans HW0.out (zp26 : w.heap.size ≤ gb186) : w0.heap.size ≤ gb186)); have n6_ := Aside0.mk ((by rw [hg]; exact Nat.ne_of_lt (IsS74.lt (show IsS74 w0 _ g s0_0 s0_1 s0_2 from by repeat (first | (with_reducible first | exact HI0.out | apply IsS74.alloc | apply IsS74.drewN | apply IsS74.drew | apply IsS74.set_1 | apply IsS74.set_2) | exact HI0.out))) : g ≠ gb186)); have n7_ := Aside0.mk ((by rw [hg]; exact Nat.ne_of_gt (IsS74.lt (show IsS74 w0 _ g s0_0 s0_1 s0_2 from by repeat (first | (with_reducible first | exact HI0.out | apply IsS74.alloc | apply IsS74.drewN | apply IsS74.drew | apply IsS74.set_1 | apply IsS74.set_2) | exact HI0.out))) : gb186 ≠ g)); clear HI0; clear HK; clear HB; have HI0 := n0_; have HK := n1_; have HB := n2_; have BK186 := n3_; have GW186 := n4_; have GE186 := n5_; have NB0_186 := n6_; have NB186_0 := n7_; clear n0_ n1_ n2_ n3_ n4_ n5_ n6_ n7_; clear hb hbox hg) | ((with_reducible refine gate_callee (f := 73) rfl ?_); refine goesL_ (some 8) rfl rfl Try.func73 (by kernel_rfl) rfl #[.pointer (some ⟨g, 0, none⟩)] rfl zp1 ?_; (with_reducible refine (spec_l4Measure.calls g s0_0 s0_1 s0_2 t187 t188 t189 t190 t191 w0 _ ?side1 ?side2 A2.out).mono ?_); (case side1 => repeat (first | (with_reducible first | exact HI0.out | apply IsS74.alloc | apply IsS74.drewN | apply IsS74.drew | apply IsS74.set_1 | apply IsS74.set_2 | refine IsS74.far ?_ NB0_186.out _) | exact HI0.out)); (case side2 => repeat (first | (with_reducible first | exact HB.out | apply below_alloc | apply pw_below_drewN | apply below_drew1 | refine below_set ?_ (IsS74.ge HI0.out) | refine below_set ?_ GE186.out) | exact HB.out)); rintro e w40 ⟨rfl, hi, hb, hk⟩; refine ⟨_, rfl, ?_⟩; have n0_ := Aside0.mk (KeepBut.blk hk (g' := gb186) (o := .cells #[.int .i64 0, .int .i64 0, .int .i64 0] 27 (0, 0)) zp5 NB186_0.out zp48); have n1_ := Aside0.mk (KeepBut.trans zp6 hk (.inl rfl)); have n2_ := Aside0.mk (hb); have n3_ := Aside0.mk (hi); clear BK186; clear HK; clear HB; clear HI0; have BK186 := n0_; have HK := n1_; have HB := n2_; have HI0 := n3_; clear n0_ n1_ n2_ n3_; (try clear hb); (try clear hb2); (try clear hk); (try clear hi)) | ((with_reducible refine gate_dst (N := 4) rfl ?_); refine box_event ?hg (N := 4) ?hd (cs := #[.int .i64 0, .int .i64 0, .int .i64 0]) (t := 27) ?hr ?_; (case hd => rfl); (case hg => rfl); (case hr => first | (go_simp; done) | (go_simp; rfl)); intro gb192 hg w41 hbox hb; have n0_ := Aside0.mk (IsS74.below zp33 hb); have n1_ := Aside0.mk (blk_below (g := gb186) (o := .cells #[.int .i64 0, .int .i64 0, .int .i64 0] 27 (0, 0)) zp5 hb); have n2_ := Aside0.mk (KeepBut.trans zp6 (KeepBut.of_below hb g none) (.inl rfl)); have n3_ := Aside0.mk (below_step zp34 hb); have n4_ := Aside0.mk (hbox); have n5_ := Aside0.mk ((zp47 : w.heap.size ≤ gb192)); have n6_ := Aside0.mk ((Nat.le_trans HW0.out (zp47 : w.heap.size ≤ gb192) : w0.heap.size ≤ gb192)); have n7_ := Aside0.mk ((zp53 : gb186 ≠ gb192)); have n8_ := Aside0.mk ((zp54 : gb192 ≠ gb186)); have n9_ := Aside0.mk ((by rw [hg]; exact Nat.ne_of_lt (IsS74.lt (show IsS74 w0 _ g s0_0 t190 t191 from by repeat (first | (with_reducible first | exact HI0.out | apply IsS74.alloc | apply IsS74.drewN | apply IsS74.drew | apply IsS74.set_1 | apply IsS74.set_2 | refine IsS74.far ?_ NB0_186.out _) | exact HI0.out))) : g ≠ gb192)); have n10_ := Aside0.mk ((by rw [hg]; exact Nat.ne_of_gt (IsS74.lt (show IsS74 w0 _ g s0_0 t190 t191 from by repeat (first | (with_reducible first | exact HI0.out | apply IsS74.alloc | apply IsS74.drewN | apply IsS74.drew | apply IsS74.set_1 | apply IsS74.set_2 | refine IsS74.far ?_ NB0_186.out _) | exact HI0.out))) : gb192 ≠ g)); clear HI0; clear BK186; clear HK; clear HB; have HI0 := n0_; have BK186 := n1_; have HK := n2_; have HB := n3_; have BK192 := n4_; have GW192 := n5_; have GE192 := n6_; have NB186_192 := n7_; have NB192_186 := n8_; have NB0_192 := n9_; have NB192_0 := n10_; clear n0_ n1_ n2_ n3_ n4_ n5_ n6_ n7_ n8_ n9_ n10_; clear hb hbox hg; have hnb42 := NB192_186.out; have hnc42 := NB186_192.out; have hnb43 := NB192_0.out; have hnc43 := NB0_192.out; have hcz44_0 : w41.cell? ⟨gb192, 0, none⟩ = some (.int .i64 0) := (blk_cell BK192.out 0).trans rfl; have hcz44_1 : w41.cell? ⟨gb192, 1, none⟩ = some (.int .i64 0) := (blk_cell BK192.out 1).trans rfl; have hcz44_2 : w41.cell? ⟨gb192, 2, none⟩ = some (.int .i64 0) := (blk_cell BK192.out 2).trans rfl; have hfz44_0 := blk_frozen BK192.out 0; have hfz44_1 := blk_frozen BK192.out 1; have hfz44_2 := blk_frozen BK192.out 2) | ((with_reducible refine gate_callee (f := 74) rfl ?_); refine goesL_ (some 10) rfl rfl Try.func74 (by kernel_rfl) rfl #[.pointer (some ⟨g, 0, none⟩)] rfl zp1 ?_; (with_reducible refine (spec_l4Words.calls k g s0_0 t190 t191 t193 t196 t197 w0 _ ?side1 ?side2 A3.out).mono ?_); (case side1 => repeat (first | (with_reducible first | exact HI0.out | apply IsS74.alloc | apply IsS74.drewN | apply IsS74.drew | apply IsS74.set_1 | apply IsS74.set_2 | refine IsS74.far ?_ NB0_186.out _ | refine IsS74.far ?_ NB0_192.out _) | exact HI0.out)); (case side2 => repeat (first | (with_reducible first | exact HB.out | apply below_alloc | apply pw_below_drewN | apply below_drew1 | refine below_set ?_ (IsS74.ge HI0.out) | refine below_set ?_ GE186.out | refine below_set ?_ GE192.out) | exact HB.out)); rintro e w45 ⟨v194, rfl, ho0, hi, hb, hk⟩; refine ⟨_, rfl, ?_⟩; have n0_ := Aside0.mk (KeepBut.blk hk (g' := gb186) (o := .cells #[.int .i64 0, .int .i64 0, .int .i64 0] 27 (0, 0)) zp14 NB186_0.out zp48); have n1_ := Aside0.mk (KeepBut.blk hk (g' := gb192) (o := .cells #[.int .i64 t187, .int .i64 t188, .int .i64 t189] 27 (0, 0)) zp9 NB192_0.out zp48); have n2_ := Aside0.mk (Kd.R_lower ho0 (keep_size (w := w) (g := g) (row := none) zp4)); have n3_ := Aside0.mk (KeepBut.trans zp4 hk (.inl rfl)); have n4_ := Aside0.mk (hb); have n5_ := Aside0.mk (hi); clear BK186; clear BK192; clear HK; clear HB; clear HI0; have BK186 := n0_; have BK192 := n1_; have HO195 := n2_; have HK := n3_; have HB := n4_; have HI0 := n5_; clear n0_ n1_ n2_ n3_ n4_ n5_; (try clear hb); (try clear hb2); (try clear hk); (try clear hi); (try clear ho0)) | ((with_reducible refine gate_callee (f := 61) rfl ?_); refine goesL_ (some 12) rfl rfl Try.func61 (by kernel_rfl) rfl #[.pointer (some ⟨g, 0, none⟩), .int .i64 20] rfl zp1 ?_; (with_reducible refine (spec_l01Below.calls g s0_0 t196 t197 20 t198 t199 t200 w0 _ ?side1 ?side2 A4.out).mono ?_); (case side1 => repeat (first | (with_reducible first | exact HI0.out | apply IsS74.alloc | apply IsS74.drewN | apply IsS74.drew | apply IsS74.set_1 | apply IsS74.set_2 | refine IsS74.far ?_ NB0_186.out _ | refine IsS74.far ?_ NB0_192.out _) | exact HI0.out)); (case side2 => repeat (first | (with_reducible first | exact HB.out | apply below_alloc | apply pw_below_drewN | apply below_drew1 | refine below_set ?_ (IsS74.ge HI0.out) | refine below_set ?_ GE186.out | refine below_set ?_ GE192.out) | exact HB.out)); rintro e w46 ⟨rfl, hi, hb, hk⟩; refine ⟨_, rfl, ?_⟩; have n0_ := Aside0.mk (KeepBut.blk hk (g' := gb186) (o := .cells #[.int .i64 0, .int .i64 0, .int .i64 0] 27 (0, 0)) zp5 NB186_0.out zp48); have n1_ := Aside0.mk (KeepBut.blk hk (g' := gb192) (o := .cells #[.int .i64 t187, .int .i64 t188, .int .i64 t189] 27 (0, 0)) zp29 NB192_0.out zp48); have n2_ := Aside0.mk (Kd.R_mono (Kd.R_keep (IsS74.apart (show IsS74 w0 _ g s0_0 t196 t197 from by repeat (first | (with_reducible first | exact HI0.out | apply IsS74.alloc | apply IsS74.drewN | apply IsS74.drew | apply IsS74.set_1 | apply IsS74.set_2 | refine IsS74.far ?_ NB0_186.out _ | refine IsS74.far ?_ NB0_192.out _) | exact HI0.out)) zp32 (by decide)) hk (fun _ h => h.2)) (fun _ h => h.1)); have n3_ := Aside0.mk (KeepBut.trans zp4 hk (.inl rfl)); have n4_ := Aside0.mk (hb); have n5_ := Aside0.mk (hi); clear BK186; clear BK192; clear HO195; clear HK; clear HB; clear HI0; have BK186 := n0_; have BK192 := n1_; have HO195 := n2_; have HK := n3_; have HB := n4_; have HI0 := n5_; clear n0_ n1_ n2_ n3_ n4_ n5_; (try clear hb); (try clear hb2); (try clear hk); (try clear hi)) | ((with_reducible refine gate_callee (f := 61) rfl ?_); refine goesL_ (some 29) rfl rfl Try.func61 (by kernel_rfl) rfl #[.pointer (some ⟨g, 0, none⟩), .int .i64 3] rfl zp1 ?_; (with_reducible refine (spec_l01Below.calls g s0_0 t199 t200 3 t215 t216 t217 w0 _ ?side1 ?side2 A38.out).mono ?_); (case side1 => repeat (first | (with_reducible first | exact HI0.out | apply IsS74.alloc | apply IsS74.drewN | apply IsS74.drew | apply IsS74.set_1 | apply IsS74.set_2 | refine IsS74.far ?_ NB0_186.out _ | refine IsS74.far ?_ NB0_192.out _) | exact HI0.out)); (case side2 => repeat (first | (with_reducible first | exact HB.out | apply below_alloc | apply pw_below_drewN | apply below_drew1 | refine below_set ?_ (IsS74.ge HI0.out) | refine below_set ?_ GE186.out | refine below_set ?_ GE192.out) | exact HB.out)); rintro e w47 ⟨rfl, hi, hb, hk⟩; refine ⟨_, rfl, ?_⟩; have n0_ := Aside0.mk (KeepBut.blk hk (g' := gb186) (o := .cells #[.int .i64 0, .int .i64 0, .int .i64 0] 27 (0, 0)) zp5 NB186_0.out zp48); have n1_ := Aside0.mk (KeepBut.blk hk (g' := gb192) (o := .cells #[.int .i64 t187, .int .i64 t188, .int .i64 t189] 27 (0, 0)) zp29 NB192_0.out zp48); have n2_ := Aside0.mk (Kd.R_mono (Kd.R_keep (IsS74.apart (show IsS74 w0 _ g s0_0 t199 t200 from by repeat (first | (with_reducible first | exact HI0.out | apply IsS74.alloc | apply IsS74.drewN | apply IsS74.drew | apply IsS74.set_1 | apply IsS74.set_2 | refine IsS74.far ?_ NB0_186.out _ | refine IsS74.far ?_ NB0_192.out _) | exact HI0.out)) zp32 (by decide)) hk (fun _ h => h.2)) (fun _ h => h.1)); have n3_ := Aside0.mk (KeepBut.trans zp4 hk (.inl rfl)); have n4_ := Aside0.mk (hb); have n5_ := Aside0.mk (hi); clear BK186; clear BK192; clear HO195; clear HK; clear HB; clear HI0; have BK186 := n0_; have BK192 := n1_; have HO195 := n2_; have HK := n3_; have HB := n4_; have HI0 := n5_; clear n0_ n1_ n2_ n3_ n4_ n5_; (try clear hb); (try clear hb2); (try clear hk); (try clear hi)))
    go_loopg [5] k (fun kq v5 w' => ∃ (x5_1 : List Int) (x1001_1 : Int) (x1002_1 : Int), Aside0 (spec_l4Both.l0 kq x5_1 (wrap64 (39 + t215)) s0_0 x1001_1 x1002_1 t187 t188 t189 = some (r1, r2, r3, r4, r5, r6)) ∧ Aside0 (kq ≤ k) ∧ Aside0 (Kd.R (Kd.int .i64) 3 w' w.heap.size (fun _ => True) v5 x5_1) ∧ Aside0 (w'.heap[gb186]? = some (.cells #[.int .i64 0, .int .i64 0, .int .i64 0] 27 (0, 0))) ∧ Aside0 (w'.heap[gb192]? = some (.cells #[.int .i64 t187, .int .i64 t188, .int .i64 t189] 27 (0, 0))) ∧ Aside0 (IsS74 w0 w' g s0_0 x1001_1 x1002_1) ∧ Aside0 (KeepBut w w' g none) ∧ Aside0 (Below w0.heap.size w0 w'))
    case atStart => exact ⟨(t193), (t216), (t217), H', ⟨Nat.le_refl _⟩, ⟨by (with_reducible repeat (first | apply Kd.R_alloc | apply Kd.R_drewN | apply Kd.R_drew)); exact HO195.out⟩, ⟨by (with_reducible repeat (first | refine blk_drewN ?_ _ | refine blk_drew ?_ | refine blk_alloc ?_ _)); exact BK186.out⟩, ⟨by (with_reducible repeat (first | refine blk_drewN ?_ _ | refine blk_drew ?_ | refine blk_alloc ?_ _)); exact BK192.out⟩, ⟨by repeat (first | (with_reducible first | exact HI0.out | apply IsS74.alloc | apply IsS74.drewN | apply IsS74.drew | apply IsS74.set_1 | apply IsS74.set_2 | refine IsS74.far ?_ NB0_186.out _ | refine IsS74.far ?_ NB0_192.out _) | exact HI0.out)⟩, ⟨by repeat (first | (with_reducible first | exact HK.out | apply KeepBut.set_ | apply keep_drewN | apply keep_drew | apply keep_alloc | refine keep_far ?_ GW186.out _ | refine keep_far ?_ GW192.out _) | exact HK.out)⟩, ⟨by repeat (first | (with_reducible first | exact HB.out | apply below_alloc | apply pw_below_drewN | apply below_drew1 | refine below_set ?_ (IsS74.ge HI0.out) | refine below_set ?_ GE186.out | refine below_set ?_ GE192.out) | exact HB.out)⟩⟩
    case round =>
     clear H'
     try clear c1
     try clear c2
     try clear p2
     try clear c3
     try clear c4
     try clear c5
     try clear c5b0
     try clear c5b1
     try clear c6
     try clear p6
     try clear c7
     try clear c10
     try clear c11
     try clear c16
     try clear c18
     try clear c18b0
     try clear c18b1
     try clear c20
     try clear c24
     try clear c25
     try clear c35
     try clear c37
     try clear c37b0
     try clear c37b1
     try clear c42
     try clear c43
     try clear hcz12_0
     try clear hcz12_1
     try clear hcz12_2
     try clear hcz17_0
     try clear hcz17_1
     try clear hcz17_2
     try clear hcz26_0
     try clear hcz26_1
     try clear hcz26_2
     try clear hcz34_0
     try clear hcz34_1
     try clear hcz34_2
     try clear hcz36_0
     try clear hcz36_1
     try clear hcz36_2
     try clear hcz44_0
     try clear hcz44_1
     try clear hcz44_2
     try clear hfz12_0
     try clear hfz12_1
     try clear hfz12_2
     try clear hfz17_0
     try clear hfz17_1
     try clear hfz17_2
     try clear hfz26_0
     try clear hfz26_1
     try clear hfz26_2
     try clear hfz34_0
     try clear hfz34_1
     try clear hfz34_2
     try clear hfz36_0
     try clear hfz36_1
     try clear hfz36_2
     try clear hfz44_0
     try clear hfz44_1
     try clear hfz44_2
     obtain ⟨x5_1, x1001_1, x1002_1, HA, HK1, HO_5, BK186, BK192, HI0, HK, HB⟩ := hrel
     cases gk with
     | zero => exact absurd HA.out (by simp [spec_l4Both.l0])
     | succ k1 =>
      have H := HA.out
      clear HA
      simp only [spec_l4Both.l0] at H
      by_cases c48 : (x5_1.length : Int) < (wrap64 (39 + t215))
      ·rw [if_pos c48] at H
       have c48b0 : decide ((x5_1.length : Int) < (wrap64 (39 + t215))) = true := decide_eq_true c48
       clear c48
       replace H := Option.bind_eq_some_iff.mp H
       obtain ⟨⟨t218, t219, t220⟩, A490, H⟩ := H
       replace H : (if x5_1.length < 17592186044416 then (spec_l4Both.l0 k1 (x5_1 ++ [wrap64 (1 + t218)]) (wrap64 (39 + t215)) s0_0 t219 t220 t187 t188 t189) else (none)) = some (r1, r2, r3, r4, r5, r6) := H
       have A49 := Aside0.mk A490
       clear A490
       by_cases c50 : x5_1.length < 17592186044416
       ·rw [if_pos c50] at H
        have LMc50 := Aside0.mk c50
        clear c50
        obtain ⟨y221, hy221⟩ : ∃ y_ : List Int, y_ = (x5_1 ++ [wrap64 (1 + t218)]) := ⟨_, rfl⟩
        replace H : (spec_l4Both.l0 k1 y221 (wrap64 (39 + t215)) s0_0 t219 t220 t187 t188 t189) = some (r1, r2, r3, r4, r5, r6) := by first | (rw [hy221]; with_reducible exact H) | (have H2_ := (Option.bind_some _ _).symm.trans H; rw [hy221]; with_reducible exact H2_) | (have H2_ := (Option.bind_some _ _).symm.trans H; with_reducible exact H2_) | with_reducible exact H | (rw [hy221]; exact H) | exact H
        have Ny221 := Aside0.mk hy221
        clear hy221
        have H' := Aside0.mk H
        clear H
        obtain ⟨Ao51, co51, eo51⟩ := Kd.R_slice HO_5.out
        subst eo51
        go_wp2_with (first | ((with_reducible refine gate_callee (f := 61) rfl ?_); refine goesL_ (some 37) rfl rfl Try.func61 (by kernel_rfl) rfl #[.pointer (some ⟨g, 0, none⟩), .int .i64 4] rfl zp1 ?_; (with_reducible refine (spec_l01Below.calls g s0_0 x1001_1 x1002_1 4 t218 t219 t220 w0 _ ?side1 ?side2 A49.out).mono ?_); (case side1 => repeat (first | (with_reducible first | exact HI0.out | apply IsS74.alloc | apply IsS74.drewN | apply IsS74.drew | apply IsS74.set_1 | apply IsS74.set_2 | refine IsS74.far ?_ NB0_186.out _ | refine IsS74.far ?_ NB0_192.out _) | exact HI0.out)); (case side2 => repeat (first | (with_reducible first | exact HB.out | apply below_alloc | apply pw_below_drewN | apply below_drew1 | refine below_set ?_ (IsS74.ge HI0.out) | refine below_set ?_ GE186.out | refine below_set ?_ GE192.out) | exact HB.out)); rintro e w52 ⟨rfl, hi, hb, hk⟩; refine ⟨_, rfl, ?_⟩; have n0_ := Aside0.mk (Kd.R_mono (Kd.R_keep (IsS74.apart (show IsS74 w0 _ g s0_0 x1001_1 x1002_1 from by repeat (first | (with_reducible first | exact HI0.out | apply IsS74.alloc | apply IsS74.drewN | apply IsS74.drew | apply IsS74.set_1 | apply IsS74.set_2 | refine IsS74.far ?_ NB0_186.out _ | refine IsS74.far ?_ NB0_192.out _) | exact HI0.out)) zp60 (by decide)) hk (fun _ h => h.2)) (fun _ h => h.1)); have n1_ := Aside0.mk (KeepBut.blk hk (g' := gb186) (o := .cells #[.int .i64 0, .int .i64 0, .int .i64 0] 27 (0, 0)) zp5 NB186_0.out zp48); have n2_ := Aside0.mk (KeepBut.blk hk (g' := gb192) (o := .cells #[.int .i64 t187, .int .i64 t188, .int .i64 t189] 27 (0, 0)) zp29 NB192_0.out zp48); have n3_ := Aside0.mk (KeepBut.trans zp4 hk (.inl rfl)); have n4_ := Aside0.mk (hb); have n5_ := Aside0.mk (hi); clear HO_5; clear BK186; clear BK192; clear HK; clear HB; clear HI0; have HO_5 := n0_; have BK186 := n1_; have BK192 := n2_; have HK := n3_; have HB := n4_; have HI0 := n5_; clear n0_ n1_ n2_ n3_ n4_ n5_; (try clear hb); (try clear hb2); (try clear hk); (try clear hi)) | ((with_reducible refine gate_builtin (b := .append) (xs := #[.tmp 35, .tmp 39]) rfl ?_); at_builtin; refine Kd.R_append (Kd.int .i64) w.heap.size rfl (.tmp 35) (.tmp 39) 24 3 (.int .i64 0) 8 rfl Try.underlying24 info3 rfl (by decide) zp71 (.slice Ao51 x5_1.length co51) x5_1 (wrap64 (1 + t218)) [.int .i64 (wrap64 (1 + t218))] (fun _ => True) (fun _ => False) rfl rfl ?aP (fun _ hk => hk.elim) ?aF ?aO (Below.refl _ _) ?aS ?aL ?_; (case aP => exact rfl); (case aF => exact (fun _ _ => trivial)); (case aO => exact zp60); (case aS => exact (keep_size (w := w) (g := g) (row := none) zp4)); (case aL => have := LMc50.out; omega); intro v222 w53 ho hb hg hat; rw [← Ny221.out] at ho; have n0_ := Aside0.mk (blk_grown (g := gb186) (o := .cells #[.int .i64 0, .int .i64 0, .int .i64 0] 27 (0, 0)) zp5 hg (Kd.R_ne HO_5.out BK186.out (by decide))); have n1_ := Aside0.mk (blk_grown (g := gb192) (o := .cells #[.int .i64 t187, .int .i64 t188, .int .i64 t189] 27 (0, 0)) zp29 hg (Kd.R_ne HO_5.out BK192.out (by decide))); have n2_ := Aside0.mk (IsS74.grown zp51 hg (IsS74.own_ne HI0.out HO_5.out (by decide))); have n3_ := Aside0.mk (below_weaken zp55 HL.out hb); have n4_ := Aside0.mk (KeepBut.trans zp4 (KeepBut.of_grown hg g) (Kd.R_base2 HO_5.out)); have n5_ := Aside0.mk (ho); clear BK186; clear BK192; clear HI0; clear HB; clear HK; clear HO_5; have BK186 := n0_; have BK192 := n1_; have HI0 := n2_; have HB := n3_; have HK := n4_; have HO223 := n5_; clear n0_ n1_ n2_ n3_ n4_ n5_; clear ho hb hg hat))
        go_roundg k1
        case measure => have := HK1.out; omega
        case rel => exact ⟨(y221), (t219), (t220), H', ⟨by have := HK1.out; omega⟩, ⟨by (with_reducible repeat (first | apply Kd.R_alloc | apply Kd.R_drewN | apply Kd.R_drew)); exact HO223.out⟩, ⟨by (with_reducible repeat (first | refine blk_drewN ?_ _ | refine blk_drew ?_ | refine blk_alloc ?_ _)); exact BK186.out⟩, ⟨by (with_reducible repeat (first | refine blk_drewN ?_ _ | refine blk_drew ?_ | refine blk_alloc ?_ _)); exact BK192.out⟩, ⟨by repeat (first | (with_reducible first | exact HI0.out | apply IsS74.alloc | apply IsS74.drewN | apply IsS74.drew | apply IsS74.set_1 | apply IsS74.set_2 | refine IsS74.far ?_ NB0_186.out _ | refine IsS74.far ?_ NB0_192.out _) | exact HI0.out)⟩, ⟨by repeat (first | (with_reducible first | exact HK.out | apply KeepBut.set_ | apply keep_drewN | apply keep_drew | apply keep_alloc | refine keep_far ?_ GW186.out _ | refine keep_far ?_ GW192.out _) | exact HK.out)⟩, ⟨by repeat (first | (with_reducible first | exact HB.out | apply below_alloc | apply pw_below_drewN | apply below_drew1 | refine below_set ?_ (IsS74.ge HI0.out) | refine below_set ?_ GE186.out | refine below_set ?_ GE192.out) | exact HB.out)⟩⟩
       ·rw [if_neg c50] at H
        exact absurd H zp48
      ·rw [if_neg c48] at H
       have c48b0 : decide ((x5_1.length : Int) < (wrap64 (39 + t215))) = false := decide_eq_false c48
       clear c48
       simp only [Option.some.injEq, Prod.mk.injEq] at H
       obtain ⟨rfl, rfl, rfl, rfl, rfl, rfl⟩ := H
       obtain ⟨Ao54, co54, eo54⟩ := Kd.R_slice HO_5.out
       subst eo54
       have hnb55 := NB192_186.out
       have hnc55 := NB186_192.out
       have hnb56 := NB192_0.out
       have hnc56 := NB0_192.out
       have hcz57_0 : wr.cell? ⟨gb192, 0, none⟩ = some (.int .i64 t187) := (blk_cell BK192.out 0).trans rfl
       have hcz57_1 : wr.cell? ⟨gb192, 1, none⟩ = some (.int .i64 t188) := (blk_cell BK192.out 1).trans rfl
       have hcz57_2 : wr.cell? ⟨gb192, 2, none⟩ = some (.int .i64 t189) := (blk_cell BK192.out 2).trans rfl
       have hfz57_0 := blk_frozen BK192.out 0
       have hfz57_1 := blk_frozen BK192.out 1
       have hfz57_2 := blk_frozen BK192.out 2
       have hnb58 := NB186_0.out
       have hnc58 := NB0_186.out
       have hcz59_0 : wr.cell? ⟨gb186, 0, none⟩ = some (.int .i64 0) := (blk_cell BK186.out 0).trans rfl
       have hcz59_1 : wr.cell? ⟨gb186, 1, none⟩ = some (.int .i64 0) := (blk_cell BK186.out 1).trans rfl
       have hcz59_2 : wr.cell? ⟨gb186, 2, none⟩ = some (.int .i64 0) := (blk_cell BK186.out 2).trans rfl
       have hfz59_0 := blk_frozen BK186.out 0
       have hfz59_1 := blk_frozen BK186.out 1
       have hfz59_2 := blk_frozen BK186.out 2
       go_wp2
       refine bodyPost_ret (results_ct rfl _ _ gb186 27 #[.int .i64 t187, .int .i64 t188, .int .i64 t189] (0, 0) _ rfl zp18 Try.underlying27 rfl (by kernel_rfl)) rfl ?_
       exact ⟨_, by first | rfl | (simp [errW_none, errW_some] <;> rfl) | (simp [*, errW_none, errW_some] <;> rfl), by (with_reducible repeat (first | apply Kd.R_alloc | apply Kd.R_drewN | apply Kd.R_drew)); exact Kd.R_mono (Kd.R_far (p := ⟨gb186, 2, none⟩) (Kd.R_far (p := ⟨gb186, 1, none⟩) (Kd.R_far (p := ⟨gb186, 0, none⟩) (Kd.R_types HO_5.out BK186.out (by decide)) (fun _ hk => hk.2) (.int .i64 t187)) (fun _ hk => hk.2) (.int .i64 t188)) (fun _ hk => hk.2) (.int .i64 t189)) (fun _ hk => trivial), by repeat (first | (with_reducible first | exact HI0.out | apply IsS74.alloc | apply IsS74.drewN | apply IsS74.drew | apply IsS74.set_1 | apply IsS74.set_2 | refine IsS74.far ?_ NB0_186.out _ | refine IsS74.far ?_ NB0_192.out _) | exact HI0.out), by repeat (first | (with_reducible first | exact HB.out | apply below_alloc | apply pw_below_drewN | apply below_drew1 | refine below_set ?_ (IsS74.ge HI0.out) | refine below_set ?_ GE186.out | refine below_set ?_ GE192.out) | exact HB.out), by repeat (first | (with_reducible first | exact HK.out | apply KeepBut.set_ | apply keep_drewN | apply keep_drew | apply keep_alloc | refine keep_far ?_ GW186.out _ | refine keep_far ?_ GW192.out _) | exact HK.out)⟩
   ·rw [if_neg c37] at H
    have c37b0 : (t198 == 2) = false := beq_eq_false_iff_ne.mpr c37
    have c37b1 : (t198 != 2) = true := bne_iff_ne.mpr c37
    by_cases c60 : t198 = 3
    ·rw [if_pos c60] at H
     have c60b0 : (t198 == 3) = true := beq_iff_eq.mpr c60
     have c60b1 : (t198 != 3) = false := bne_eq_false_iff_eq.mpr c60
     clear c60
     simp only [Option.some.injEq, Prod.mk.injEq] at H
     obtain ⟨rfl, rfl, rfl, rfl, rfl, rfl⟩ := H
     go_enter Try.func56, Try.ntmps56
     go_wp2_with (first | ((with_reducible refine gate_dst (N := 2) rfl ?_); refine box_event ?hg (N := 2) ?hd (cs := #[.int .i64 0, .int .i64 0, .int .i64 0]) (t := 27) ?hr ?_; (case hd => rfl); (case hg => rfl); (case hr => first | (go_simp; done) | (go_simp; rfl)); intro gb186 hg w61 hbox hb; have n0_ := Aside0.mk (IsS74.below zp16 hb); have n1_ := Aside0.mk (KeepBut.trans zp2 (KeepBut.of_below hb g none) (.inl rfl)); have n2_ := Aside0.mk (below_step zp15 hb); have n3_ := Aside0.mk (hbox); have n4_ := Aside0.mk ((zp26 : w.heap.size ≤ gb186)); have n5_ := Aside0.mk ((Nat.le_trans HW0.out (zp26 : w.heap.size ≤ gb186) : w0.heap.size ≤ gb186)); have n6_ := Aside0.mk ((by rw [hg]; exact Nat.ne_of_lt (IsS74.lt (show IsS74 w0 _ g s0_0 s0_1 s0_2 from by repeat (first | (with_reducible first | exact HI0.out | apply IsS74.alloc | apply IsS74.drewN | apply IsS74.drew | apply IsS74.set_1 | apply IsS74.set_2) | exact HI0.out))) : g ≠ gb186)); have n7_ := Aside0.mk ((by rw [hg]; exact Nat.ne_of_gt (IsS74.lt (show IsS74 w0 _ g s0_0 s0_1 s0_2 from by repeat (first | (with_reducible first | exact HI0.out | apply IsS74.alloc | apply IsS74.drewN | apply IsS74.drew | apply IsS74.set_1 | apply IsS74.set_2) | exact HI0.out))) : gb186 ≠ g)); clear HI0; clear HK; clear HB; have HI0 := n0_; have HK := n1_; have HB := n2_; have BK186 := n3_; have GW186 := n4_; have GE186 := n5_; have NB0_186 := n6_; have NB186_0 := n7_; clear n0_ n1_ n2_ n3_ n4_ n5_ n6_ n7_; clear hb hbox hg) | ((with_reducible refine gate_callee (f := 73) rfl ?_); refine goesL_ (some 8) rfl rfl Try.func73 (by kernel_rfl) rfl #[.pointer (some ⟨g, 0, none⟩)] rfl zp1 ?_; (with_reducible refine (spec_l4Measure.calls g s0_0 s0_1 s0_2 t187 t188 t189 t190 t191 w0 _ ?side1 ?side2 A2.out).mono ?_); (case side1 => repeat (first | (with_reducible first | exact HI0.out | apply IsS74.alloc | apply IsS74.drewN | apply IsS74.drew | apply IsS74.set_1 | apply IsS74.set_2 | refine IsS74.far ?_ NB0_186.out _) | exact HI0.out)); (case side2 => repeat (first | (with_reducible first | exact HB.out | apply below_alloc | apply pw_below_drewN | apply below_drew1 | refine below_set ?_ (IsS74.ge HI0.out) | refine below_set ?_ GE186.out) | exact HB.out)); rintro e w62 ⟨rfl, hi, hb, hk⟩; refine ⟨_, rfl, ?_⟩; have n0_ := Aside0.mk (KeepBut.blk hk (g' := gb186) (o := .cells #[.int .i64 0, .int .i64 0, .int .i64 0] 27 (0, 0)) zp5 NB186_0.out zp48); have n1_ := Aside0.mk (KeepBut.trans zp6 hk (.inl rfl)); have n2_ := Aside0.mk (hb); have n3_ := Aside0.mk (hi); clear BK186; clear HK; clear HB; clear HI0; have BK186 := n0_; have HK := n1_; have HB := n2_; have HI0 := n3_; clear n0_ n1_ n2_ n3_; (try clear hb); (try clear hb2); (try clear hk); (try clear hi)) | ((with_reducible refine gate_dst (N := 4) rfl ?_); refine box_event ?hg (N := 4) ?hd (cs := #[.int .i64 0, .int .i64 0, .int .i64 0]) (t := 27) ?hr ?_; (case hd => rfl); (case hg => rfl); (case hr => first | (go_simp; done) | (go_simp; rfl)); intro gb192 hg w63 hbox hb; have n0_ := Aside0.mk (IsS74.below zp33 hb); have n1_ := Aside0.mk (blk_below (g := gb186) (o := .cells #[.int .i64 0, .int .i64 0, .int .i64 0] 27 (0, 0)) zp5 hb); have n2_ := Aside0.mk (KeepBut.trans zp6 (KeepBut.of_below hb g none) (.inl rfl)); have n3_ := Aside0.mk (below_step zp34 hb); have n4_ := Aside0.mk (hbox); have n5_ := Aside0.mk ((zp47 : w.heap.size ≤ gb192)); have n6_ := Aside0.mk ((Nat.le_trans HW0.out (zp47 : w.heap.size ≤ gb192) : w0.heap.size ≤ gb192)); have n7_ := Aside0.mk ((zp53 : gb186 ≠ gb192)); have n8_ := Aside0.mk ((zp54 : gb192 ≠ gb186)); have n9_ := Aside0.mk ((by rw [hg]; exact Nat.ne_of_lt (IsS74.lt (show IsS74 w0 _ g s0_0 t190 t191 from by repeat (first | (with_reducible first | exact HI0.out | apply IsS74.alloc | apply IsS74.drewN | apply IsS74.drew | apply IsS74.set_1 | apply IsS74.set_2 | refine IsS74.far ?_ NB0_186.out _) | exact HI0.out))) : g ≠ gb192)); have n10_ := Aside0.mk ((by rw [hg]; exact Nat.ne_of_gt (IsS74.lt (show IsS74 w0 _ g s0_0 t190 t191 from by repeat (first | (with_reducible first | exact HI0.out | apply IsS74.alloc | apply IsS74.drewN | apply IsS74.drew | apply IsS74.set_1 | apply IsS74.set_2 | refine IsS74.far ?_ NB0_186.out _) | exact HI0.out))) : gb192 ≠ g)); clear HI0; clear BK186; clear HK; clear HB; have HI0 := n0_; have BK186 := n1_; have HK := n2_; have HB := n3_; have BK192 := n4_; have GW192 := n5_; have GE192 := n6_; have NB186_192 := n7_; have NB192_186 := n8_; have NB0_192 := n9_; have NB192_0 := n10_; clear n0_ n1_ n2_ n3_ n4_ n5_ n6_ n7_ n8_ n9_ n10_; clear hb hbox hg; have hnb64 := NB192_186.out; have hnc64 := NB186_192.out; have hnb65 := NB192_0.out; have hnc65 := NB0_192.out; have hcz66_0 : w63.cell? ⟨gb192, 0, none⟩ = some (.int .i64 0) := (blk_cell BK192.out 0).trans rfl; have hcz66_1 : w63.cell? ⟨gb192, 1, none⟩ = some (.int .i64 0) := (blk_cell BK192.out 1).trans rfl; have hcz66_2 : w63.cell? ⟨gb192, 2, none⟩ = some (.int .i64 0) := (blk_cell BK192.out 2).trans rfl; have hfz66_0 := blk_frozen BK192.out 0; have hfz66_1 := blk_frozen BK192.out 1; have hfz66_2 := blk_frozen BK192.out 2) | ((with_reducible refine gate_callee (f := 74) rfl ?_); refine goesL_ (some 10) rfl rfl Try.func74 (by kernel_rfl) rfl #[.pointer (some ⟨g, 0, none⟩)] rfl zp1 ?_; (with_reducible refine (spec_l4Words.calls k g s0_0 t190 t191 t193 t196 t197 w0 _ ?side1 ?side2 A3.out).mono ?_); (case side1 => repeat (first | (with_reducible first | exact HI0.out | apply IsS74.alloc | apply IsS74.drewN | apply IsS74.drew | apply IsS74.set_1 | apply IsS74.set_2 | refine IsS74.far ?_ NB0_186.out _ | refine IsS74.far ?_ NB0_192.out _) | exact HI0.out)); (case side2 => repeat (first | (with_reducible first | exact HB.out | apply below_alloc | apply pw_below_drewN | apply below_drew1 | refine below_set ?_ (IsS74.ge HI0.out) | refine below_set ?_ GE186.out | refine below_set ?_ GE192.out) | exact HB.out)); rintro e w67 ⟨v194, rfl, ho0, hi, hb, hk⟩; refine ⟨_, rfl, ?_⟩; have n0_ := Aside0.mk (KeepBut.blk hk (g' := gb186) (o := .cells #[.int .i64 0, .int .i64 0, .int .i64 0] 27 (0, 0)) zp14 NB186_0.out zp48); have n1_ := Aside0.mk (KeepBut.blk hk (g' := gb192) (o := .cells #[.int .i64 t187, .int .i64 t188, .int .i64 t189] 27 (0, 0)) zp9 NB192_0.out zp48); have n2_ := Aside0.mk (Kd.R_lower ho0 (keep_size (w := w) (g := g) (row := none) zp4)); have n3_ := Aside0.mk (KeepBut.trans zp4 hk (.inl rfl)); have n4_ := Aside0.mk (hb); have n5_ := Aside0.mk (hi); clear BK186; clear BK192; clear HK; clear HB; clear HI0; have BK186 := n0_; have BK192 := n1_; have HO195 := n2_; have HK := n3_; have HB := n4_; have HI0 := n5_; clear n0_ n1_ n2_ n3_ n4_ n5_; (try clear hb); (try clear hb2); (try clear hk); (try clear hi); (try clear ho0)) | ((with_reducible refine gate_callee (f := 61) rfl ?_); refine goesL_ (some 12) rfl rfl Try.func61 (by kernel_rfl) rfl #[.pointer (some ⟨g, 0, none⟩), .int .i64 20] rfl zp1 ?_; (with_reducible refine (spec_l01Below.calls g s0_0 t196 t197 20 t198 t199 t200 w0 _ ?side1 ?side2 A4.out).mono ?_); (case side1 => repeat (first | (with_reducible first | exact HI0.out | apply IsS74.alloc | apply IsS74.drewN | apply IsS74.drew | apply IsS74.set_1 | apply IsS74.set_2 | refine IsS74.far ?_ NB0_186.out _ | refine IsS74.far ?_ NB0_192.out _) | exact HI0.out)); (case side2 => repeat (first | (with_reducible first | exact HB.out | apply below_alloc | apply pw_below_drewN | apply below_drew1 | refine below_set ?_ (IsS74.ge HI0.out) | refine below_set ?_ GE186.out | refine below_set ?_ GE192.out) | exact HB.out)); rintro e w68 ⟨rfl, hi, hb, hk⟩; refine ⟨_, rfl, ?_⟩; have n0_ := Aside0.mk (KeepBut.blk hk (g' := gb186) (o := .cells #[.int .i64 0, .int .i64 0, .int .i64 0] 27 (0, 0)) zp5 NB186_0.out zp48); have n1_ := Aside0.mk (KeepBut.blk hk (g' := gb192) (o := .cells #[.int .i64 t187, .int .i64 t188, .int .i64 t189] 27 (0, 0)) zp29 NB192_0.out zp48); have n2_ := Aside0.mk (Kd.R_mono (Kd.R_keep (IsS74.apart (show IsS74 w0 _ g s0_0 t196 t197 from by repeat (first | (with_reducible first | exact HI0.out | apply IsS74.alloc | apply IsS74.drewN | apply IsS74.drew | apply IsS74.set_1 | apply IsS74.set_2 | refine IsS74.far ?_ NB0_186.out _ | refine IsS74.far ?_ NB0_192.out _) | exact HI0.out)) zp32 (by decide)) hk (fun _ h => h.2)) (fun _ h => h.1)); have n3_ := Aside0.mk (KeepBut.trans zp4 hk (.inl rfl)); have n4_ := Aside0.mk (hb); have n5_ := Aside0.mk (hi); clear BK186; clear BK192; clear HO195; clear HK; clear HB; clear HI0; have BK186 := n0_; have BK192 := n1_; have HO195 := n2_; have HK := n3_; have HB := n4_; have HI0 := n5_; clear n0_ n1_ n2_ n3_ n4_ n5_; (try clear hb); (try clear hb2); (try clear hk); (try clear hi); have hcz69_0 : w68.cell? ⟨gb192, 0, none⟩ = some (.int .i64 t187) := (blk_cell BK192.out 0).trans rfl; have hcz69_1 : w68.cell? ⟨gb192, 1, none⟩ = some (.int .i64 t188) := (blk_cell BK192.out 1).trans rfl; have hcz69_2 : w68.cell? ⟨gb192, 2, none⟩ = some (.int .i64 t189) := (blk_cell BK192.out 2).trans rfl; have hfz69_0 := blk_frozen BK192.out 0; have hfz69_1 := blk_frozen BK192.out 1; have hfz69_2 := blk_frozen BK192.out 2; have hnb70 := NB186_0.out; have hnc70 := NB0_186.out; have hcz71_0 : w68.cell? ⟨gb186, 0, none⟩ = some (.int .i64 0) := (blk_cell BK186.out 0).trans rfl; have hcz71_1 : w68.cell? ⟨gb186, 1, none⟩ = some (.int .i64 0) := (blk_cell BK186.out 1).trans rfl; have hcz71_2 : w68.cell? ⟨gb186, 2, none⟩ = some (.int .i64 0) := (blk_cell BK186.out 2).trans rfl; have hfz71_0 := blk_frozen BK186.out 0; have hfz71_1 := blk_frozen BK186.out 1; have hfz71_2 := blk_frozen BK186.out 2))
     refine bodyPost_ret (results_ct rfl _ _ gb186 27 #[.int .i64 t187, .int .i64 t188, .int .i64 t189] (0, 0) _ rfl zp18 Try.underlying27 rfl (by kernel_rfl)) rfl ?_
     exact ⟨_, by first | rfl | (simp [errW_none, errW_some] <;> rfl) | (simp [*, errW_none, errW_some] <;> rfl), by first | exact Kd.R_nil _ _ _ _ _ | exact Kd.N_nil _ _ _ _ _ | exact Kd.V_nil _ _ _ _ _ | exact Kd.Q_nil _ _ _ _ _ | exact Kd.S_nil _ _ _ _ _, by repeat (first | (with_reducible first | exact HI0.out | apply IsS74.alloc | apply IsS74.drewN | apply IsS74.drew | apply IsS74.set_1 | apply IsS74.set_2 | refine IsS74.far ?_ NB0_186.out _ | refine IsS74.far ?_ NB0_192.out _) | exact HI0.out), by repeat (first | (with_reducible first | exact HB.out | apply below_alloc | apply pw_below_drewN | apply below_drew1 | refine below_set ?_ (IsS74.ge HI0.out) | refine below_set ?_ GE186.out | refine below_set ?_ GE192.out) | exact HB.out), by repeat (first | (with_reducible first | exact HK.out | apply KeepBut.set_ | apply keep_drewN | apply keep_drew | apply keep_alloc | refine keep_far ?_ GW186.out _ | refine keep_far ?_ GW192.out _) | exact HK.out)⟩
    ·rw [if_neg c60] at H
     have c60b0 : (t198 == 3) = false := beq_eq_false_iff_ne.mpr c60
     have c60b1 : (t198 != 3) = true := bne_iff_ne.mpr c60
     simp only [Option.some.injEq, Prod.mk.injEq] at H
     obtain ⟨rfl, rfl, rfl, rfl, rfl, rfl⟩ := H
     go_enter Try.func56, Try.ntmps56
     go_wp2_with (first | ((with_reducible refine gate_dst (N := 2) rfl ?_); refine box_event ?hg (N := 2) ?hd (cs := #[.int .i64 0, .int .i64 0, .int .i64 0]) (t := 27) ?hr ?_; (case hd => rfl); (case hg => rfl); (case hr => first | (go_simp; done) | (go_simp; rfl)); intro gb186 hg w72 hbox hb; have n0_ := Aside0.mk (IsS74.below zp16 hb); have n1_ := Aside0.mk (KeepBut.trans zp2 (KeepBut.of_below hb g none) (.inl rfl)); have n2_ := Aside0.mk (below_step zp15 hb); have n3_ := Aside0.mk (hbox); have n4_ := Aside0.mk ((zp26 : w.heap.size ≤ gb186)); have n5_ := Aside0.mk ((Nat.le_trans HW0.out (zp26 : w.heap.size ≤ gb186) : w0.heap.size ≤ gb186)); have n6_ := Aside0.mk ((by rw [hg]; exact Nat.ne_of_lt (IsS74.lt (show IsS74 w0 _ g s0_0 s0_1 s0_2 from by repeat (first | (with_reducible first | exact HI0.out | apply IsS74.alloc | apply IsS74.drewN | apply IsS74.drew | apply IsS74.set_1 | apply IsS74.set_2) | exact HI0.out))) : g ≠ gb186)); have n7_ := Aside0.mk ((by rw [hg]; exact Nat.ne_of_gt (IsS74.lt (show IsS74 w0 _ g s0_0 s0_1 s0_2 from by repeat (first | (with_reducible first | exact HI0.out | apply IsS74.alloc | apply IsS74.drewN | apply IsS74.drew | apply IsS74.set_1 | apply IsS74.set_2) | exact HI0.out))) : gb186 ≠ g)); clear HI0; clear HK; clear HB; have HI0 := n0_; have HK := n1_; have HB := n2_; have BK186 := n3_; have GW186 := n4_; have GE186 := n5_; have NB0_186 := n6_; have NB186_0 := n7_; clear n0_ n1_ n2_ n3_ n4_ n5_ n6_ n7_; clear hb hbox hg) | ((with_reducible refine gate_callee (f := 73) rfl ?_); refine goesL_ (some 8) rfl rfl Try.func73 (by kernel_rfl) rfl #[.pointer (some ⟨g, 0, none⟩)] rfl zp1 ?_; (with_reducible refine (spec_l4Measure.calls g s0_0 s0_1 s0_2 t187 t188 t189 t190 t191 w0 _ ?side1 ?side2 A2.out).mono ?_); (case side1 => repeat (first | (with_reducible first | exact HI0.out | apply IsS74.alloc | apply IsS74.drewN | apply IsS74.drew | apply IsS74.set_1 | apply IsS74.set_2 | refine IsS74.far ?_ NB0_186.out _) | exact HI0.out)); (case side2 => repeat (first | (with_reducible first | exact HB.out | apply below_alloc | apply pw_below_drewN | apply below_drew1 | refine below_set ?_ (IsS74.ge HI0.out) | refine below_set ?_ GE186.out) | exact HB.out)); rintro e w73 ⟨rfl, hi, hb, hk⟩; refine ⟨_, rfl, ?_⟩; have n0_ := Aside0.mk (KeepBut.blk hk (g' := gb186) (o := .cells #[.int .i64 0, .int .i64 0, .int .i64 0] 27 (0, 0)) zp5 NB186_0.out zp48); have n1_ := Aside0.mk (KeepBut.trans zp6 hk (.inl rfl)); have n2_ := Aside0.mk (hb); have n3_ := Aside0.mk (hi); clear BK186; clear HK; clear HB; clear HI0; have BK186 := n0_; have HK := n1_; have HB := n2_; have HI0 := n3_; clear n0_ n1_ n2_ n3_; (try clear hb); (try clear hb2); (try clear hk); (try clear hi)) | ((with_reducible refine gate_dst (N := 4) rfl ?_); refine box_event ?hg (N := 4) ?hd (cs := #[.int .i64 0, .int .i64 0, .int .i64 0]) (t := 27) ?hr ?_; (case hd => rfl); (case hg => rfl); (case hr => first | (go_simp; done) | (go_simp; rfl)); intro gb192 hg w74 hbox hb; have n0_ := Aside0.mk (IsS74.below zp33 hb); have n1_ := Aside0.mk (blk_below (g := gb186) (o := .cells #[.int .i64 0, .int .i64 0, .int .i64 0] 27 (0, 0)) zp5 hb); have n2_ := Aside0.mk (KeepBut.trans zp6 (KeepBut.of_below hb g none) (.inl rfl)); have n3_ := Aside0.mk (below_step zp34 hb); have n4_ := Aside0.mk (hbox); have n5_ := Aside0.mk ((zp47 : w.heap.size ≤ gb192)); have n6_ := Aside0.mk ((Nat.le_trans HW0.out (zp47 : w.heap.size ≤ gb192) : w0.heap.size ≤ gb192)); have n7_ := Aside0.mk ((zp53 : gb186 ≠ gb192)); have n8_ := Aside0.mk ((zp54 : gb192 ≠ gb186)); have n9_ := Aside0.mk ((by rw [hg]; exact Nat.ne_of_lt (IsS74.lt (show IsS74 w0 _ g s0_0 t190 t191 from by repeat (first | (with_reducible first | exact HI0.out | apply IsS74.alloc | apply IsS74.drewN | apply IsS74.drew | apply IsS74.set_1 | apply IsS74.set_2 | refine IsS74.far ?_ NB0_186.out _) | exact HI0.out))) : g ≠ gb192)); have n10_ := Aside0.mk ((by rw [hg]; exact Nat.ne_of_gt (IsS74.lt (show IsS74 w0 _ g s0_0 t190 t191 from by repeat (first | (with_reducible first | exact HI0.out | apply IsS74.alloc | apply IsS74.drewN | apply IsS74.drew | apply IsS74.set_1 | apply IsS74.set_2 | refine IsS74.far ?_ NB0_186.out _) | exact HI0.out))) : gb192 ≠ g)); clear HI0; clear BK186; clear HK; clear HB; have HI0 := n0_; have BK186 := n1_; have HK := n2_; have HB := n3_; have BK192 := n4_; have GW192 := n5_; have GE192 := n6_; have NB186_192 := n7_; have NB192_186 := n8_; have NB0_192 := n9_; have NB192_0 := n10_; clear n0_ n1_ n2_ n3_ n4_ n5_ n6_ n7_ n8_ n9_ n10_; clear hb hbox hg; have hnb75 := NB192_186.out; have hnc75 := NB186_192.out; have hnb76 := NB192_0.out; have hnc76 := NB0_192.out; have hcz77_0 : w74.cell? ⟨gb192, 0, none⟩ = some (.int .i64 0) := (blk_cell BK192.out 0).trans rfl; have hcz77_1 : w74.cell? ⟨gb192, 1, none⟩ = some (.int .i64 0) := (blk_cell BK192.out 1).trans rfl; have hcz77_2 : w74.cell? ⟨gb192, 2, none⟩ = some (.int .i64 0) := (blk_cell BK192.out 2).trans rfl; have hfz77_0 := blk_frozen BK192.out 0; have hfz77_1 := blk_frozen BK192.out 1; have hfz77_2 := blk_frozen BK192.out 2) | ((with_reducible refine gate_callee (f := 74) rfl ?_); refine goesL_ (some 10) rfl rfl Try.func74 (by kernel_rfl) rfl #[.pointer (some ⟨g, 0, none⟩)] rfl zp1 ?_; (with_reducible refine (spec_l4Words.calls k g s0_0 t190 t191 t193 t196 t197 w0 _ ?side1 ?side2 A3.out).mono ?_); (case side1 => repeat (first | (with_reducible first | exact HI0.out | apply IsS74.alloc | apply IsS74.drewN | apply IsS74.drew | apply IsS74.set_1 | apply IsS74.set_2 | refine IsS74.far ?_ NB0_186.out _ | refine IsS74.far ?_ NB0_192.out _) | exact HI0.out)); (case side2 => repeat (first | (with_reducible first | exact HB.out | apply below_alloc | apply pw_below_drewN | apply below_drew1 | refine below_set ?_ (IsS74.ge HI0.out) | refine below_set ?_ GE186.out | refine below_set ?_ GE192.out) | exact HB.out)); rintro e w78 ⟨v194, rfl, ho0, hi, hb, hk⟩; refine ⟨_, rfl, ?_⟩; have n0_ := Aside0.mk (KeepBut.blk hk (g' := gb186) (o := .cells #[.int .i64 0, .int .i64 0, .int .i64 0] 27 (0, 0)) zp14 NB186_0.out zp48); have n1_ := Aside0.mk (KeepBut.blk hk (g' := gb192) (o := .cells #[.int .i64 t187, .int .i64 t188, .int .i64 t189] 27 (0, 0)) zp9 NB192_0.out zp48); have n2_ := Aside0.mk (Kd.R_lower ho0 (keep_size (w := w) (g := g) (row := none) zp4)); have n3_ := Aside0.mk (KeepBut.trans zp4 hk (.inl rfl)); have n4_ := Aside0.mk (hb); have n5_ := Aside0.mk (hi); clear BK186; clear BK192; clear HK; clear HB; clear HI0; have BK186 := n0_; have BK192 := n1_; have HO195 := n2_; have HK := n3_; have HB := n4_; have HI0 := n5_; clear n0_ n1_ n2_ n3_ n4_ n5_; (try clear hb); (try clear hb2); (try clear hk); (try clear hi); (try clear ho0)) | ((with_reducible refine gate_callee (f := 61) rfl ?_); refine goesL_ (some 12) rfl rfl Try.func61 (by kernel_rfl) rfl #[.pointer (some ⟨g, 0, none⟩), .int .i64 20] rfl zp1 ?_; (with_reducible refine (spec_l01Below.calls g s0_0 t196 t197 20 t198 t199 t200 w0 _ ?side1 ?side2 A4.out).mono ?_); (case side1 => repeat (first | (with_reducible first | exact HI0.out | apply IsS74.alloc | apply IsS74.drewN | apply IsS74.drew | apply IsS74.set_1 | apply IsS74.set_2 | refine IsS74.far ?_ NB0_186.out _ | refine IsS74.far ?_ NB0_192.out _) | exact HI0.out)); (case side2 => repeat (first | (with_reducible first | exact HB.out | apply below_alloc | apply pw_below_drewN | apply below_drew1 | refine below_set ?_ (IsS74.ge HI0.out) | refine below_set ?_ GE186.out | refine below_set ?_ GE192.out) | exact HB.out)); rintro e w79 ⟨rfl, hi, hb, hk⟩; refine ⟨_, rfl, ?_⟩; have n0_ := Aside0.mk (KeepBut.blk hk (g' := gb186) (o := .cells #[.int .i64 0, .int .i64 0, .int .i64 0] 27 (0, 0)) zp5 NB186_0.out zp48); have n1_ := Aside0.mk (KeepBut.blk hk (g' := gb192) (o := .cells #[.int .i64 t187, .int .i64 t188, .int .i64 t189] 27 (0, 0)) zp29 NB192_0.out zp48); have n2_ := Aside0.mk (Kd.R_mono (Kd.R_keep (IsS74.apart (show IsS74 w0 _ g s0_0 t196 t197 from by repeat (first | (with_reducible first | exact HI0.out | apply IsS74.alloc | apply IsS74.drewN | apply IsS74.drew | apply IsS74.set_1 | apply IsS74.set_2 | refine IsS74.far ?_ NB0_186.out _ | refine IsS74.far ?_ NB0_192.out _) | exact HI0.out)) zp32 (by decide)) hk (fun _ h => h.2)) (fun _ h => h.1)); have n3_ := Aside0.mk (KeepBut.trans zp4 hk (.inl rfl)); have n4_ := Aside0.mk (hb); have n5_ := Aside0.mk (hi); clear BK186; clear BK192; clear HO195; clear HK; clear HB; clear HI0; have BK186 := n0_; have BK192 := n1_; have HO195 := n2_; have HK := n3_; have HB := n4_; have HI0 := n5_; clear n0_ n1_ n2_ n3_ n4_ n5_; (try clear hb); (try clear hb2); (try clear hk); (try clear hi); have hcz80_0 : w79.cell? ⟨gb192, 0, none⟩ = some (.int .i64 t187) := (blk_cell BK192.out 0).trans rfl; have hcz80_1 : w79.cell? ⟨gb192, 1, none⟩ = some (.int .i64 t188) := (blk_cell BK192.out 1).trans rfl; have hcz80_2 : w79.cell? ⟨gb192, 2, none⟩ = some (.int .i64 t189) := (blk_cell BK192.out 2).trans rfl; have hfz80_0 := blk_frozen BK192.out 0; have hfz80_1 := blk_frozen BK192.out 1; have hfz80_2 := blk_frozen BK192.out 2; have hnb81 := NB186_0.out; have hnc81 := NB0_186.out; have hcz82_0 : w79.cell? ⟨gb186, 0, none⟩ = some (.int .i64 0) := (blk_cell BK186.out 0).trans rfl; have hcz82_1 : w79.cell? ⟨gb186, 1, none⟩ = some (.int .i64 0) := (blk_cell BK186.out 1).trans rfl; have hcz82_2 : w79.cell? ⟨gb186, 2, none⟩ = some (.int .i64 0) := (blk_cell BK186.out 2).trans rfl; have hfz82_0 := blk_frozen BK186.out 0; have hfz82_1 := blk_frozen BK186.out 1; have hfz82_2 := blk_frozen BK186.out 2))
     refine bodyPost_ret (results_ct rfl _ _ gb186 27 #[.int .i64 t187, .int .i64 t188, .int .i64 t189] (0, 0) _ rfl zp18 Try.underlying27 rfl (by kernel_rfl)) rfl ?_
     exact ⟨_, by first | rfl | (simp [errW_none, errW_some] <;> rfl) | (simp [*, errW_none, errW_some] <;> rfl), by (with_reducible repeat (first | apply Kd.R_alloc | apply Kd.R_drewN | apply Kd.R_drew)); exact Kd.R_mono (Kd.R_far (p := ⟨gb186, 2, none⟩) (Kd.R_far (p := ⟨gb186, 1, none⟩) (Kd.R_far (p := ⟨gb186, 0, none⟩) (Kd.R_types HO195.out BK186.out (by decide)) (fun _ hk => hk.2) (.int .i64 t187)) (fun _ hk => hk.2) (.int .i64 t188)) (fun _ hk => hk.2) (.int .i64 t189)) (fun _ hk => trivial), by repeat (first | (with_reducible first | exact HI0.out | apply IsS74.alloc | apply IsS74.drewN | apply IsS74.drew | apply IsS74.set_1 | apply IsS74.set_2 | refine IsS74.far ?_ NB0_186.out _ | refine IsS74.far ?_ NB0_192.out _) | exact HI0.out), by repeat (first | (with_reducible first | exact HB.out | apply below_alloc | apply pw_below_drewN | apply below_drew1 | refine below_set ?_ (IsS74.ge HI0.out) | refine below_set ?_ GE186.out | refine below_set ?_ GE192.out) | exact HB.out), by repeat (first | (with_reducible first | exact HK.out | apply KeepBut.set_ | apply keep_drewN | apply keep_drew | apply keep_alloc | refine keep_far ?_ GW186.out _ | refine keep_far ?_ GW192.out _) | exact HK.out)⟩
def spec_DrawWidthsFor.f (k : Nat) (l0 : List Int) : Option (Int × Int × Int × List Int × Int) := (spec_l01New.f l0).bind fun bt225 => ((spec_l4Both.f k bt225.1 bt225.2.1 bt225.2.2).bind fun bt229 => (if (bt229.2.2.2.1.length : Int) > 12 then (if 12 ≤ (bt229.2.2.2.1.length : Int) then ((spec_l01Int.f bt225.1 bt229.2.2.2.2.1 bt229.2.2.2.2.2 (([60, 40, 20, 100, 0, (-1), 300, 301] : List Int))).bind fun bt244 => (some (bt229.1, bt229.2.1, bt229.2.2.1, (bt229.2.2.2.1.take (12 : Int).toNat), bt244.1))) else (none)) else ((spec_l01Int.f bt225.1 bt229.2.2.2.2.1 bt229.2.2.2.2.2 (([60, 40, 20, 100, 0, (-1), 300, 301] : List Int))).bind fun bt250 => (some (bt229.1, bt229.2.1, bt229.2.2.1, bt229.2.2.2.1, bt250.1)))))
theorem spec_DrawWidthsFor.mono : ∀ a0 k, LeO (spec_DrawWidthsFor.f k a0) (spec_DrawWidthsFor.f (k + 1) a0) := by
 intro a0 k
 unfold spec_DrawWidthsFor.f
 repeat' first
  | (with_reducible exact spec_l4Both.mono _ _ _ _)
  | (with_reducible exact LeO.refl _)
  | (with_reducible exact LeO.none _)
  | (with_reducible refine LeO.ite ?_ ?_)
  | (with_reducible refine LeO.bind ?_ (fun _ => ?_))
  | exact spec_l4Both.mono _ _ _ _
  | exact LeO.none _
  | refine LeO.ite ?_ ?_
  | refine LeO.bind ?_ (fun _ => ?_)
def spec_DrawWidthsFor.T5 : Bool × List (List Nat × List Nat) := (true, [([], []), ([], []), ([], []), ([], []), ([2, 3], [2, 3]), ([0, 4, 0], [0]), ([1, 5, 0, 1, 5], [1]), ([4, 6, 0, 1, 2, 3, 4, 5, 6], [4])])
def spec_DrawWidthsFor.B5 : List Nat := [0, 0, 0, 0, 12, 29, 63, 127]
theorem spec_DrawWidthsFor.tab5 : rtab .any (opsOf Try.f24 5) = spec_DrawWidthsFor.T5 := by kernel_rfl
theorem spec_DrawWidthsFor.bits5 : waitsOk spec_DrawWidthsFor.T5.2 spec_DrawWidthsFor.B5 = true := by kernel_rfl
set_option maxHeartbeats 8000000 in
set_option maxRecDepth 100000 in
theorem spec_DrawWidthsFor.calls (k : Nat) (A0 : Option Addr) (c0 : Nat) (l0 : List Int) (r1 : Int) (r2 : Int) (r3 : Int) (r4 : List Int) (r5 : Int) (w : World) (hr0 : Kd.C (Kd.int .u8) w A0 l0.length l0) (hc0 : l0.length ≤ c0) (h : spec_DrawWidthsFor.f k l0 = some (r1, r2, r3, r4, r5)) :
 Calls Try.prog 24 #[.slice A0 l0.length c0] w fun e w' => ∃ v3_ : Value, e = .returned (.tuple #[.agg #[.int .i64 r1, .int .i64 r2, .int .i64 r3], v3_, .int .i64 r5]) ∧ Kd.R (Kd.int .i64) 3 w' w.heap.size (fun _ => True) v3_ r4 ∧ Below w.heap.size w w' := by
 have hu27 := Try.underlying27
 have HR0 := Aside0.mk hr0
 have HC0 := Aside0.mk hc0
 clear hr0 hc0
 have HB := Aside0.mk (Below.refl w.heap.size w)
 have H : ((spec_l01New.f l0).bind fun bt225 => ((spec_l4Both.f k bt225.1 bt225.2.1 bt225.2.2).bind fun bt229 => (if (bt229.2.2.2.1.length : Int) > 12 then (if 12 ≤ (bt229.2.2.2.1.length : Int) then ((spec_l01Int.f bt225.1 bt229.2.2.2.2.1 bt229.2.2.2.2.2 (([60, 40, 20, 100, 0, (-1), 300, 301] : List Int))).bind fun bt244 => (some (bt229.1, bt229.2.1, bt229.2.2.1, (bt229.2.2.2.1.take (12 : Int).toNat), bt244.1))) else (none)) else ((spec_l01Int.f bt225.1 bt229.2.2.2.2.1 bt229.2.2.2.2.2 (([60, 40, 20, 100, 0, (-1), 300, 301] : List Int))).bind fun bt250 => (some (bt229.1, bt229.2.1, bt229.2.2.1, bt229.2.2.2.1, bt250.1)))))) = some (r1, r2, r3, r4, r5) := h
 clear h
 replace H := Option.bind_eq_some_iff.mp H
 obtain ⟨⟨t225, t226, t227⟩, A20, H⟩ := H
 replace H : ((spec_l4Both.f k t225 t226 t227).bind fun bt229 => (if (bt229.2.2.2.1.length : Int) > 12 then (if 12 ≤ (bt229.2.2.2.1.length : Int) then ((spec_l01Int.f t225 bt229.2.2.2.2.1 bt229.2.2.2.2.2 (([60, 40, 20, 100, 0, (-1), 300, 301] : List Int))).bind fun bt244 => (some (bt229.1, bt229.2.1, bt229.2.2.1, (bt229.2.2.2.1.take (12 : Int).toNat), bt244.1))) else (none)) else ((spec_l01Int.f t225 bt229.2.2.2.2.1 bt229.2.2.2.2.2 (([60, 40, 20, 100, 0, (-1), 300, 301] : List Int))).bind fun bt250 => (some (bt229.1, bt229.2.1, bt229.2.2.1, bt229.2.2.2.1, bt250.1))))) = some (r1, r2, r3, r4, r5) := H
 have A2 := Aside0.mk A20
 clear A20
 replace H := Option.bind_eq_some_iff.mp H
 obtain ⟨⟨t229, t230, t231, t232, t235, t236⟩, A30, H⟩ := H
 replace H : (if (t232.length : Int) > 12 then (if 12 ≤ (t232.length : Int) then ((spec_l01Int.f t225 t235 t236 (([60, 40, 20, 100, 0, (-1), 300, 301] : List Int))).bind fun bt244 => (some (t229, t230, t231, (t232.take (12 : Int).toNat), bt244.1))) else (none)) else ((spec_l01Int.f t225 t235 t236 (([60, 40, 20, 100, 0, (-1), 300, 301] : List Int))).bind fun bt250 => (some (t229, t230, t231, t232, bt250.1)))) = some (r1, r2, r3, r4, r5) := H
 have A3 := Aside0.mk A30
 clear A30
 by_cases c4 : (t232.length : Int) > 12
 ·rw [if_pos c4] at H
  have c4b0 : decide (12 < (t232.length : Int)) = true := decide_eq_true c4
  have c4b1 : decide (12 < t232.length) = true := decide_eq_true zp71
  clear c4
  by_cases c5 : 12 ≤ (t232.length : Int)
  ·rw [if_pos c5] at H
   have c5b0 := eq_true c5
   have c5b1 : decide (12 ≤ (t232.length : Int)) = true := decide_eq_true c5
   clear c5
   obtain ⟨y238, hy238⟩ : ∃ y_ : List Int, y_ = (t232.take (12 : Int).toNat) := ⟨_, rfl⟩
   replace H : ((spec_l01Int.f t225 t235 t236 (([60, 40, 20, 100, 0, (-1), 300, 301] : List Int))).bind fun bt244 => (some (t229, t230, t231, y238, bt244.1))) = some (r1, r2, r3, r4, r5) := by first | (rw [hy238]; with_reducible exact H) | (have H2_ := (Option.bind_some _ _).symm.trans H; rw [hy238]; with_reducible exact H2_) | (have H2_ := (Option.bind_some _ _).symm.trans H; with_reducible exact H2_) | with_reducible exact H | (rw [hy238]; exact H) | exact H
   have Ny238 := Aside0.mk hy238
   clear hy238
   obtain ⟨y241, hy241⟩ : ∃ y_ : List Int, y_ = (([60, 40, 20, 100, 0, (-1), 300, 301] : List Int)) := ⟨_, rfl⟩
   replace H : ((spec_l01Int.f t225 t235 t236 y241).bind fun bt244 => (some (t229, t230, t231, y238, bt244.1))) = some (r1, r2, r3, r4, r5) := by first | (rw [hy241]; with_reducible exact H) | (have H2_ := (Option.bind_some _ _).symm.trans H; rw [hy241]; with_reducible exact H2_) | (have H2_ := (Option.bind_some _ _).symm.trans H; with_reducible exact H2_) | with_reducible exact H | (rw [hy241]; exact H) | exact H
   have Ny241 := Aside0.mk hy241
   clear hy241
   replace H := Option.bind_eq_some_iff.mp H
   obtain ⟨⟨t244, t245, t246⟩, A60, H⟩ := H
   replace H : (some (t229, t230, t231, y238, t244)) = some (r1, r2, r3, r4, r5) := H
   have A6 := Aside0.mk A60
   clear A60
   simp only [Option.some.injEq, Prod.mk.injEq] at H
   obtain ⟨rfl, rfl, rfl, rfl, rfl⟩ := H
   go_enter Try.func24, Try.ntmps24
   try go_wp2_with (first | ((with_reducible refine gate_dst (N := 2) rfl ?_); refine box_event ?hg (N := 2) ?hd (cs := #[.int .i64 0, .int .i64 0, .int .i64 0]) (t := 27) ?hr ?_; (case hd => rfl); (case hg => rfl); (case hr => first | (go_simp; done) | (go_simp; rfl)); intro gb224 hg w7 hbox hb; have n0_ := Aside0.mk (below_step zp0 hb); have n1_ := Aside0.mk (hbox); have n2_ := Aside0.mk ((zp13 : w.heap.size ≤ gb224)); have n3_ := Aside0.mk ((zp13 : w.heap.size ≤ gb224)); clear HB; have HB := n0_; have BK224 := n1_; have GW224 := n2_; have GE224 := n3_; clear n0_ n1_ n2_ n3_; clear hb hbox hg) | ((with_reducible refine gate_callee (f := 55) rfl ?_); refine goesL_ (some 9) rfl rfl Try.func55 (by kernel_rfl) rfl #[.slice A0 l0.length c0] rfl zp1 ?_; (with_reducible refine (spec_l01New.calls _ _ l0 t225 t226 t227 w _ ?side1 ?side2 ?side3 A2.out).mono ?_); (case side1 => repeat (first | (with_reducible first | exact HB.out | apply below_alloc | apply pw_below_drewN | apply below_drew1 | refine below_set ?_ GE224.out) | exact HB.out)); (case side2 => exact HR0.out); (case side3 => exact HC0.out); rintro e w8 ⟨g228, rfl, hi, hb, hb2⟩; refine ⟨_, rfl, ?_⟩; have n0_ := Aside0.mk (blk_below (g := gb224) (o := .cells #[.int .i64 0, .int .i64 0, .int .i64 0] 27 (0, 0)) zp17 hb2); have n1_ := Aside0.mk (hb); have n2_ := Aside0.mk (hi); have n3_ := Aside0.mk (IsS74.ne_blk hi (blk_below (g := gb224) (o := .cells #[.int .i64 0, .int .i64 0, .int .i64 0] 27 (0, 0)) zp17 hb2) (by decide)); have n4_ := Aside0.mk (Ne.symm (IsS74.ne_blk hi (blk_below (g := gb224) (o := .cells #[.int .i64 0, .int .i64 0, .int .i64 0] 27 (0, 0)) zp17 hb2) (by decide))); clear BK224; clear HB; have BK224 := n0_; have HB := n1_; have HI228 := n2_; have NB228_224 := n3_; have NB224_228 := n4_; clear n0_ n1_ n2_ n3_ n4_; (try clear hb); (try clear hb2); (try clear hk); (try clear hi)) | ((with_reducible refine gate_callee (f := 56) rfl ?_); refine goesL_ (some 12) rfl rfl Try.func56 (by kernel_rfl) rfl #[.pointer (some ⟨g228, 0, none⟩)] rfl zp1 ?_; (with_reducible refine (spec_l4Both.calls k g228 t225 t226 t227 t229 t230 t231 t232 t235 t236 w _ ?side1 ?side2 A3.out).mono ?_); (case side1 => repeat (first | (with_reducible first | exact HI228.out | apply IsS74.alloc | apply IsS74.drewN | apply IsS74.drew | apply IsS74.set_1 | apply IsS74.set_2 | refine IsS74.far ?_ NB228_224.out _) | exact HI228.out)); (case side2 => repeat (first | (with_reducible first | exact HB.out | apply below_alloc | apply pw_below_drewN | apply below_drew1 | refine below_set ?_ (IsS74.ge HI228.out) | refine below_set ?_ GE224.out) | exact HB.out)); rintro e w9 ⟨v233, rfl, ho0, hi, hb, hk⟩; refine ⟨_, rfl, ?_⟩; have n0_ := Aside0.mk (KeepBut.blk hk (g' := gb224) (o := .cells #[.int .i64 0, .int .i64 0, .int .i64 0] 27 (0, 0)) zp17 NB224_228.out zp48); have n1_ := Aside0.mk (Kd.R_lower ho0 (below_size zp23)); have n2_ := Aside0.mk (hb); have n3_ := Aside0.mk (hi); clear BK224; clear HB; clear HI228; have BK224 := n0_; have HO234 := n1_; have HB := n2_; have HI228 := n3_; clear n0_ n1_ n2_ n3_; (try clear hb); (try clear hb2); (try clear hk); (try clear hi); (try clear ho0)) | ((with_reducible refine gate_dst (N := 6) rfl ?_); refine box_event ?hg (N := 6) ?hd (cs := #[.int .i64 0, .int .i64 0, .int .i64 0]) (t := 27) ?hr ?_; (case hd => rfl); (case hg => rfl); (case hr => first | (go_simp; done) | (go_simp; rfl)); intro gb237 hg w10 hbox hb; have n0_ := Aside0.mk (Kd.R_below zp59 hb); have n1_ := Aside0.mk (blk_below (g := gb224) (o := .cells #[.int .i64 0, .int .i64 0, .int .i64 0] 27 (0, 0)) zp17 hb); have n2_ := Aside0.mk (IsS74.below zp70 hb); have n3_ := Aside0.mk (below_step zp23 hb); have n4_ := Aside0.mk (hbox); have n5_ := Aside0.mk ((by rw [hg]; exact (below_size zp23) : w.heap.size ≤ gb237)); have n6_ := Aside0.mk ((by rw [hg]; exact (below_size zp23) : w.heap.size ≤ gb237)); have n7_ := Aside0.mk ((by rw [hg]; exact Nat.ne_of_lt (blk_lt (g := gb224) (o := .cells #[.int .i64 0, .int .i64 0, .int .i64 0] 27 (0, 0)) zp17) : gb224 ≠ gb237)); have n8_ := Aside0.mk ((by rw [hg]; exact Nat.ne_of_gt (blk_lt (g := gb224) (o := .cells #[.int .i64 0, .int .i64 0, .int .i64 0] 27 (0, 0)) zp17) : gb237 ≠ gb224)); have n9_ := Aside0.mk ((by rw [hg]; exact Nat.ne_of_lt (IsS74.lt (show IsS74 w _ g228 t225 t235 t236 from by repeat (first | (with_reducible first | exact HI228.out | apply IsS74.alloc | apply IsS74.drewN | apply IsS74.drew | apply IsS74.set_1 | apply IsS74.set_2 | refine IsS74.far ?_ NB228_224.out _) | exact HI228.out))) : g228 ≠ gb237)); have n10_ := Aside0.mk ((by rw [hg]; exact Nat.ne_of_gt (IsS74.lt (show IsS74 w _ g228 t225 t235 t236 from by repeat (first | (with_reducible first | exact HI228.out | apply IsS74.alloc | apply IsS74.drewN | apply IsS74.drew | apply IsS74.set_1 | apply IsS74.set_2 | refine IsS74.far ?_ NB228_224.out _) | exact HI228.out))) : gb237 ≠ g228)); clear HO234; clear BK224; clear HI228; clear HB; have HO234 := n0_; have BK224 := n1_; have HI228 := n2_; have HB := n3_; have BK237 := n4_; have GW237 := n5_; have GE237 := n6_; have NB224_237 := n7_; have NB237_224 := n8_; have NB228_237 := n9_; have NB237_228 := n10_; clear n0_ n1_ n2_ n3_ n4_ n5_ n6_ n7_ n8_ n9_ n10_; clear hb hbox hg; have hnb11 := NB237_224.out; have hnc11 := NB224_237.out; have hnb12 := NB237_228.out; have hnc12 := NB228_237.out; have hcz13_0 : w10.cell? ⟨gb237, 0, none⟩ = some (.int .i64 0) := (blk_cell BK237.out 0).trans rfl; have hcz13_1 : w10.cell? ⟨gb237, 1, none⟩ = some (.int .i64 0) := (blk_cell BK237.out 1).trans rfl; have hcz13_2 : w10.cell? ⟨gb237, 2, none⟩ = some (.int .i64 0) := (blk_cell BK237.out 2).trans rfl; have hfz13_0 := blk_frozen BK237.out 0; have hfz13_1 := blk_frozen BK237.out 1; have hfz13_2 := blk_frozen BK237.out 2) | ((with_reducible refine gate_store (t := 27) (p := 6) rfl ?_); refine store_event (t := 27) (p := 6) (v := ?vo_w14) (w1 := (((w10.setCell ⟨gb237, 0, none⟩ (.int .i64 t229)).setCell ⟨gb237, 1, none⟩ (.int .i64 t230)).setCell ⟨gb237, 2, none⟩ (.int .i64 t231))) ?hg ?ho ?hn ?hr ?_; (case ho => rfl); (case hg => rfl); (case hn => rfl); (case hr => first | (go_simp; done) | (go_simp; rfl)); intro w14 hw; have n0_ : Aside0 (Kd.R (Kd.int .i64) 3 w14 w.heap.size (fun _ => True) v233 t232) := ⟨(by rw [hw]; exact (by (with_reducible repeat (first | apply Kd.R_alloc | apply Kd.R_drewN | apply Kd.R_drew)); exact Kd.R_mono (Kd.R_far (p := ⟨gb237, 2, none⟩) (Kd.R_far (p := ⟨gb237, 1, none⟩) (Kd.R_far (p := ⟨gb237, 0, none⟩) (Kd.R_types HO234.out BK237.out (by decide)) (fun _ hk => hk.2) (.int .i64 t229)) (fun _ hk => hk.2) (.int .i64 t230)) (fun _ hk => hk.2) (.int .i64 t231)) (fun _ hk => trivial)))⟩; have n1_ : Aside0 (w14.heap[gb224]? = some (.cells #[.int .i64 0, .int .i64 0, .int .i64 0] 27 (0, 0))) := ⟨(by rw [hw]; exact (by (with_reducible repeat (first | refine blk_drewN ?_ _ | refine blk_drew ?_ | refine blk_alloc ?_ _)); refine blk_far ?_ NB224_237.out _; (with_reducible repeat (first | refine blk_drewN ?_ _ | refine blk_drew ?_ | refine blk_alloc ?_ _)); refine blk_far ?_ NB224_237.out _; (with_reducible repeat (first | refine blk_drewN ?_ _ | refine blk_drew ?_ | refine blk_alloc ?_ _)); refine blk_far ?_ NB224_237.out _; (with_reducible repeat (first | refine blk_drewN ?_ _ | refine blk_drew ?_ | refine blk_alloc ?_ _)); exact BK224.out))⟩; have n2_ : Aside0 (w14.heap[gb237]? = some (.cells #[.int .i64 t229, .int .i64 t230, .int .i64 t231] 27 (0, 0))) := ⟨(by rw [hw]; exact (by (with_reducible repeat (first | refine blk_drewN ?_ _ | refine blk_drew ?_ | refine blk_alloc ?_ _)); refine blk_put (cs := #[.int .i64 t229, .int .i64 t230, .int .i64 0]) ?_ 2 _ rfl; (with_reducible repeat (first | refine blk_drewN ?_ _ | refine blk_drew ?_ | refine blk_alloc ?_ _)); refine blk_put (cs := #[.int .i64 t229, .int .i64 0, .int .i64 0]) ?_ 1 _ rfl; (with_reducible repeat (first | refine blk_drewN ?_ _ | refine blk_drew ?_ | refine blk_alloc ?_ _)); refine blk_put (cs := #[.int .i64 0, .int .i64 0, .int .i64 0]) ?_ 0 _ rfl; (with_reducible repeat (first | refine blk_drewN ?_ _ | refine blk_drew ?_ | refine blk_alloc ?_ _)); exact BK237.out))⟩; have n3_ : Aside0 (IsS74 w w14 g228 t225 t235 t236) := ⟨(by rw [hw]; exact zp49)⟩; have n4_ : Aside0 (Below w.heap.size w w14) := ⟨(by rw [hw]; exact zp31)⟩; clear hw; clear HO234; clear BK224; clear BK237; clear HI228; clear HB; have HO234 := n0_; have BK224 := n1_; have BK237 := n2_; have HI228 := n3_; have HB := n4_; clear n0_ n1_ n2_ n3_ n4_; obtain ⟨Ao15, co15, eo15⟩ := Kd.R_slice HO234.out; subst eo15; have q16 : (12 : Int) ≤ ((t232.length : Int) : Int) := of_decide_eq_true zp12; obtain ⟨i016, hi016, _, hsz16, _⟩ := info_parts info3; have hcut16 := cut_to (P := Try.prog) 24 3 .i64 Try.underlying24 hi016 Ao15 t232.length co15 12 zp71 q16 (Kd.R_reads' HO234.out).2.1; have hr16 := Kd.R_take (m := (12 : Int).toNat) HO234.out zp71; have hy16 : y238.length = (12 : Int).toNat := (by rw [Ny238.out, List.length_take]; omega); rw [← Ny238.out] at hr16; rw [← hy16] at hr16 hcut16; clear hy16 hi016 hsz16 HO234; have HO240 := Aside0.mk hr16; clear hr16; replace q16 := eq_true q16))
   have n0_ := Aside0.mk (Kd.R_drew HO240.out)
   have n1_ := Aside0.mk (blk_drew BK224.out)
   have n2_ := Aside0.mk (blk_drew BK237.out)
   have n3_ := Aside0.mk (IsS74.drew HI228.out)
   have n4_ := Aside0.mk (below_drew1 HB.out)
   clear HO240
   clear BK224
   clear BK237
   clear HI228
   clear HB
   have HO240 := n0_
   have BK224 := n1_
   have BK237 := n2_
   have HI228 := n3_
   have HB := n4_
   clear n0_ n1_ n2_ n3_ n4_
   refine start_ (n := 8) (S := fun w' => w'.cell? ⟨gb237, 0, none⟩ = some (.int .i64 t229) ∧ w'.cell? ⟨gb237, 1, none⟩ = some (.int .i64 t230) ∧ w'.cell? ⟨gb237, 2, none⟩ = some (.int .i64 t231)) (ds := []) #[false, false, false, false, false, false, false, false] (by kernel_rfl) rfl rfl ⟨(blk_cell BK237.out 0).trans rfl, (blk_cell BK237.out 1).trans rfl, (blk_cell BK237.out 2).trans rfl⟩ (fun hHeld => ?_); refine with_tabW spec_DrawWidthsFor.tab5 spec_DrawWidthsFor.bits5 (fun HT_ HW_ => ?_)
   generalize w14.drew = w17 at HO240 BK224 BK237 HI228 HB hHeld ⊢
   refine pure_ (i := 1) (N := some 21) (v := ?_) (a' := ?_) #[false, true, false, false, false, false, false, false] rfl rfl (any_of HT_.out (by kernel_rfl)) (fun _ _ _ h => h) (Or.inl ⟨by rfl, ?_⟩) ?_ ?_
   rotate_left
   ·intro w'
    go_simp
    with_reducible rfl
   rotate_left
   ·simp only [Act.put, List.setIfInBounds_toArray, List.set_cons_zero, List.set_cons_succ, i64_w, i32_w]
    rfl
   refine pure_ (i := 2) (N := some 22) (v := ?_) (a' := ?_) #[false, true, true, false, false, false, false, false] rfl rfl (any_of HT_.out (by kernel_rfl)) (fun _ _ _ h => h) (Or.inl ⟨by rfl, ?_⟩) ?_ ?_
   rotate_left
   ·intro w'
    go_simp
    with_reducible rfl
   rotate_left
   ·simp only [Act.put, List.setIfInBounds_toArray, List.set_cons_zero, List.set_cons_succ, i64_w, i32_w]
    rfl
   refine take_ (i := 0) (N := some 20) (v := ?_) (a' := ?_) #[true, true, true, false, false, false, false, false] rfl rfl (take_ofW HT_.out HW_.out (by kernel_rfl)) (fun _ _ _ h => h) (Or.inl ⟨by rfl, ?_⟩) hHeld ?_ ?_
   rotate_left
   ·rintro w' ⟨s0, s1, s2⟩
    go_simp
    with_reducible rfl
   rotate_left
   ·simp only [Act.put, List.setIfInBounds_toArray, List.set_cons_zero, List.set_cons_succ, i64_w, i32_w]
    rfl
   refine one_ (i := 3) (N := some 23) #[true, true, true, true, false, false, false, false] rfl rfl (one_of HT_.out (by kernel_rfl)) (by decide) (fun K hK => ?_)
   refine Kd.R_lit_step (Kd.int .i64) _ 3 ?hg (N := 23) ?hd (xs := ([60, 40, 20, 100, 0, (-1), 300, 301] : List Int)) (inner := [.int .i64 60, .int .i64 40, .int .i64 20, .int .i64 100, .int .i64 0, .int .i64 (-1), .int .i64 300, .int .i64 301]) (ok := fun _ => True) (okp := fun _ => True) ?hr ?hp (fun _ hk => hk) trivial (Below.refl _ _) (Nat.le_refl _) zp48 ?_; (case hd => rfl); (case hg => rfl); (case hr => first | (go_simp; done) | (go_simp; rfl)); (case hp => exact (Reps.one (show Kd.M (Kd.int .i64) _ _ _ 60 [.int .i64 60] from rfl) (Reps.one (show Kd.M (Kd.int .i64) _ _ _ 40 [.int .i64 40] from rfl) (Reps.one (show Kd.M (Kd.int .i64) _ _ _ 20 [.int .i64 20] from rfl) (Reps.one (show Kd.M (Kd.int .i64) _ _ _ 100 [.int .i64 100] from rfl) (Reps.one (show Kd.M (Kd.int .i64) _ _ _ 0 [.int .i64 0] from rfl) (Reps.one (show Kd.M (Kd.int .i64) _ _ _ (-1) [.int .i64 (-1)] from rfl) (Reps.one (show Kd.M (Kd.int .i64) _ _ _ 300 [.int .i64 300] from rfl) (Reps.one (show Kd.M (Kd.int .i64) _ _ _ 301 [.int .i64 301] from rfl) (Reps.none _ _))))))))))
   intro v242 w18 ho19 hb hg_ hnew_
   clear hg_ hnew_
   (first | rw [← Ny241.out] at ho19 | (simp only [Int.reduceToNat] at ho19; rw [← Ny241.out] at ho19))
   have n0_ := Aside0.mk (Kd.R_elder' zp72 (Kd.R_base ho19) hb)
   have n1_ := Aside0.mk (Kd.R_lower (Kd.R_new' ho19 (Kd.R_lt zp72)) (below_size zp31))
   have n2_ := Aside0.mk (blk_below (g := gb224) (o := .cells #[.int .i64 0, .int .i64 0, .int .i64 0] 27 (0, 0)) zp17 hb)
   have n3_ := Aside0.mk (IsS74.below zp49 hb)
   have n4_ := Aside0.mk (blk_below (g := gb237) (o := .cells #[.int .i64 t229, .int .i64 t230, .int .i64 t231] 27 (0, 0)) zp64 hb)
   have n5_ := Aside0.mk (below_step zp31 hb)
   clear HO240
   clear BK224
   clear HI228
   clear BK237
   clear HB
   have HO240 := n0_
   have HO243 := n1_
   have BK224 := n2_
   have HI228 := n3_
   have BK237 := n4_
   have HB := n5_
   clear n0_ n1_ n2_ n3_ n4_ n5_
   clear hb ho19
   obtain ⟨Ao20, co20, eo20⟩ := Kd.R_slice HO243.out
   (first | subst eo20 | (injection eo20 with f1_ f2_ f3_; have f4_ := f1_.symm; have f5_ := f3_.symm; clear f1_ f2_ f3_; subst f4_; subst f5_))
   refine hK.out _ _ ⟨(blk_cell BK237.out 0).trans rfl, (blk_cell BK237.out 1).trans rfl, (blk_cell BK237.out 2).trans rfl⟩ (fun hHeld => ?_)
   clear hK K
   refine norm_ (a' := ?_) ?_ ?_
   rotate_left
   ·show Act.put _ (some 23) _ = _
    simp only [Act.put, List.setIfInBounds_toArray, List.set_cons_zero, List.set_cons_succ, i64_w, i32_w]
    rfl
   refine one_ (i := 4) (N := some 24) #[true, true, true, true, true, false, false, false] rfl rfl (one_of HT_.out (by kernel_rfl)) (by decide) (fun K hK => ?_)
   refine goes_ Try.func57 (by kernel_rfl) rfl #[.pointer (some ⟨g228, 0, none⟩), .slice Ao20 y241.length co20] (by rfl) rfl rfl zp1 ?_
   with_reducible refine (spec_l01Int.calls g228 t225 t235 t236 _ _ y241 t244 t245 t246 w _ ?side1 ?side2 ?side3 ?side4 ?side5 A6.out).mono ?_
   (case side1 => repeat (first | (with_reducible first | exact HI228.out | apply IsS74.alloc | apply IsS74.drewN | apply IsS74.drew | apply IsS74.set_1 | apply IsS74.set_2 | refine IsS74.far ?_ NB228_224.out _ | refine IsS74.far ?_ NB228_237.out _) | exact HI228.out))
   (case side2 => repeat (first | (with_reducible first | exact HB.out | apply below_alloc | apply pw_below_drewN | apply below_drew1 | refine below_set ?_ (IsS74.ge HI228.out) | refine below_set ?_ GE224.out | refine below_set ?_ GE237.out) | exact HB.out))
   (case side3 => repeat (first | exact (Kd.R_reads' HO243.out).2.2 | (with_reducible refine Kd.C_alloc ?_ _) | (with_reducible refine Kd.C_drewN ?_ _) | (with_reducible refine Kd.C_drew ?_)))
   (case side4 => exact (Kd.R_reads' HO243.out).2.1)
   (case side5 => exact far_slice (IsS74.own_ne HI228.out HO243.out (by decide)))
   rintro e w21 ⟨rfl, hi, hb, hk⟩
   refine ⟨_, rfl, ?_⟩
   have n0_ := Aside0.mk (KeepBut.blk hk (g' := gb224) (o := .cells #[.int .i64 0, .int .i64 0, .int .i64 0] 27 (0, 0)) zp17 NB224_228.out zp48)
   have n1_ := Aside0.mk (Kd.R_mono (Kd.R_keep (IsS74.apart (show IsS74 w _ g228 t225 t235 t236 from by repeat (first | (with_reducible first | exact HI228.out | apply IsS74.alloc | apply IsS74.drewN | apply IsS74.drew | apply IsS74.set_1 | apply IsS74.set_2 | refine IsS74.far ?_ NB228_224.out _ | refine IsS74.far ?_ NB228_237.out _) | exact HI228.out)) zp72 (by decide)) hk (fun _ h => h.2)) (fun _ h => h.1))
   have n2_ := Aside0.mk (KeepBut.blk hk (g' := gb237) (o := .cells #[.int .i64 t229, .int .i64 t230, .int .i64 t231] 27 (0, 0)) zp64 NB237_228.out zp48)
   have n3_ := Aside0.mk (Kd.R_mono (Kd.R_keep (IsS74.apart (show IsS74 w _ g228 t225 t235 t236 from by repeat (first | (with_reducible first | exact HI228.out | apply IsS74.alloc | apply IsS74.drewN | apply IsS74.drew | apply IsS74.set_1 | apply IsS74.set_2 | refine IsS74.far ?_ NB228_224.out _ | refine IsS74.far ?_ NB228_237.out _) | exact HI228.out)) (by (with_reducible repeat (first | apply Kd.R_alloc | apply Kd.R_drewN | apply Kd.R_drew)); exact HO243.out) (by decide)) hk (fun _ h => h.2)) (fun _ h => h.1))
   have n4_ := Aside0.mk (hb)
   have n5_ := Aside0.mk (hi)
   clear BK224
   clear HO240
   clear BK237
   clear HO243
   clear HB
   clear HI228
   have BK224 := n0_
   have HO240 := n1_
   have BK237 := n2_
   have HO243 := n3_
   have HB := n4_
   have HI228 := n5_
   clear n0_ n1_ n2_ n3_ n4_ n5_
   (try clear hb)
   (try clear hb2)
   (try clear hk)
   (try clear hi)
   refine hK.out _ _ ⟨(blk_cell BK237.out 0).trans rfl, (blk_cell BK237.out 1).trans rfl, (blk_cell BK237.out 2).trans rfl⟩ (fun hHeld => ?_)
   clear hK K
   refine norm_ (a' := ?_) ?_ ?_
   rotate_left
   ·show Act.put _ (some 24) _ = _
    simp only [Act.put, List.setIfInBounds_toArray, List.set_cons_zero, List.set_cons_succ, i64_w, i32_w]
    rfl
   refine one_ (i := 5) (N := none) #[true, true, true, true, true, true, false, false] rfl rfl (one_of HT_.out (by kernel_rfl)) (by decide) (fun K hK => ?_)
   have hs22 : w21.cell? ⟨gb224, 0, none⟩ = some (.int .i64 0) := (blk_cell BK224.out 0).trans rfl
   have hfs22 := blk_frozen BK224.out 0
   have hns22_1 := NB237_224.out
   have hms22_1 := NB224_237.out
   have hs23 : w21.cell? ⟨gb224, 1, none⟩ = some (.int .i64 0) := (blk_cell BK224.out 1).trans rfl
   have hfs23 := blk_frozen BK224.out 1
   have hns23_1 := NB237_224.out
   have hms23_1 := NB224_237.out
   have hs24 : w21.cell? ⟨gb224, 2, none⟩ = some (.int .i64 0) := (blk_cell BK224.out 2).trans rfl
   have hfs24 := blk_frozen BK224.out 2
   have hns24_1 := NB237_224.out
   have hms24_1 := NB224_237.out
   refine skip_ (w1 := ?_) (by rfl) rfl ?_ ?_
   rotate_left
   ·go_simp
    rfl
   refine hK.out _ _ ⟨((cell_far (p := ⟨gb224, _, none⟩) NB237_224.out _).trans (((cell_far (p := ⟨gb224, _, none⟩) NB237_224.out _).trans (((cell_far (p := ⟨gb224, _, none⟩) NB237_224.out _).trans (hHeld.1)))))), ((cell_far (p := ⟨gb224, _, none⟩) NB237_224.out _).trans (((cell_far (p := ⟨gb224, _, none⟩) NB237_224.out _).trans (((cell_far (p := ⟨gb224, _, none⟩) NB237_224.out _).trans (hHeld.2.1)))))), ((cell_far (p := ⟨gb224, _, none⟩) NB237_224.out _).trans (((cell_far (p := ⟨gb224, _, none⟩) NB237_224.out _).trans (((cell_far (p := ⟨gb224, _, none⟩) NB237_224.out _).trans (hHeld.2.2))))))⟩ (fun hHeld => ?_)
   clear hK K
   refine pure_ (i := 6) (N := some 3) (v := ?_) (a' := ?_) #[true, true, true, true, true, true, true, false] rfl rfl (any_of HT_.out (by kernel_rfl)) (fun _ _ _ h => h) (Or.inl ⟨by rfl, ?_⟩) ?_ ?_
   rotate_left
   ·intro w'
    go_simp
    with_reducible rfl
   rotate_left
   ·simp only [Act.put, List.setIfInBounds_toArray, List.set_cons_zero, List.set_cons_succ, i64_w, i32_w]
    rfl
   refine pure_ (i := 7) (N := some 4) (v := ?_) (a' := ?_) #[true, true, true, true, true, true, true, true] rfl rfl (any_of HT_.out (by kernel_rfl)) (fun _ _ _ h => h) (Or.inl ⟨by rfl, ?_⟩) ?_ ?_
   rotate_left
   ·intro w'
    go_simp
    with_reducible rfl
   rotate_left
   ·simp only [Act.put, List.setIfInBounds_toArray, List.set_cons_zero, List.set_cons_succ, i64_w, i32_w]
    rfl
   refine done_ (done_of HT_.out (by kernel_rfl)) ?_
   try go_wp2
   refine bodyPost_ret (results_ctt rfl _ _ gb224 27 #[.int .i64 t229, .int .i64 t230, .int .i64 t231] (0, 0) _ rfl zp38 Try.underlying27 rfl (by kernel_rfl)) rfl ?_
   exact ⟨_, by first | rfl | (simp [errW_none, errW_some] <;> rfl) | (simp [*, errW_none, errW_some] <;> rfl), by (with_reducible repeat (first | apply Kd.R_alloc | apply Kd.R_drewN | apply Kd.R_drew)); exact Kd.R_mono (Kd.R_far (p := ⟨gb224, 2, none⟩) (Kd.R_far (p := ⟨gb224, 1, none⟩) (Kd.R_far (p := ⟨gb224, 0, none⟩) (Kd.R_types HO240.out BK224.out (by decide)) (fun _ hk => hk.2) (.int .i64 t229)) (fun _ hk => hk.2) (.int .i64 t230)) (fun _ hk => hk.2) (.int .i64 t231)) (fun _ hk => trivial), by repeat (first | (with_reducible first | exact HB.out | apply below_alloc | apply pw_below_drewN | apply below_drew1 | refine below_set ?_ (IsS74.ge HI228.out) | refine below_set ?_ GE224.out | refine below_set ?_ GE237.out) | exact HB.out)⟩
  ·rw [if_neg c5] at H
   exact absurd H zp48
 ·rw [if_neg c4] at H
  have c4b0 : decide (12 < (t232.length : Int)) = false := decide_eq_false c4
  have c4b1 : decide (12 < t232.length) = false := decide_eq_false zp71
  clear c4
  obtain ⟨y247, hy247⟩ : ∃ y_ : List Int, y_ = (([60, 40, 20, 100, 0, (-1), 300, 301] : List Int)) := ⟨_, rfl⟩
  replace H : ((spec_l01Int.f t225 t235 t236 y247).bind fun bt250 => (some (t229, t230, t231, t232, bt250.1))) = some (r1, r2, r3, r4, r5) := by first | (rw [hy247]; with_reducible exact H) | (have H2_ := (Option.bind_some _ _).symm.trans H; rw [hy247]; with_reducible exact H2_) | (have H2_ := (Option.bind_some _ _).symm.trans H; with_reducible exact H2_) | with_reducible exact H | (rw [hy247]; exact H) | exact H
  have Ny247 := Aside0.mk hy247
  clear hy247
  replace H := Option.bind_eq_some_iff.mp H
  obtain ⟨⟨t250, t251, t252⟩, A250, H⟩ := H
  replace H : (some (t229, t230, t231, t232, t250)) = some (r1, r2, r3, r4, r5) := H
  have A25 := Aside0.mk A250
  clear A250
  simp only [Option.some.injEq, Prod.mk.injEq] at H
  obtain ⟨rfl, rfl, rfl, rfl, rfl⟩ := H
  go_enter Try.func24, Try.ntmps24
  try go_wp2_with (first | ((with_reducible refine gate_dst (N := 2) rfl ?_); refine box_event ?hg (N := 2) ?hd (cs := #[.int .i64 0, .int .i64 0, .int .i64 0]) (t := 27) ?hr ?_; (case hd => rfl); (case hg => rfl); (case hr => first | (go_simp; done) | (go_simp; rfl)); intro gb224 hg w26 hbox hb; have n0_ := Aside0.mk (below_step zp0 hb); have n1_ := Aside0.mk (hbox); have n2_ := Aside0.mk ((zp13 : w.heap.size ≤ gb224)); have n3_ := Aside0.mk ((zp13 : w.heap.size ≤ gb224)); clear HB; have HB := n0_; have BK224 := n1_; have GW224 := n2_; have GE224 := n3_; clear n0_ n1_ n2_ n3_; clear hb hbox hg) | ((with_reducible refine gate_callee (f := 55) rfl ?_); refine goesL_ (some 9) rfl rfl Try.func55 (by kernel_rfl) rfl #[.slice A0 l0.length c0] rfl zp1 ?_; (with_reducible refine (spec_l01New.calls _ _ l0 t225 t226 t227 w _ ?side1 ?side2 ?side3 A2.out).mono ?_); (case side1 => repeat (first | (with_reducible first | exact HB.out | apply below_alloc | apply pw_below_drewN | apply below_drew1 | refine below_set ?_ GE224.out) | exact HB.out)); (case side2 => exact HR0.out); (case side3 => exact HC0.out); rintro e w27 ⟨g228, rfl, hi, hb, hb2⟩; refine ⟨_, rfl, ?_⟩; have n0_ := Aside0.mk (blk_below (g := gb224) (o := .cells #[.int .i64 0, .int .i64 0, .int .i64 0] 27 (0, 0)) zp17 hb2); have n1_ := Aside0.mk (hb); have n2_ := Aside0.mk (hi); have n3_ := Aside0.mk (IsS74.ne_blk hi (blk_below (g := gb224) (o := .cells #[.int .i64 0, .int .i64 0, .int .i64 0] 27 (0, 0)) zp17 hb2) (by decide)); have n4_ := Aside0.mk (Ne.symm (IsS74.ne_blk hi (blk_below (g := gb224) (o := .cells #[.int .i64 0, .int .i64 0, .int .i64 0] 27 (0, 0)) zp17 hb2) (by decide))); clear BK224; clear HB; have BK224 := n0_; have HB := n1_; have HI228 := n2_; have NB228_224 := n3_; have NB224_228 := n4_; clear n0_ n1_ n2_ n3_ n4_; (try clear hb); (try clear hb2); (try clear hk); (try clear hi)) | ((with_reducible refine gate_callee (f := 56) rfl ?_); refine goesL_ (some 12) rfl rfl Try.func56 (by kernel_rfl) rfl #[.pointer (some ⟨g228, 0, none⟩)] rfl zp1 ?_; (with_reducible refine (spec_l4Both.calls k g228 t225 t226 t227 t229 t230 t231 t232 t235 t236 w _ ?side1 ?side2 A3.out).mono ?_); (case side1 => repeat (first | (with_reducible first | exact HI228.out | apply IsS74.alloc | apply IsS74.drewN | apply IsS74.drew | apply IsS74.set_1 | apply IsS74.set_2 | refine IsS74.far ?_ NB228_224.out _) | exact HI228.out)); (case side2 => repeat (first | (with_reducible first | exact HB.out | apply below_alloc | apply pw_below_drewN | apply below_drew1 | refine below_set ?_ (IsS74.ge HI228.out) | refine below_set ?_ GE224.out) | exact HB.out)); rintro e w28 ⟨v233, rfl, ho0, hi, hb, hk⟩; refine ⟨_, rfl, ?_⟩; have n0_ := Aside0.mk (KeepBut.blk hk (g' := gb224) (o := .cells #[.int .i64 0, .int .i64 0, .int .i64 0] 27 (0, 0)) zp17 NB224_228.out zp48); have n1_ := Aside0.mk (Kd.R_lower ho0 (below_size zp23)); have n2_ := Aside0.mk (hb); have n3_ := Aside0.mk (hi); clear BK224; clear HB; clear HI228; have BK224 := n0_; have HO234 := n1_; have HB := n2_; have HI228 := n3_; clear n0_ n1_ n2_ n3_; (try clear hb); (try clear hb2); (try clear hk); (try clear hi); (try clear ho0)) | ((with_reducible refine gate_dst (N := 6) rfl ?_); refine box_event ?hg (N := 6) ?hd (cs := #[.int .i64 0, .int .i64 0, .int .i64 0]) (t := 27) ?hr ?_; (case hd => rfl); (case hg => rfl); (case hr => first | (go_simp; done) | (go_simp; rfl)); intro gb237 hg w29 hbox hb; have n0_ := Aside0.mk (Kd.R_below zp59 hb); have n1_ := Aside0.mk (blk_below (g := gb224) (o := .cells #[.int .i64 0, .int .i64 0, .int .i64 0] 27 (0, 0)) zp17 hb); have n2_ := Aside0.mk (IsS74.below zp70 hb); have n3_ := Aside0.mk (below_step zp23 hb); have n4_ := Aside0.mk (hbox); have n5_ := Aside0.mk ((by rw [hg]; exact (below_size zp23) : w.heap.size ≤ gb237)); have n6_ := Aside0.mk ((by rw [hg]; exact (below_size zp23) : w.heap.size ≤ gb237)); have n7_ := Aside0.mk ((by rw [hg]; exact Nat.ne_of_lt (blk_lt (g := gb224) (o := .cells #[.int .i64 0, .int .i64 0, .int .i64 0] 27 (0, 0)) zp17) : gb224 ≠ gb237)); have n8_ := Aside0.mk ((by rw [hg]; exact Nat.ne_of_gt (blk_lt (g := gb224) (o := .cells #[.int .i64 0, .int .i64 0, .int .i64 0] 27 (0, 0)) zp17) : gb237 ≠ gb224)); have n9_ := Aside0.mk ((by rw [hg]; exact Nat.ne_of_lt (IsS74.lt (show IsS74 w _ g228 t225 t235 t236 from by repeat (first | (with_reducible first | exact HI228.out | apply IsS74.alloc | apply IsS74.drewN | apply IsS74.drew | apply IsS74.set_1 | apply IsS74.set_2 | refine IsS74.far ?_ NB228_224.out _) | exact HI228.out))) : g228 ≠ gb237)); have n10_ := Aside0.mk ((by rw [hg]; exact Nat.ne_of_gt (IsS74.lt (show IsS74 w _ g228 t225 t235 t236 from by repeat (first | (with_reducible first | exact HI228.out | apply IsS74.alloc | apply IsS74.drewN | apply IsS74.drew | apply IsS74.set_1 | apply IsS74.set_2 | refine IsS74.far ?_ NB228_224.out _) | exact HI228.out))) : gb237 ≠ g228)); clear HO234; clear BK224; clear HI228; clear HB; have HO234 := n0_; have BK224 := n1_; have HI228 := n2_; have HB := n3_; have BK237 := n4_; have GW237 := n5_; have GE237 := n6_; have NB224_237 := n7_; have NB237_224 := n8_; have NB228_237 := n9_; have NB237_228 := n10_; clear n0_ n1_ n2_ n3_ n4_ n5_ n6_ n7_ n8_ n9_ n10_; clear hb hbox hg; have hnb30 := NB237_224.out; have hnc30 := NB224_237.out; have hnb31 := NB237_228.out; have hnc31 := NB228_237.out; have hcz32_0 : w29.cell? ⟨gb237, 0, none⟩ = some (.int .i64 0) := (blk_cell BK237.out 0).trans rfl; have hcz32_1 : w29.cell? ⟨gb237, 1, none⟩ = some (.int .i64 0) := (blk_cell BK237.out 1).trans rfl; have hcz32_2 : w29.cell? ⟨gb237, 2, none⟩ = some (.int .i64 0) := (blk_cell BK237.out 2).trans rfl; have hfz32_0 := blk_frozen BK237.out 0; have hfz32_1 := blk_frozen BK237.out 1; have hfz32_2 := blk_frozen BK237.out 2; obtain ⟨Ao33, co33, eo33⟩ := Kd.R_slice HO234.out; subst eo33))
  have n0_ : Aside0 (Kd.R (Kd.int .i64) 3 (((w29.setCell ⟨gb237, 0, none⟩ (.int .i64 t229)).setCell ⟨gb237, 1, none⟩ (.int .i64 t230)).setCell ⟨gb237, 2, none⟩ (.int .i64 t231)) w.heap.size (fun _ => True) (.slice Ao33 t232.length co33) t232) := ⟨by (with_reducible repeat (first | apply Kd.R_alloc | apply Kd.R_drewN | apply Kd.R_drew)); exact Kd.R_mono (Kd.R_far (p := ⟨gb237, 2, none⟩) (Kd.R_far (p := ⟨gb237, 1, none⟩) (Kd.R_far (p := ⟨gb237, 0, none⟩) (Kd.R_types HO234.out BK237.out (by decide)) (fun _ hk => hk.2) (.int .i64 t229)) (fun _ hk => hk.2) (.int .i64 t230)) (fun _ hk => hk.2) (.int .i64 t231)) (fun _ hk => trivial)⟩
  have n1_ : Aside0 ((((w29.setCell ⟨gb237, 0, none⟩ (.int .i64 t229)).setCell ⟨gb237, 1, none⟩ (.int .i64 t230)).setCell ⟨gb237, 2, none⟩ (.int .i64 t231)).heap[gb224]? = some (.cells #[.int .i64 0, .int .i64 0, .int .i64 0] 27 (0, 0))) := ⟨by (with_reducible repeat (first | refine blk_drewN ?_ _ | refine blk_drew ?_ | refine blk_alloc ?_ _)); refine blk_far ?_ NB224_237.out _; (with_reducible repeat (first | refine blk_drewN ?_ _ | refine blk_drew ?_ | refine blk_alloc ?_ _)); refine blk_far ?_ NB224_237.out _; (with_reducible repeat (first | refine blk_drewN ?_ _ | refine blk_drew ?_ | refine blk_alloc ?_ _)); refine blk_far ?_ NB224_237.out _; (with_reducible repeat (first | refine blk_drewN ?_ _ | refine blk_drew ?_ | refine blk_alloc ?_ _)); exact BK224.out⟩
  have n2_ : Aside0 ((((w29.setCell ⟨gb237, 0, none⟩ (.int .i64 t229)).setCell ⟨gb237, 1, none⟩ (.int .i64 t230)).setCell ⟨gb237, 2, none⟩ (.int .i64 t231)).heap[gb237]? = some (.cells #[.int .i64 t229, .int .i64 t230, .int .i64 t231] 27 (0, 0))) := ⟨by (with_reducible repeat (first | refine blk_drewN ?_ _ | refine blk_drew ?_ | refine blk_alloc ?_ _)); refine blk_put (cs := #[.int .i64 t229, .int .i64 t230, .int .i64 0]) ?_ 2 _ rfl; (with_reducible repeat (first | refine blk_drewN ?_ _ | refine blk_drew ?_ | refine blk_alloc ?_ _)); refine blk_put (cs := #[.int .i64 t229, .int .i64 0, .int .i64 0]) ?_ 1 _ rfl; (with_reducible repeat (first | refine blk_drewN ?_ _ | refine blk_drew ?_ | refine blk_alloc ?_ _)); refine blk_put (cs := #[.int .i64 0, .int .i64 0, .int .i64 0]) ?_ 0 _ rfl; (with_reducible repeat (first | refine blk_drewN ?_ _ | refine blk_drew ?_ | refine blk_alloc ?_ _)); exact BK237.out⟩
  have n3_ : Aside0 (IsS74 w (((w29.setCell ⟨gb237, 0, none⟩ (.int .i64 t229)).setCell ⟨gb237, 1, none⟩ (.int .i64 t230)).setCell ⟨gb237, 2, none⟩ (.int .i64 t231)) g228 t225 t235 t236) := ⟨by repeat (first | (with_reducible first | exact HI228.out | apply IsS74.alloc | apply IsS74.drewN | apply IsS74.drew | apply IsS74.set_1 | apply IsS74.set_2 | refine IsS74.far ?_ NB228_224.out _ | refine IsS74.far ?_ NB228_237.out _) | exact HI228.out)⟩
  have n4_ : Aside0 (Below w.heap.size w (((w29.setCell ⟨gb237, 0, none⟩ (.int .i64 t229)).setCell ⟨gb237, 1, none⟩ (.int .i64 t230)).setCell ⟨gb237, 2, none⟩ (.int .i64 t231))) := ⟨by repeat (first | (with_reducible first | exact HB.out | apply below_alloc | apply pw_below_drewN | apply below_drew1 | refine below_set ?_ (IsS74.ge HI228.out) | refine below_set ?_ GE224.out | refine below_set ?_ GE237.out) | exact HB.out)⟩
  (try clear HO234)
  (try clear BK224)
  (try clear BK237)
  (try clear HI228)
  (try clear HB)
  generalize (((w29.setCell ⟨gb237, 0, none⟩ (.int .i64 t229)).setCell ⟨gb237, 1, none⟩ (.int .i64 t230)).setCell ⟨gb237, 2, none⟩ (.int .i64 t231)) = w34 at n0_ n1_ n2_ n3_ n4_ ⊢
  have HO234 := n0_
  have BK224 := n1_
  have BK237 := n2_
  have HI228 := n3_
  have HB := n4_
  clear n0_ n1_ n2_ n3_ n4_
  have n0_ := Aside0.mk (Kd.R_drew HO234.out)
  have n1_ := Aside0.mk (blk_drew BK224.out)
  have n2_ := Aside0.mk (blk_drew BK237.out)
  have n3_ := Aside0.mk (IsS74.drew HI228.out)
  have n4_ := Aside0.mk (below_drew1 HB.out)
  clear HO234
  clear BK224
  clear BK237
  clear HI228
  clear HB
  have HO234 := n0_
  have BK224 := n1_
  have BK237 := n2_
  have HI228 := n3_
  have HB := n4_
  clear n0_ n1_ n2_ n3_ n4_
  refine start_ (n := 8) (S := fun w' => w'.cell? ⟨gb237, 0, none⟩ = some (.int .i64 t229) ∧ w'.cell? ⟨gb237, 1, none⟩ = some (.int .i64 t230) ∧ w'.cell? ⟨gb237, 2, none⟩ = some (.int .i64 t231)) (ds := []) #[false, false, false, false, false, false, false, false] (by kernel_rfl) rfl rfl ⟨(blk_cell BK237.out 0).trans rfl, (blk_cell BK237.out 1).trans rfl, (blk_cell BK237.out 2).trans rfl⟩ (fun hHeld => ?_); refine with_tabW spec_DrawWidthsFor.tab5 spec_DrawWidthsFor.bits5 (fun HT_ HW_ => ?_)
  generalize w34.drew = w35 at HO234 BK224 BK237 HI228 HB hHeld ⊢
  refine pure_ (i := 1) (N := some 21) (v := ?_) (a' := ?_) #[false, true, false, false, false, false, false, false] rfl rfl (any_of HT_.out (by kernel_rfl)) (fun _ _ _ h => h) (Or.inl ⟨by rfl, ?_⟩) ?_ ?_
  rotate_left
  ·intro w'
   go_simp
   with_reducible rfl
  rotate_left
  ·simp only [Act.put, List.setIfInBounds_toArray, List.set_cons_zero, List.set_cons_succ, i64_w, i32_w]
   rfl
  refine pure_ (i := 2) (N := some 22) (v := ?_) (a' := ?_) #[false, true, true, false, false, false, false, false] rfl rfl (any_of HT_.out (by kernel_rfl)) (fun _ _ _ h => h) (Or.inl ⟨by rfl, ?_⟩) ?_ ?_
  rotate_left
  ·intro w'
   go_simp
   with_reducible rfl
  rotate_left
  ·simp only [Act.put, List.setIfInBounds_toArray, List.set_cons_zero, List.set_cons_succ, i64_w, i32_w]
   rfl
  refine take_ (i := 0) (N := some 20) (v := ?_) (a' := ?_) #[true, true, true, false, false, false, false, false] rfl rfl (take_ofW HT_.out HW_.out (by kernel_rfl)) (fun _ _ _ h => h) (Or.inl ⟨by rfl, ?_⟩) hHeld ?_ ?_
  rotate_left
  ·rintro w' ⟨s0, s1, s2⟩
   go_simp
   with_reducible rfl
  rotate_left
  ·simp only [Act.put, List.setIfInBounds_toArray, List.set_cons_zero, List.set_cons_succ, i64_w, i32_w]
   rfl
  refine one_ (i := 3) (N := some 23) #[true, true, true, true, false, false, false, false] rfl rfl (one_of HT_.out (by kernel_rfl)) (by decide) (fun K hK => ?_)
  refine Kd.R_lit_step (Kd.int .i64) _ 3 ?hg (N := 23) ?hd (xs := ([60, 40, 20, 100, 0, (-1), 300, 301] : List Int)) (inner := [.int .i64 60, .int .i64 40, .int .i64 20, .int .i64 100, .int .i64 0, .int .i64 (-1), .int .i64 300, .int .i64 301]) (ok := fun _ => True) (okp := fun _ => True) ?hr ?hp (fun _ hk => hk) trivial (Below.refl _ _) (Nat.le_refl _) zp48 ?_; (case hd => rfl); (case hg => rfl); (case hr => first | (go_simp; done) | (go_simp; rfl)); (case hp => exact (Reps.one (show Kd.M (Kd.int .i64) _ _ _ 60 [.int .i64 60] from rfl) (Reps.one (show Kd.M (Kd.int .i64) _ _ _ 40 [.int .i64 40] from rfl) (Reps.one (show Kd.M (Kd.int .i64) _ _ _ 20 [.int .i64 20] from rfl) (Reps.one (show Kd.M (Kd.int .i64) _ _ _ 100 [.int .i64 100] from rfl) (Reps.one (show Kd.M (Kd.int .i64) _ _ _ 0 [.int .i64 0] from rfl) (Reps.one (show Kd.M (Kd.int .i64) _ _ _ (-1) [.int .i64 (-1)] from rfl) (Reps.one (show Kd.M (Kd.int .i64) _ _ _ 300 [.int .i64 300] from rfl) (Reps.one (show Kd.M (Kd.int .i64) _ _ _ 301 [.int .i64 301] from rfl) (Reps.none _ _))))))))))
  intro v248 w36 ho37 hb hg_ hnew_
  clear hg_ hnew_
  (first | rw [← Ny247.out] at ho37 | (simp only [Int.reduceToNat] at ho37; rw [← Ny247.out] at ho37))
  have n0_ := Aside0.mk (Kd.R_elder' zp59 (Kd.R_base ho37) hb)
  have n1_ := Aside0.mk (Kd.R_lower (Kd.R_new' ho37 (Kd.R_lt zp59)) (below_size zp31))
  have n2_ := Aside0.mk (blk_below (g := gb224) (o := .cells #[.int .i64 0, .int .i64 0, .int .i64 0] 27 (0, 0)) zp17 hb)
  have n3_ := Aside0.mk (IsS74.below zp49 hb)
  have n4_ := Aside0.mk (blk_below (g := gb237) (o := .cells #[.int .i64 t229, .int .i64 t230, .int .i64 t231] 27 (0, 0)) zp64 hb)
  have n5_ := Aside0.mk (below_step zp31 hb)
  clear HO234
  clear BK224
  clear HI228
  clear BK237
  clear HB
  have HO234 := n0_
  have HO249 := n1_
  have BK224 := n2_
  have HI228 := n3_
  have BK237 := n4_
  have HB := n5_
  clear n0_ n1_ n2_ n3_ n4_ n5_
  clear hb ho37
  obtain ⟨Ao38, co38, eo38⟩ := Kd.R_slice HO249.out
  (first | subst eo38 | (injection eo38 with f1_ f2_ f3_; have f4_ := f1_.symm; have f5_ := f3_.symm; clear f1_ f2_ f3_; subst f4_; subst f5_))
  refine hK.out _ _ ⟨(blk_cell BK237.out 0).trans rfl, (blk_cell BK237.out 1).trans rfl, (blk_cell BK237.out 2).trans rfl⟩ (fun hHeld => ?_)
  clear hK K
  refine norm_ (a' := ?_) ?_ ?_
  rotate_left
  ·show Act.put _ (some 23) _ = _
   simp only [Act.put, List.setIfInBounds_toArray, List.set_cons_zero, List.set_cons_succ, i64_w, i32_w]
   rfl
  refine one_ (i := 4) (N := some 24) #[true, true, true, true, true, false, false, false] rfl rfl (one_of HT_.out (by kernel_rfl)) (by decide) (fun K hK => ?_)
  refine goes_ Try.func57 (by kernel_rfl) rfl #[.pointer (some ⟨g228, 0, none⟩), .slice Ao38 y247.length co38] (by rfl) rfl rfl zp1 ?_
  with_reducible refine (spec_l01Int.calls g228 t225 t235 t236 _ _ y247 t250 t251 t252 w _ ?side1 ?side2 ?side3 ?side4 ?side5 A25.out).mono ?_
  (case side1 => repeat (first | (with_reducible first | exact HI228.out | apply IsS74.alloc | apply IsS74.drewN | apply IsS74.drew | apply IsS74.set_1 | apply IsS74.set_2 | refine IsS74.far ?_ NB228_224.out _ | refine IsS74.far ?_ NB228_237.out _) | exact HI228.out))
  (case side2 => repeat (first | (with_reducible first | exact HB.out | apply below_alloc | apply pw_below_drewN | apply below_drew1 | refine below_set ?_ (IsS74.ge HI228.out) | refine below_set ?_ GE224.out | refine below_set ?_ GE237.out) | exact HB.out))
  (case side3 => repeat (first | exact (Kd.R_reads' HO249.out).2.2 | (with_reducible refine Kd.C_alloc ?_ _) | (with_reducible refine Kd.C_drewN ?_ _) | (with_reducible refine Kd.C_drew ?_)))
  (case side4 => exact (Kd.R_reads' HO249.out).2.1)
  (case side5 => exact far_slice (IsS74.own_ne HI228.out HO249.out (by decide)))
  rintro e w39 ⟨rfl, hi, hb, hk⟩
  refine ⟨_, rfl, ?_⟩
  have n0_ := Aside0.mk (KeepBut.blk hk (g' := gb224) (o := .cells #[.int .i64 0, .int .i64 0, .int .i64 0] 27 (0, 0)) zp17 NB224_228.out zp48)
  have n1_ := Aside0.mk (Kd.R_mono (Kd.R_keep (IsS74.apart (show IsS74 w _ g228 t225 t235 t236 from by repeat (first | (with_reducible first | exact HI228.out | apply IsS74.alloc | apply IsS74.drewN | apply IsS74.drew | apply IsS74.set_1 | apply IsS74.set_2 | refine IsS74.far ?_ NB228_224.out _ | refine IsS74.far ?_ NB228_237.out _) | exact HI228.out)) zp59 (by decide)) hk (fun _ h => h.2)) (fun _ h => h.1))
  have n2_ := Aside0.mk (KeepBut.blk hk (g' := gb237) (o := .cells #[.int .i64 t229, .int .i64 t230, .int .i64 t231] 27 (0, 0)) zp64 NB237_228.out zp48)
  have n3_ := Aside0.mk (Kd.R_mono (Kd.R_keep (IsS74.apart (show IsS74 w _ g228 t225 t235 t236 from by repeat (first | (with_reducible first | exact HI228.out | apply IsS74.alloc | apply IsS74.drewN | apply IsS74.drew | apply IsS74.set_1 | apply IsS74.set_2 | refine IsS74.far ?_ NB228_224.out _ | refine IsS74.far ?_ NB228_237.out _) | exact HI228.out)) (by (with_reducible repeat (first | apply Kd.R_alloc | apply Kd.R_drewN | apply Kd.R_drew)); exact HO249.out) (by decide)) hk (fun _ h => h.2)) (fun _ h => h.1))
  have n4_ := Aside0.mk (hb)
  have n5_ := Aside0.mk (hi)
  clear BK224
  clear HO234
  clear BK237
  clear HO249
  clear HB
  clear HI228
  have BK224 := n0_
  have HO234 := n1_
  have BK237 := n2_
  have HO249 := n3_
  have HB := n4_
  have HI228 := n5_
  clear n0_ n1_ n2_ n3_ n4_ n5_
  (try clear hb)
  (try clear hb2)
  (try clear hk)
  (try clear hi)
  refine hK.out _ _ ⟨(blk_cell BK237.out 0).trans rfl, (blk_cell BK237.out 1).trans rfl, (blk_cell BK237.out 2).trans rfl⟩ (fun hHeld => ?_)
  clear hK K
  refine norm_ (a' := ?_) ?_ ?_
  rotate_left
  ·show Act.put _ (some 24) _ = _
   simp only [Act.put, List.setIfInBounds_toArray, List.set_cons_zero, List.set_cons_succ, i64_w, i32_w]
   rfl
  refine one_ (i := 5) (N := none) #[true, true, true, true, true, true, false, false] rfl rfl (one_of HT_.out (by kernel_rfl)) (by decide) (fun K hK => ?_)
  have hs40 : w39.cell? ⟨gb224, 0, none⟩ = some (.int .i64 0) := (blk_cell BK224.out 0).trans rfl
  have hfs40 := blk_frozen BK224.out 0
  have hns40_1 := NB237_224.out
  have hms40_1 := NB224_237.out
  have hs41 : w39.cell? ⟨gb224, 1, none⟩ = some (.int .i64 0) := (blk_cell BK224.out 1).trans rfl
  have hfs41 := blk_frozen BK224.out 1
  have hns41_1 := NB237_224.out
  have hms41_1 := NB224_237.out
  have hs42 : w39.cell? ⟨gb224, 2, none⟩ = some (.int .i64 0) := (blk_cell BK224.out 2).trans rfl
  have hfs42 := blk_frozen BK224.out 2
  have hns42_1 := NB237_224.out
  have hms42_1 := NB224_237.out
  refine skip_ (w1 := ?_) (by rfl) rfl ?_ ?_
  rotate_left
  ·go_simp
   rfl
  refine hK.out _ _ ⟨((cell_far (p := ⟨gb224, _, none⟩) NB237_224.out _).trans (((cell_far (p := ⟨gb224, _, none⟩) NB237_224.out _).trans (((cell_far (p := ⟨gb224, _, none⟩) NB237_224.out _).trans (hHeld.1)))))), ((cell_far (p := ⟨gb224, _, none⟩) NB237_224.out _).trans (((cell_far (p := ⟨gb224, _, none⟩) NB237_224.out _).trans (((cell_far (p := ⟨gb224, _, none⟩) NB237_224.out _).trans (hHeld.2.1)))))), ((cell_far (p := ⟨gb224, _, none⟩) NB237_224.out _).trans (((cell_far (p := ⟨gb224, _, none⟩) NB237_224.out _).trans (((cell_far (p := ⟨gb224, _, none⟩) NB237_224.out _).trans (hHeld.2.2))))))⟩ (fun hHeld => ?_)
  clear hK K
  refine pure_ (i := 6) (N := some 3) (v := ?_) (a' := ?_) #[true, true, true, true, true, true, true, false] rfl rfl (any_of HT_.out (by kernel_rfl)) (fun _ _ _ h => h) (Or.inl ⟨by rfl, ?_⟩) ?_ ?_
  rotate_left
  ·intro w'
   go_simp
   with_reducible rfl
  rotate_left
  ·simp only [Act.put, List.setIfInBounds_toArray, List.set_cons_zero, List.set_cons_succ, i64_w, i32_w]
   rfl
  refine pure_ (i := 7) (N := some 4) (v := ?_) (a' := ?_) #[true, true, true, true, true, true, true, true] rfl rfl (any_of HT_.out (by kernel_rfl)) (fun _ _ _ h => h) (Or.inl ⟨by rfl, ?_⟩) ?_ ?_
  rotate_left
  ·intro w'
   go_simp
   with_reducible rfl
  rotate_left
  ·simp only [Act.put, List.setIfInBounds_toArray, List.set_cons_zero, List.set_cons_succ, i64_w, i32_w]
   rfl
  refine done_ (done_of HT_.out (by kernel_rfl)) ?_
  try go_wp2
  refine bodyPost_ret (results_ctt rfl _ _ gb224 27 #[.int .i64 t229, .int .i64 t230, .int .i64 t231] (0, 0) _ rfl zp38 Try.underlying27 rfl (by kernel_rfl)) rfl ?_
  exact ⟨_, by first | rfl | (simp [errW_none, errW_some] <;> rfl) | (simp [*, errW_none, errW_some] <;> rfl), by (with_reducible repeat (first | apply Kd.R_alloc | apply Kd.R_drewN | apply Kd.R_drew)); exact Kd.R_mono (Kd.R_far (p := ⟨gb224, 2, none⟩) (Kd.R_far (p := ⟨gb224, 1, none⟩) (Kd.R_far (p := ⟨gb224, 0, none⟩) (Kd.R_types HO234.out BK224.out (by decide)) (fun _ hk => hk.2) (.int .i64 t229)) (fun _ hk => hk.2) (.int .i64 t230)) (fun _ hk => hk.2) (.int .i64 t231)) (fun _ hk => trivial), by repeat (first | (with_reducible first | exact HB.out | apply below_alloc | apply pw_below_drewN | apply below_drew1 | refine below_set ?_ (IsS74.ge HI228.out) | refine below_set ?_ GE224.out | refine below_set ?_ GE237.out) | exact HB.out)⟩
def impl_MeasureOk.f (a0_0 : Int) (a0_1 : Int) (a0_2 : Int) : Option (Bool) := if a0_0 ≥ 1 then (if a0_0 ≤ 2000 then (if a0_1 ≥ 1 then (if a0_1 ≤ 100 then (if a0_2 ≥ a0_1 then (some (decide (a0_2 ≤ 100))) else (some false)) else (some false)) else (some false)) else (some false)) else (some false)
set_option maxHeartbeats 8000000 in
set_option maxRecDepth 100000 in
theorem impl_MeasureOk.calls (a0_0 : Int) (a0_1 : Int) (a0_2 : Int) (r : Bool) (w : World) (h : impl_MeasureOk.f a0_0 a0_1 a0_2 = some r) :
 Calls Try.prog 63 #[.agg #[.int .i64 a0_0, .int .i64 a0_1, .int .i64 a0_2]] w fun e w' => e = .returned (.bool r) ∧ Below w.heap.size w w' := by
 have hu27 := Try.underlying27
 have HB := Aside0.mk (Below.refl w.heap.size w)
 have H : (if a0_0 ≥ 1 then (if a0_0 ≤ 2000 then (if a0_1 ≥ 1 then (if a0_1 ≤ 100 then (if a0_2 ≥ a0_1 then (some (decide (a0_2 ≤ 100))) else (some false)) else (some false)) else (some false)) else (some false)) else (some false)) = some r := h
 clear h
 by_cases c2 : a0_0 ≥ 1
 ·rw [if_pos c2] at H
  have c2b0 : decide (1 ≤ a0_0) = true := decide_eq_true c2
  clear c2
  by_cases c3 : a0_0 ≤ 2000
  ·rw [if_pos c3] at H
   have c3b0 : decide (a0_0 ≤ 2000) = true := decide_eq_true c3
   clear c3
   by_cases c4 : a0_1 ≥ 1
   ·rw [if_pos c4] at H
    have c4b0 : decide (1 ≤ a0_1) = true := decide_eq_true c4
    clear c4
    by_cases c5 : a0_1 ≤ 100
    ·rw [if_pos c5] at H
     have c5b0 : decide (a0_1 ≤ 100) = true := decide_eq_true c5
     clear c5
     by_cases c6 : a0_2 ≥ a0_1
     ·rw [if_pos c6] at H
      have c6b0 : decide (a0_1 ≤ a0_2) = true := decide_eq_true c6
      clear c6
      obtain rfl := Option.some.inj H
      go_enter Try.func63, Try.ntmps63
      go_wp2_with (first | ((with_reducible refine gate_dst (N := 1) rfl ?_); refine box_event ?hg (N := 1) ?hd (cs := #[.int .i64 a0_0, .int .i64 a0_1, .int .i64 a0_2]) (t := 27) ?hr ?_; (case hd => rfl); (case hg => rfl); (case hr => first | (go_simp; done) | (go_simp; rfl)); intro gb253 hg w7 hbox hb; have n0_ := Aside0.mk (below_step zp0 hb); have n1_ := Aside0.mk (hbox); have n2_ := Aside0.mk ((zp13 : w.heap.size ≤ gb253)); have n3_ := Aside0.mk ((zp13 : w.heap.size ≤ gb253)); clear HB; have HB := n0_; have BK253 := n1_; have GW253 := n2_; have GE253 := n3_; clear n0_ n1_ n2_ n3_; clear hb hbox hg; have hcz8_0 : w7.cell? ⟨gb253, 0, none⟩ = some (.int .i64 a0_0) := (blk_cell BK253.out 0).trans rfl; have hcz8_1 : w7.cell? ⟨gb253, 1, none⟩ = some (.int .i64 a0_1) := (blk_cell BK253.out 1).trans rfl; have hcz8_2 : w7.cell? ⟨gb253, 2, none⟩ = some (.int .i64 a0_2) := (blk_cell BK253.out 2).trans rfl; have hfz8_0 := blk_frozen BK253.out 0; have hfz8_1 := blk_frozen BK253.out 1; have hfz8_2 := blk_frozen BK253.out 2))
      go_ret
      exact ⟨by first | rfl | (simp [errW_none, errW_some] <;> rfl) | (simp [*, errW_none, errW_some] <;> rfl), by repeat (first | (with_reducible first | exact HB.out | apply below_alloc | apply pw_below_drewN | apply below_drew1 | refine below_set ?_ GE253.out) | exact HB.out)⟩
     ·rw [if_neg c6] at H
      have c6b0 : decide (a0_1 ≤ a0_2) = false := decide_eq_false c6
      clear c6
      obtain rfl := Option.some.inj H
      go_enter Try.func63, Try.ntmps63
      go_wp2_with (first | ((with_reducible refine gate_dst (N := 1) rfl ?_); refine box_event ?hg (N := 1) ?hd (cs := #[.int .i64 a0_0, .int .i64 a0_1, .int .i64 a0_2]) (t := 27) ?hr ?_; (case hd => rfl); (case hg => rfl); (case hr => first | (go_simp; done) | (go_simp; rfl)); intro gb253 hg w9 hbox hb; have n0_ := Aside0.mk (below_step zp0 hb); have n1_ := Aside0.mk (hbox); have n2_ := Aside0.mk ((zp13 : w.heap.size ≤ gb253)); have n3_ := Aside0.mk ((zp13 : w.heap.size ≤ gb253)); clear HB; have HB := n0_; have BK253 := n1_; have GW253 := n2_; have GE253 := n3_; clear n0_ n1_ n2_ n3_; clear hb hbox hg; have hcz10_0 : w9.cell? ⟨gb253, 0, none⟩ = some (.int .i64 a0_0) := (blk_cell BK253.out 0).trans rfl; have hcz10_1 : w9.cell? ⟨gb253, 1, none⟩ = some (.int .i64 a0_1) := (blk_cell BK253.out 1).trans rfl; have hcz10_2 : w9.cell? ⟨gb253, 2, none⟩ = some (.int .i64 a0_2) := (blk_cell BK253.out 2).trans rfl; have hfz10_0 := blk_frozen BK253.out 0; have hfz10_1 := blk_frozen BK253.out 1; have hfz10_2 := blk_frozen BK253.out 2))
      go_ret
      exact ⟨by first | rfl | (simp [errW_none, errW_some] <;> rfl) | (simp [*, errW_none, errW_some] <;> rfl), by repeat (first | (with_reducible first | exact HB.out | apply below_alloc | apply pw_below_drewN | apply below_drew1 | refine below_set ?_ GE253.out) | exact HB.out)⟩
    ·rw [if_neg c5] at H
     have c5b0 : decide (a0_1 ≤ 100) = false := decide_eq_false c5
     clear c5
     obtain rfl := Option.some.inj H
     go_enter Try.func63, Try.ntmps63
     go_wp2_with (first | ((with_reducible refine gate_dst (N := 1) rfl ?_); refine box_event ?hg (N := 1) ?hd (cs := #[.int .i64 a0_0, .int .i64 a0_1, .int .i64 a0_2]) (t := 27) ?hr ?_; (case hd => rfl); (case hg => rfl); (case hr => first | (go_simp; done) | (go_simp; rfl)); intro gb253 hg w11 hbox hb; have n0_ := Aside0.mk (below_step zp0 hb); have n1_ := Aside0.mk (hbox); have n2_ := Aside0.mk ((zp13 : w.heap.size ≤ gb253)); have n3_ := Aside0.mk ((zp13 : w.heap.size ≤ gb253)); clear HB; have HB := n0_; have BK253 := n1_; have GW253 := n2_; have GE253 := n3_; clear n0_ n1_ n2_ n3_; clear hb hbox hg; have hcz12_0 : w11.cell? ⟨gb253, 0, none⟩ = some (.int .i64 a0_0) := (blk_cell BK253.out 0).trans rfl; have hcz12_1 : w11.cell? ⟨gb253, 1, none⟩ = some (.int .i64 a0_1) := (blk_cell BK253.out 1).trans rfl; have hcz12_2 : w11.cell? ⟨gb253, 2, none⟩ = some (.int .i64 a0_2) := (blk_cell BK253.out 2).trans rfl; have hfz12_0 := blk_frozen BK253.out 0; have hfz12_1 := blk_frozen BK253.out 1; have hfz12_2 := blk_frozen BK253.out 2))
     go_ret
     exact ⟨by first | rfl | (simp [errW_none, errW_some] <;> rfl) | (simp [*, errW_none, errW_some] <;> rfl), by repeat (first | (with_reducible first | exact HB.out | apply below_alloc | apply pw_below_drewN | apply below_drew1 | refine below_set ?_ GE253.out) | exact HB.out)⟩
   ·rw [if_neg c4] at H
    have c4b0 : decide (1 ≤ a0_1) = false := decide_eq_false c4
    clear c4
    obtain rfl := Option.some.inj H
    go_enter Try.func63, Try.ntmps63
    go_wp2_with (first | ((with_reducible refine gate_dst (N := 1) rfl ?_); refine box_event ?hg (N := 1) ?hd (cs := #[.int .i64 a0_0, .int .i64 a0_1, .int .i64 a0_2]) (t := 27) ?hr ?_; (case hd => rfl); (case hg => rfl); (case hr => first | (go_simp; done) | (go_simp; rfl)); intro gb253 hg w13 hbox hb; have n0_ := Aside0.mk (below_step zp0 hb); have n1_ := Aside0.mk (hbox); have n2_ := Aside0.mk ((zp13 : w.heap.size ≤ gb253)); have n3_ := Aside0.mk ((zp13 : w.heap.size ≤ gb253)); clear HB; have HB := n0_; have BK253 := n1_; have GW253 := n2_; have GE253 := n3_; clear n0_ n1_ n2_ n3_; clear hb hbox hg; have hcz14_0 : w13.cell? ⟨gb253, 0, none⟩ = some (.int .i64 a0_0) := (blk_cell BK253.out 0).trans rfl; have hcz14_1 : w13.cell? ⟨gb253, 1, none⟩ = some (.int .i64 a0_1) := (blk_cell BK253.out 1).trans rfl; have hcz14_2 : w13.cell? ⟨gb253, 2, none⟩ = some (.int .i64 a0_2) := (blk_cell BK253.out 2).trans rfl; have hfz14_0 := blk_frozen BK253.out 0; have hfz14_1 := blk_frozen BK253.out 1; have hfz14_2 := blk_frozen BK253.out 2))
    go_ret
    exact ⟨by first | rfl | (simp [errW_none, errW_some] <;> rfl) | (simp [*, errW_none, errW_some] <;> rfl), by repeat (first | (with_reducible first | exact HB.out | apply below_alloc | apply pw_below_drewN | apply below_drew1 | refine below_set ?_ GE253.out) | exact HB.out)⟩
  ·rw [if_neg c3] at H
   have c3b0 : decide (a0_0 ≤ 2000) = false := decide_eq_false c3
   clear c3
   obtain rfl := Option.some.inj H
   go_enter Try.func63, Try.ntmps63
   go_wp2_with (first | ((with_reducible refine gate_dst (N := 1) rfl ?_); refine box_event ?hg (N := 1) ?hd (cs := #[.int .i64 a0_0, .int .i64 a0_1, .int .i64 a0_2]) (t := 27) ?hr ?_; (case hd => rfl); (case hg => rfl); (case hr => first | (go_simp; done) | (go_simp; rfl)); intro gb253 hg w15 hbox hb; have n0_ := Aside0.mk (below_step zp0 hb); have n1_ := Aside0.mk (hbox); have n2_ := Aside0.mk ((zp13 : w.heap.size ≤ gb253)); have n3_ := Aside0.mk ((zp13 : w.heap.size ≤ gb253)); clear HB; have HB := n0_; have BK253 := n1_; have GW253 := n2_; have GE253 := n3_; clear n0_ n1_ n2_ n3_; clear hb hbox hg; have hcz16_0 : w15.cell? ⟨gb253, 0, none⟩ = some (.int .i64 a0_0) := (blk_cell BK253.out 0).trans rfl; have hcz16_1 : w15.cell? ⟨gb253, 1, none⟩ = some (.int .i64 a0_1) := (blk_cell BK253.out 1).trans rfl; have hcz16_2 : w15.cell? ⟨gb253, 2, none⟩ = some (.int .i64 a0_2) := (blk_cell BK253.out 2).trans rfl; have hfz16_0 := blk_frozen BK253.out 0; have hfz16_1 := blk_frozen BK253.out 1; have hfz16_2 := blk_frozen BK253.out 2))
   go_ret
   exact ⟨by first | rfl | (simp [errW_none, errW_some] <;> rfl) | (simp [*, errW_none, errW_some] <;> rfl), by repeat (first | (with_reducible first | exact HB.out | apply below_alloc | apply pw_below_drewN | apply below_drew1 | refine below_set ?_ GE253.out) | exact HB.out)⟩
 ·rw [if_neg c2] at H
  have c2b0 : decide (1 ≤ a0_0) = false := decide_eq_false c2
  clear c2
  obtain rfl := Option.some.inj H
  go_enter Try.func63, Try.ntmps63
  go_wp2_with (first | ((with_reducible refine gate_dst (N := 1) rfl ?_); refine box_event ?hg (N := 1) ?hd (cs := #[.int .i64 a0_0, .int .i64 a0_1, .int .i64 a0_2]) (t := 27) ?hr ?_; (case hd => rfl); (case hg => rfl); (case hr => first | (go_simp; done) | (go_simp; rfl)); intro gb253 hg w17 hbox hb; have n0_ := Aside0.mk (below_step zp0 hb); have n1_ := Aside0.mk (hbox); have n2_ := Aside0.mk ((zp13 : w.heap.size ≤ gb253)); have n3_ := Aside0.mk ((zp13 : w.heap.size ≤ gb253)); clear HB; have HB := n0_; have BK253 := n1_; have GW253 := n2_; have GE253 := n3_; clear n0_ n1_ n2_ n3_; clear hb hbox hg; have hcz18_0 : w17.cell? ⟨gb253, 0, none⟩ = some (.int .i64 a0_0) := (blk_cell BK253.out 0).trans rfl; have hcz18_1 : w17.cell? ⟨gb253, 1, none⟩ = some (.int .i64 a0_1) := (blk_cell BK253.out 1).trans rfl; have hcz18_2 : w17.cell? ⟨gb253, 2, none⟩ = some (.int .i64 a0_2) := (blk_cell BK253.out 2).trans rfl; have hfz18_0 := blk_frozen BK253.out 0; have hfz18_1 := blk_frozen BK253.out 1; have hfz18_2 := blk_frozen BK253.out 2))
  go_ret
  exact ⟨by first | rfl | (simp [errW_none, errW_some] <;> rfl) | (simp [*, errW_none, errW_some] <;> rfl), by repeat (first | (with_reducible first | exact HB.out | apply below_alloc | apply pw_below_drewN | apply below_drew1 | refine below_set ?_ GE253.out) | exact HB.out)⟩
def outB (lo hi x : Int) : Bool := decide (x < lo) || decide (hi < x)
def impl_between.f (l0 : List Int) (a1 a2 : Int) : Option Bool := some (!l0.any (outB a1 a2))
theorem C_int_cell {w : World} {A : Option Addr} {l : List Int} {k : IntKind} (h : Kd.C (Kd.int k) w A l.length l) : 0 < l.length → ∃ ad, A = some ad ∧ ∀ j : Nat, j < l.length → w.cell? (ad.add j) = some (.int k (l.getD j 0)) := by
 intro hp
 obtain ⟨ad, e, hc⟩ := h.2.2 hp
 refine ⟨ad, e, fun j hj => ?_⟩
 obtain ⟨c, hs, hr, hcell⟩ := hc j _ (List.getElem?_eq_getElem hj)
 have hr' : c = [.int k l[j]] := hr
 subst hr'
 have := hcell 0 _ rfl
 rw [List.getD_eq_getElem?_getD, List.getElem?_eq_getElem hj]
 simpa [Kd.int, Kd.scalar] using this
theorem any_take_succ (l : List Int) (f : Int → Bool) (k : Nat) (h : k < l.length) : (l.take (k + 1)).any f = ((l.take k).any f || f (l.getD k 0)) := by
 rw [List.take_succ_eq_append_getElem h, List.any_append, List.getD_eq_getElem?_getD, List.getElem?_eq_getElem h]; simp
theorem any_of_get (l : List Int) (f : Int → Bool) (k : Nat) (h : k < l.length) (hf : f (l.getD k 0) = true) : l.any f = true := by
 rw [List.any_eq_true]; rw [List.getD_eq_getElem?_getD, List.getElem?_eq_getElem h] at hf; exact ⟨l[k], List.getElem_mem h, hf⟩
set_option maxHeartbeats 400000 in
theorem impl_between.one (x lo hi : Int) (p q : Addr) (w : World) (h1 : w.cell? p = some (.int .i64 lo)) (h2 : w.cell? q = some (.int .i64 hi)) :
 Calls Try.prog 80 #[.int .i64 x, .pointer (some p), .pointer (some q)] w fun e w' => e = .returned (.bool (outB lo hi x)) ∧ w = w' := by
 unfold outB
 by_cases h : x < lo
 ·have hd : decide (x < lo) = true := decide_eq_true h
  go_enter Try.func80, Try.ntmps80
  go_wp2
  go_ret
  exact ⟨by simp [h], rfl⟩
 ·have hd : decide (x < lo) = false := decide_eq_false h
  go_enter Try.func80, Try.ntmps80
  go_wp2
  go_ret
  exact ⟨by simp, rfl⟩
set_option maxHeartbeats 800000 in
theorem impl_between.idx (A : Option Addr) (c : Nat) (l : List Int) (lo hi : Int) (p q : Addr) (w : World) (h1 : w.cell? p = some (.int .i64 lo)) (h2 : w.cell? q = some (.int .i64 hi))
 (hr : Kd.C (Kd.int .i64) w A l.length l) :
 Calls Try.prog 81 #[.slice A l.length c, .func (.func 80) #[] #[.pointer (some p), .pointer (some q)]] w fun e w' => (∃ r : Int, e = .returned (.int .i64 r) ∧ decide (r ≥ 0) = l.any (outB lo hi)) ∧ w = w' := by
 have hm := hr.2.1
 have hcell := C_int_cell hr
 clear hr
 go_enter Try.func81, Try.ntmps81
 go_wp2
 go_loop [8] (fun i => ∃ k : Nat, k ≤ l.length ∧ i = .int .i64 k ∧ Hid ((l.take k).any (outB lo hi) = false)) (fun i => l.length - (intOf i).toNat)
 case atStart => exact ⟨0, Nat.zero_le _, rfl, Lib.hid zp48⟩
 case round =>
  obtain ⟨k, hk, rfl, hany⟩ := hrel
  by_cases hlt : k < l.length
  ·obtain ⟨ad, rfl, hc⟩ := hcell zp71
   obtain ⟨x, hx⟩ : ∃ x, x = l.getD k 0 := ⟨_, rfl⟩
   have hck := hc k hlt
   rw [← hx] at hck
   have HX := Lib.hid hx
   clear hc hcell hx
   cases hb : outB lo hi x with
   | true =>
    have HB := Lib.hid hb
    clear hb
    go_wp2_with (refine (impl_between.one _ lo hi p q _ h1 h2).mono ?_; rintro e w' ⟨rfl, rfl⟩; rw [HB.out])
    go_ret
    exact ⟨⟨k, rfl, by rw [any_of_get l _ k hlt (by rw [← HX.out]; exact HB.out)]; simp⟩, rfl⟩
   | false =>
    have HB := Lib.hid hb
    clear hb
    go_wp2_with (refine (impl_between.one _ lo hi p q _ h1 h2).mono ?_; rintro e w' ⟨rfl, rfl⟩; rw [HB.out])
    go_round
    case rel => exact ⟨k + 1, by omega, by go_num, Lib.hid (by rw [any_take_succ l _ k hlt, hany.out, ← HX.out, HB.out]; rfl)⟩
    case measure => simp [intOf]; omega
  ·go_wp2
   go_ret
   exact ⟨⟨-1, rfl, by have := hany.out; rw [List.take_of_length_le zp71] at this; rw [this]; rfl⟩, rfl⟩
set_option maxHeartbeats 400000 in
theorem impl_between.cont (A : Option Addr) (c : Nat) (l : List Int) (lo hi : Int) (p q : Addr) (w : World) (h1 : w.cell? p = some (.int .i64 lo)) (h2 : w.cell? q = some (.int .i64 hi))
 (hr : Kd.C (Kd.int .i64) w A l.length l) :
 Calls Try.prog 79 #[.slice A l.length c, .func (.func 80) #[] #[.pointer (some p), .pointer (some q)]] w fun e w' => e = .returned (.bool (l.any (outB lo hi))) ∧ w = w' := by
 go_enter Try.func79, Try.ntmps79
 go_wp2_with (refine (impl_between.idx A c l lo hi p q _ h1 h2 hr).mono ?_; rintro e w' ⟨⟨r, rfl, hr2⟩, rfl⟩; have H2 := Lib.hid hr2; clear hr2)
 go_ret
 exact ⟨by rw [← H2.out]; rfl, rfl⟩
set_option maxHeartbeats 400000 in
theorem impl_between.calls (A0 : Option Addr) (c0 : Nat) (l0 : List Int) (a1 a2 : Int) (r : Bool) (w : World) (hr0 : Kd.C (Kd.int .i64) w A0 l0.length l0) (_hc0 : l0.length ≤ c0) (h : impl_between.f l0 a1 a2 = some r) :
 Calls Try.prog 77 #[.slice A0 l0.length c0, .int .i64 a1, .int .i64 a2] w fun e w' => e = .returned (.bool r) ∧ Below w.heap.size w w' := by
 obtain rfl := Option.some.inj h
 have HB : Below w.heap.size w ((w.alloc (Obj.cells #[Value.int IntKind.i64 a1] 3)).alloc (Obj.cells #[Value.int IntKind.i64 a2] 3)) := ((Below.refl _ _).alloc (Nat.le_refl _) _).alloc zp48 _
 have hr1 := Kd.C_below hr0 HB
 have HBh := Lib.hid HB
 clear HB hr0 h
 go_enter Try.func77, Try.ntmps77
 go_wp2_with (refine (impl_between.cont A0 c0 l0 a1 a2 _ _ _ (by go_simp) (by go_simp) hr1).mono ?_; rintro e w' ⟨rfl, rfl⟩)
 go_ret
 exact ⟨rfl, HBh.out⟩
end Go.Proofs.Ytnbmlblcmjaclaa.PFnWidths
