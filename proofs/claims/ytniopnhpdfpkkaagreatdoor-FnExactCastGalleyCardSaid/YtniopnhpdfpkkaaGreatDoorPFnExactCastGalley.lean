/- What each function that the law FnExactCastGalley reaches computes, as a plain function, and the proof that the program's code computes it. No condition but the function's own answer. -/
import Derived.Test.YtniopnhpdfpkkaaGreatDoorPFnExactCastGalleya
namespace Go.Tree
open Go Go.Proofs
set_option linter.unusedVariables false
set_option maxRecDepth 100000
def impl_items_arg : Sh := ⟨[(0, .agg [.str, .rd [] .i64, .rd [] .i64]), (1, .c (.rd [] .mat))], [], []⟩
def impl_items_res : List Sh := [⟨[(0, .c (.own 0))], [], [(0, .i64)]⟩]
noncomputable def impl_items_s0 (x : (Unit × Unit × List (Int × Int) × Int × Int × Unit) × ((ByteArray × List Int × List Int × Unit) × Unit) × (List Int × Unit)) : Option (((Unit × Unit × List (Int × Int) × Int × Int × Unit) × ((ByteArray × List Int × List Int × Unit) × Unit) × (List Int × Unit)) ⊕ ((Unit × Unit) × Unit × (List Int × Unit))) :=
 let x1 : Bool := decide (x.1.2.2.2.2.1 < x.1.2.2.2.1);
 br x1
 (ck (0 ≤ x.1.2.2.2.2.1)
 (ck (x.1.2.2.2.2.1.toNat < x.1.2.2.1.length)
 (let x2 : Int × Int := x.1.2.2.1.getD x.1.2.2.2.2.1.toNat (0, 0);
 (impl_isBand x2.1 x2.2).bind fun r3 =>
 br r3.1.1
 (ck ((x.2.2.1.length + [(0 : Int)].length) * 8 ≤ 140737488355328 ∧ (x.2.2.1.length + [(0 : Int)].length) ≤ 9223372036854775807)
 (let x4 : List Int := x.2.2.1 ++ [(0 : Int)];
 let x5 : Int := w64 (x.1.2.2.2.2.1 + (1 : Int));
 some (.inl (((), (), x.1.2.2.1, x.1.2.2.2.1, x5, ()), ((x.2.1.1.1, x.2.1.1.2.1, x.2.1.1.2.2.1, ()), ()), (x4, ())))))
 (ck (0 ≤ x2.1)
 (ck (x2.1.toNat < x.2.1.1.2.1.length)
 (let x6 : Int := x.2.1.1.2.1.getD x2.1.toNat 0;
 ck ((x.2.2.1.length + [x6].length) * 8 ≤ 140737488355328 ∧ (x.2.2.1.length + [x6].length) ≤ 9223372036854775807)
 (let x7 : List Int := x.2.2.1 ++ [x6];
 let x8 : Int := w64 (x.1.2.2.2.2.1 + (1 : Int));
 some (.inl (((), (), x.1.2.2.1, x.1.2.2.2.1, x8, ()), ((x.2.1.1.1, x.2.1.1.2.1, x.2.1.1.2.2.1, ()), ()), (x7, ()))))))))))
 (some (.inr (((), ()), (), (x.2.2.1, ()))))
def impl_items_h0 : Sh := ⟨[(2, .c (.box 0 0)), (5, .c (.own 0)), (9, .c (.rd [] .mat)), (10, .c (.int .i64)), (11, .c (.int .i64))], [(0, .cells [.str, .rd [] .i64, .rd [] .i64])], [(0, .i64)]⟩
def impl_items_r0 : List Sh := [⟨[(5, .c (.own 0))], [], [(0, .i64)]⟩]
noncomputable def impl_items_L0 : Lp := ⟨0, [], impl_items_h0, [], [(.exit 0, [])], impl_items_r0, loopC impl_items_s0⟩
noncomputable def impl_items (a0_0 : ByteArray) (a0_1 : List Int) (a0_2 : List Int) (a1 : List (Int × Int)) : Option ((Unit × Unit) × Unit × (List Int × Unit)) :=
 (loopC impl_items_s0 (((), (), a1, (a1.length : Int), (0 : Int), ()), ((a0_0, a0_1, a0_2, ()), ()), ([], ()))).bind fun r9 =>
 some (((), ()), (), (r9.2.2.1, ()))
noncomputable def impl_items_C : Ctr := ⟨65, impl_items_arg, impl_items_res, fun x => impl_items x.1.1.1 x.1.1.2.1 x.1.1.2.2.1 x.1.2.1, none⟩
def impl_items_H : Hint := ⟨[], [], [], fun _ => []⟩
noncomputable def impl_items_T : List Ctr := [impl_isBand_C]
noncomputable def impl_items_Ls : List Lp := [impl_items_L0]
theorem impl_items_l0 : ∀ x, impl_items_s0 x = stepW E0 impl_items_T impl_items_Ls impl_items_H (loopAt (bodyOf Tryz.f65) 0) 0 impl_items_h0 [] [(.exit 0, [])] impl_items_r0 x := fun x => by kernel_rfl
theorem impl_items_e : ∀ x, impl_items_C.F x = runBodyW E0 impl_items_T impl_items_Ls impl_items_H 65 Tryz.f65.results.toList (bodyOf Tryz.f65) [] (impl_items_arg.mk' x) impl_items_res := fun x => by kernel_rfl
theorem impl_items_ok : impl_items_C.Ok E0 := fn_ok (T := impl_items_T) (h := impl_items_H) (Ls := impl_items_Ls) E0_mixed (T_cons impl_isBand_ok T_nil) Tryz.func65 (bodyOf_some (by kernel_rfl)) (by kernel_rfl) (loops_of (ks := [0]) (by kernel_rfl) ⟨(loop_one (h := impl_items_H) (own := []) (head := impl_items_h0) (back := []) (exs := [(.exit 0, [])]) (res := impl_items_r0) (step := impl_items_s0) (by kernel_rfl) impl_items_l0), trivial⟩) impl_items_e
def impl_MeasureOk_arg : Sh := ⟨[(0, .agg [.int .i64, .int .i64, .int .i64])], [], []⟩
def impl_MeasureOk_res : List Sh := [⟨[(0, .c (.bool))], [], []⟩]
noncomputable def impl_MeasureOk (a0_0 : Int) (a0_1 : Int) (a0_2 : Int) : Option ((Bool × Unit) × Unit × Unit) :=
 let x1 : Bool := decide (a0_0 ≥ (1 : Int));
 br x1
 (let x2 : Bool := decide (a0_0 ≤ (2000 : Int));
 br x2
 (let x3 : Bool := decide (a0_1 ≥ (1 : Int));
 br x3
 (let x4 : Bool := decide (a0_1 ≤ (100 : Int));
 br x4
 (let x5 : Bool := decide (a0_2 ≥ a0_1);
 br x5
 (let x6 : Bool := decide (a0_2 ≤ (100 : Int));
 some ((x6, ()), (), ()))
 (some ((false, ()), (), ())))
 (some ((false, ()), (), ())))
 (some ((false, ()), (), ())))
 (some ((false, ()), (), ())))
 (some ((false, ()), (), ()))
noncomputable def impl_MeasureOk_C : Ctr := ⟨127, impl_MeasureOk_arg, impl_MeasureOk_res, fun x => impl_MeasureOk x.1.1.1 x.1.1.2.1 x.1.1.2.2.1, none⟩
def impl_MeasureOk_H : Hint := ⟨[], [], [], fun _ => []⟩
noncomputable def impl_MeasureOk_T : List Ctr := []
noncomputable def impl_MeasureOk_Ls : List Lp := []
theorem impl_MeasureOk_e : ∀ x, impl_MeasureOk_C.F x = runBodyW E0 impl_MeasureOk_T impl_MeasureOk_Ls impl_MeasureOk_H 127 Tryz.f127.results.toList (bodyOf Tryz.f127) [] (impl_MeasureOk_arg.mk' x) impl_MeasureOk_res := fun x => by kernel_rfl
theorem impl_MeasureOk_ok : impl_MeasureOk_C.Ok E0 := fn_ok (T := impl_MeasureOk_T) (h := impl_MeasureOk_H) (Ls := impl_MeasureOk_Ls) E0_mixed T_nil Tryz.func127 (bodyOf_some (by kernel_rfl)) (by kernel_rfl) (loops_of (ks := []) (by kernel_rfl) trivial) impl_MeasureOk_e
def impl_LineOk_arg : Sh := ⟨[(0, .c (.rd [] .i64))], [], []⟩
def impl_LineOk_res : List Sh := [⟨[(0, .c (.bool))], [], []⟩]
noncomputable def impl_LineOk (a0 : List Int) : Option ((Bool × Unit) × Unit × Unit) :=
 let x1 : Bool := decide ((a0.length : Int) ≤ (120 : Int));
 br x1
 ((impl_between a0 (0 : Int) (60 : Int)).bind fun r2 =>
 some ((r2.1.1, ()), (), ()))
 (some ((false, ()), (), ()))
noncomputable def impl_LineOk_C : Ctr := ⟨128, impl_LineOk_arg, impl_LineOk_res, fun x => impl_LineOk x.1.1, none⟩
def impl_LineOk_H : Hint := ⟨[], [], [], fun _ => []⟩
noncomputable def impl_LineOk_T : List Ctr := [impl_between_C]
noncomputable def impl_LineOk_Ls : List Lp := []
theorem impl_LineOk_e : ∀ x, impl_LineOk_C.F x = runBodyW E0 impl_LineOk_T impl_LineOk_Ls impl_LineOk_H 128 Tryz.f128.results.toList (bodyOf Tryz.f128) [] (impl_LineOk_arg.mk' x) impl_LineOk_res := fun x => by kernel_rfl
theorem impl_LineOk_ok : impl_LineOk_C.Ok E0 := fn_ok (T := impl_LineOk_T) (h := impl_LineOk_H) (Ls := impl_LineOk_Ls) E0_mixed (T_cons impl_between_ok T_nil) Tryz.func128 (bodyOf_some (by kernel_rfl)) (by kernel_rfl) (loops_of (ks := []) (by kernel_rfl) trivial) impl_LineOk_e
def impl_lettersAndBands_arg : Sh := ⟨[(0, .c (.rd [] .i64))], [], []⟩
def impl_lettersAndBands_res : List Sh := [⟨[(0, .c (.int .i64)), (1, .c (.int .i64))], [], []⟩]
noncomputable def impl_lettersAndBands_s0 (x : (Int × Int × List Int × Int × Int × Unit) × Unit × Unit) : Option (((Int × Int × List Int × Int × Int × Unit) × Unit × Unit) ⊕ ((Int × Int × Unit) × Unit × Unit)) :=
 let x1 : Bool := decide (x.1.2.2.2.2.1 < x.1.2.2.2.1);
 br x1
 (ck (0 ≤ x.1.2.2.2.2.1)
 (ck (x.1.2.2.2.2.1.toNat < x.1.2.2.1.length)
 (let x2 : Int := x.1.2.2.1.getD x.1.2.2.2.2.1.toNat 0;
 let x3 : Int := w64 (x.1.1 + x2);
 let x4 : Bool := x2 == (0 : Int);
 br x4
 (let x5 : Int := w64 (x.1.2.1 + (1 : Int));
 let x6 : Int := w64 (x.1.2.2.2.2.1 + (1 : Int));
 some (.inl ((x3, x5, x.1.2.2.1, x.1.2.2.2.1, x6, ()), (), ())))
 (let x7 : Int := w64 (x.1.2.2.2.2.1 + (1 : Int));
 some (.inl ((x3, x.1.2.1, x.1.2.2.1, x.1.2.2.2.1, x7, ()), (), ()))))))
 (some (.inr ((x.1.1, x.1.2.1, ()), (), ())))
def impl_lettersAndBands_h0 : Sh := ⟨[(4, .c (.int .i64)), (5, .c (.int .i64)), (8, .c (.rd [] .i64)), (9, .c (.int .i64)), (10, .c (.int .i64))], [], []⟩
def impl_lettersAndBands_r0 : List Sh := [⟨[(4, .c (.int .i64)), (5, .c (.int .i64))], [], []⟩]
noncomputable def impl_lettersAndBands_L0 : Lp := ⟨0, [], impl_lettersAndBands_h0, [], [(.exit 0, [])], impl_lettersAndBands_r0, loopC impl_lettersAndBands_s0⟩
noncomputable def impl_lettersAndBands (a0 : List Int) : Option ((Int × Int × Unit) × Unit × Unit) :=
 (loopC impl_lettersAndBands_s0 (((0 : Int), (0 : Int), a0, (a0.length : Int), (0 : Int), ()), (), ())).bind fun r8 =>
 some ((r8.1.1, r8.1.2.1, ()), (), ())
noncomputable def impl_lettersAndBands_C : Ctr := ⟨129, impl_lettersAndBands_arg, impl_lettersAndBands_res, fun x => impl_lettersAndBands x.1.1, none⟩
def impl_lettersAndBands_H : Hint := ⟨[], [], [], fun _ => []⟩
noncomputable def impl_lettersAndBands_T : List Ctr := []
noncomputable def impl_lettersAndBands_Ls : List Lp := [impl_lettersAndBands_L0]
theorem impl_lettersAndBands_l0 : ∀ x, impl_lettersAndBands_s0 x = stepW E0 impl_lettersAndBands_T impl_lettersAndBands_Ls impl_lettersAndBands_H (loopAt (bodyOf Tryz.f129) 0) 0 impl_lettersAndBands_h0 [] [(.exit 0, [])] impl_lettersAndBands_r0 x := fun x => by kernel_rfl
theorem impl_lettersAndBands_e : ∀ x, impl_lettersAndBands_C.F x = runBodyW E0 impl_lettersAndBands_T impl_lettersAndBands_Ls impl_lettersAndBands_H 129 Tryz.f129.results.toList (bodyOf Tryz.f129) [] (impl_lettersAndBands_arg.mk' x) impl_lettersAndBands_res := fun x => by kernel_rfl
theorem impl_lettersAndBands_ok : impl_lettersAndBands_C.Ok E0 := fn_ok (T := impl_lettersAndBands_T) (h := impl_lettersAndBands_H) (Ls := impl_lettersAndBands_Ls) E0_mixed T_nil Tryz.func129 (bodyOf_some (by kernel_rfl)) (by kernel_rfl) (loops_of (ks := [0]) (by kernel_rfl) ⟨(loop_one (h := impl_lettersAndBands_H) (own := []) (head := impl_lettersAndBands_h0) (back := []) (exs := [(.exit 0, [])]) (res := impl_lettersAndBands_r0) (step := impl_lettersAndBands_s0) (by kernel_rfl) impl_lettersAndBands_l0), trivial⟩) impl_lettersAndBands_e
def impl_spread_arg : Sh := ⟨[(0, .agg [.int .i64, .int .i64, .int .i64]), (1, .c (.int .i64)), (2, .c (.int .i64))], [], []⟩
def impl_spread_res : List Sh := [⟨[(0, .c (.int .i64)), (1, .c (.int .i64)), (2, .c (.bool))], [], []⟩]
noncomputable def impl_spread (a0_0 : Int) (a0_1 : Int) (a0_2 : Int) (a1 : Int) (a2 : Int) : Option ((Int × Int × Bool × Unit) × Unit × Unit) :=
 let x1 : Int := w64 (a0_0 - a1);
 let x2 : Int := w64 (a2 * a0_1);
 let x3 : Int := w64 (x1 - x2);
 let x4 : Bool := decide (x3 < (0 : Int));
 br x4
 (some (((0 : Int), (0 : Int), false, ()), (), ()))
 (let x5 : Bool := decide (a2 > (0 : Int));
 br x5
 (let x6 : Int := w64 (a0_2 - a0_1);
 ck (a2 ≠ 0)
 (let x7 : Int := w64 (x3.tdiv a2);
 let x8 : Int := if x7 < x6 then x7 else x6;
 let x9 : Int := w64 (a2 * x8);
 let x10 : Int := w64 (x3 - x9);
 some ((x8, x10, true, ()), (), ())))
 (let x11 : Int := w64 (a2 * (0 : Int));
 let x12 : Int := w64 (x3 - x11);
 some (((0 : Int), x12, true, ()), (), ())))
noncomputable def impl_spread_C : Ctr := ⟨130, impl_spread_arg, impl_spread_res, fun x => impl_spread x.1.1.1 x.1.1.2.1 x.1.1.2.2.1 x.1.2.1 x.1.2.2.1, none⟩
def impl_spread_H : Hint := ⟨[], [], [], fun _ => []⟩
noncomputable def impl_spread_T : List Ctr := []
noncomputable def impl_spread_Ls : List Lp := []
theorem impl_spread_e : ∀ x, impl_spread_C.F x = runBodyW E0 impl_spread_T impl_spread_Ls impl_spread_H 130 Tryz.f130.results.toList (bodyOf Tryz.f130) [] (impl_spread_arg.mk' x) impl_spread_res := fun x => by kernel_rfl
theorem impl_spread_ok : impl_spread_C.Ok E0 := fn_ok (T := impl_spread_T) (h := impl_spread_H) (Ls := impl_spread_Ls) E0_mixed T_nil Tryz.func130 (bodyOf_some (by kernel_rfl)) (by kernel_rfl) (loops_of (ks := []) (by kernel_rfl) trivial) impl_spread_e
def impl_SpreadLine_arg : Sh := ⟨[(0, .agg [.int .i64, .int .i64, .int .i64]), (1, .c (.rd [] .i64))], [], []⟩
def impl_SpreadLine_res : List Sh := [⟨[(0, .c (.int .i64)), (1, .c (.int .i64)), (2, .c (.bool))], [], []⟩]
noncomputable def impl_SpreadLine (a0_0 : Int) (a0_1 : Int) (a0_2 : Int) (a1 : List Int) : Option ((Int × Int × Bool × Unit) × Unit × Unit) :=
 (impl_MeasureOk a0_0 a0_1 a0_2).bind fun r1 =>
 br (!r1.1.1)
 (some (((0 : Int), (0 : Int), false, ()), (), ()))
 ((impl_LineOk a1).bind fun r2 =>
 br (!r2.1.1)
 (some (((0 : Int), (0 : Int), false, ()), (), ()))
 ((impl_lettersAndBands a1).bind fun r3 =>
 (impl_spread a0_0 a0_1 a0_2 r3.1.1 r3.1.2.1).bind fun r4 =>
 some ((r4.1.1, r4.1.2.1, r4.1.2.2.1, ()), (), ())))
noncomputable def impl_SpreadLine_C : Ctr := ⟨96, impl_SpreadLine_arg, impl_SpreadLine_res, fun x => impl_SpreadLine x.1.1.1 x.1.1.2.1 x.1.1.2.2.1 x.1.2.1, none⟩
def impl_SpreadLine_H : Hint := ⟨[], [], [], fun _ => []⟩
noncomputable def impl_SpreadLine_T : List Ctr := [impl_MeasureOk_C, impl_LineOk_C, impl_lettersAndBands_C, impl_spread_C]
noncomputable def impl_SpreadLine_Ls : List Lp := []
theorem impl_SpreadLine_e : ∀ x, impl_SpreadLine_C.F x = runBodyW E0 impl_SpreadLine_T impl_SpreadLine_Ls impl_SpreadLine_H 96 Tryz.f96.results.toList (bodyOf Tryz.f96) [] (impl_SpreadLine_arg.mk' x) impl_SpreadLine_res := fun x => by kernel_rfl
theorem impl_SpreadLine_ok : impl_SpreadLine_C.Ok E0 := fn_ok (T := impl_SpreadLine_T) (h := impl_SpreadLine_H) (Ls := impl_SpreadLine_Ls) E0_mixed (T_cons impl_MeasureOk_ok (T_cons impl_LineOk_ok (T_cons impl_lettersAndBands_ok (T_cons impl_spread_ok T_nil)))) Tryz.func96 (bodyOf_some (by kernel_rfl)) (by kernel_rfl) (loops_of (ks := []) (by kernel_rfl) trivial) impl_SpreadLine_e
def impl_fits_arg : Sh := ⟨[(0, .agg [.int .i64, .int .i64, .int .i64]), (1, .c (.rd [] .i64))], [], []⟩
def impl_fits_res : List Sh := [⟨[(0, .c (.bool))], [], []⟩]
noncomputable def impl_fits (a0_0 : Int) (a0_1 : Int) (a0_2 : Int) (a1 : List Int) : Option ((Bool × Unit) × Unit × Unit) :=
 (impl_SpreadLine a0_0 a0_1 a0_2 a1).bind fun r1 =>
 some ((r1.1.2.2.1, ()), (), ())
noncomputable def impl_fits_C : Ctr := ⟨64, impl_fits_arg, impl_fits_res, fun x => impl_fits x.1.1.1 x.1.1.2.1 x.1.1.2.2.1 x.1.2.1, none⟩
def impl_fits_H : Hint := ⟨[], [], [], fun _ => []⟩
noncomputable def impl_fits_T : List Ctr := [impl_SpreadLine_C]
noncomputable def impl_fits_Ls : List Lp := []
theorem impl_fits_e : ∀ x, impl_fits_C.F x = runBodyW E0 impl_fits_T impl_fits_Ls impl_fits_H 64 Tryz.f64.results.toList (bodyOf Tryz.f64) [] (impl_fits_arg.mk' x) impl_fits_res := fun x => by kernel_rfl
theorem impl_fits_ok : impl_fits_C.Ok E0 := fn_ok (T := impl_fits_T) (h := impl_fits_H) (Ls := impl_fits_Ls) E0_mixed (T_cons impl_SpreadLine_ok T_nil) Tryz.func64 (bodyOf_some (by kernel_rfl)) (by kernel_rfl) (loops_of (ks := []) (by kernel_rfl) trivial) impl_fits_e
def impl_MachineOk_arg : Sh := ⟨[(0, .agg [.str, .rd [] .i64, .rd [] .i64, .rd [] .mats, .int .i64, .int .i64, .int .i64, .int .i64, .rd [] .mat, .rd [] .mat])], [], []⟩
def impl_MachineOk_res : List Sh := [⟨[(0, .c (.bool))], [], []⟩]
noncomputable def impl_MachineOk (a0_0 : ByteArray) (a0_1 : List Int) (a0_2 : List Int) (a0_3 : List (List (Int × Int))) (a0_4 : Int) (a0_5 : Int) (a0_6 : Int) (a0_7 : Int) (a0_8 : List (Int × Int)) (a0_9 : List (Int × Int)) : Option ((Bool × Unit) × Unit × Unit) :=
 (impl_MagazineOk a0_0 a0_1 a0_2 a0_3).bind fun r1 =>
 br (!r1.1.1)
 (some ((false, ()), (), ()))
 (let x2 : Bool := decide (a0_4 < (0 : Int));
 br x2
 (some ((false, ()), (), ()))
 (let x3 : Bool := decide (a0_4 > (60 : Int));
 br x3
 (some ((false, ()), (), ()))
 (let x4 : Bool := decide ((a0_8.length : Int) > (120 : Int));
 br x4
 (some ((false, ()), (), ()))
 (let x5 : Bool := decide ((a0_9.length : Int) > (240 : Int));
 br x5
 (some ((false, ()), (), ()))
 ((impl_allOf a0_0 a0_1 a0_2 a0_9).bind fun r6 =>
 br (!r6.1.1)
 (some ((false, ()), (), ()))
 ((ContainsFunc_Matrix_impl_MachineOk_1 a0_8 a0_0 a0_1 a0_2 a0_4 a0_5 a0_6 a0_7 a0_8 a0_9).bind fun r7 =>
 br r7.1.1
 (some ((false, ()), (), ()))
 ((impl_items a0_0 a0_1 a0_2 a0_8).bind fun r8 =>
 (impl_fits a0_5 a0_6 a0_7 r8.2.2.1).bind fun r9 =>
 some ((r9.1.1, ()), (), ()))))))))
noncomputable def impl_MachineOk_C : Ctr := ⟨26, impl_MachineOk_arg, impl_MachineOk_res, fun x => impl_MachineOk x.1.1.1 x.1.1.2.1 x.1.1.2.2.1 x.1.1.2.2.2.1 x.1.1.2.2.2.2.1 x.1.1.2.2.2.2.2.1 x.1.1.2.2.2.2.2.2.1 x.1.1.2.2.2.2.2.2.2.1 x.1.1.2.2.2.2.2.2.2.2.1 x.1.1.2.2.2.2.2.2.2.2.2.1, none⟩
def impl_MachineOk_H : Hint := ⟨[], [], [], fun _ => []⟩
noncomputable def impl_MachineOk_T : List Ctr := [impl_MagazineOk_C, impl_allOf_C, ContainsFunc_Matrix_impl_MachineOk_1_C, impl_items_C, impl_fits_C]
noncomputable def impl_MachineOk_Ls : List Lp := []
theorem impl_MachineOk_e : ∀ x, impl_MachineOk_C.F x = runBodyW E0 impl_MachineOk_T impl_MachineOk_Ls impl_MachineOk_H 26 Tryz.f26.results.toList (bodyOf Tryz.f26) [] (impl_MachineOk_arg.mk' x) impl_MachineOk_res := fun x => by kernel_rfl
theorem impl_MachineOk_ok : impl_MachineOk_C.Ok E0 := fn_ok (T := impl_MachineOk_T) (h := impl_MachineOk_H) (Ls := impl_MachineOk_Ls) E0_mixed (T_cons impl_MagazineOk_ok (T_cons impl_allOf_ok (T_cons ContainsFunc_Matrix_impl_MachineOk_1_ok (T_cons impl_items_ok (T_cons impl_fits_ok T_nil))))) Tryz.func26 (bodyOf_some (by kernel_rfl)) (by kernel_rfl) (loops_of (ks := []) (by kernel_rfl) trivial) impl_MachineOk_e
def impl_wordsOf_arg : Sh := ⟨[(0, .c (.str))], [], []⟩
def impl_wordsOf_res : List Sh := [⟨[(0, .c (.own 0))], [], [(0, .str)]⟩]
def impl_wordsOf (s : ByteArray) : Option ((Unit × Unit) × Unit × (List ByteArray × Unit)) := wordsF s
noncomputable def impl_wordsOf_C : Ctr := ⟨66, impl_wordsOf_arg, impl_wordsOf_res, fun x => impl_wordsOf x.1.1, some 1⟩
end Go.Tree
namespace Go.Proofs
section
open Go Go.Shelf Go.RowKit Go.Lib Go.Tree Go.Sort
def Tryz.lays146_ren : Go.Shelf.Ren := ⟨fun | 146 => 98 | 221 => 132 | 268 => 148 | 138 => 149 | 143 => 150 | 195 => 156 | 197 => 157 | 218 => 158 | 219 => 159 | 260 => 160 | 217 => 161 | 225 => 162 | 224 => 163 | 267 => 164 | 266 => 165 | 314 => 166 | n => n, fun | 9 => 9 | 31 => 31 | 3 => 3 | 4 => 4 | 0 => 0 | 105 => 159 | 21 => 21 | 5 => 5 | 46 => 163 | 119 => 164 | 139 => 167 | 138 => 166 | 146 => 169 | 51 => 168 | n => n, fun | 1 => 0 | 3 => 1 | 4 => 2 | n => n⟩
theorem Tryz.lays146 : Go.Proofs.Lays.n146 Tryz.prog Tryz.lays146_ren := {
  mixed := by kernel_rfl
  f138 := Tryz.func149.trans (congrArg some (by kernel_rfl))
  f143 := Tryz.func150.trans (congrArg some (by kernel_rfl))
  f146 := Tryz.func98.trans (congrArg some (by kernel_rfl))
  f195 := Tryz.func156.trans (congrArg some (by kernel_rfl))
  f197 := Tryz.func157.trans (congrArg some (by kernel_rfl))
  f217 := Tryz.func161.trans (congrArg some (by kernel_rfl))
  f218 := Tryz.func158.trans (congrArg some (by kernel_rfl))
  f219 := Tryz.func159.trans (congrArg some (by kernel_rfl))
  f221 := Tryz.func132.trans (congrArg some (by kernel_rfl))
  f224 := Tryz.func163.trans (congrArg some (by kernel_rfl))
  f225 := Tryz.func162.trans (congrArg some (by kernel_rfl))
  f260 := Tryz.func160.trans (congrArg some (by kernel_rfl))
  f266 := Tryz.func165.trans (congrArg some (by kernel_rfl))
  f267 := Tryz.func164.trans (congrArg some (by kernel_rfl))
  f268 := Tryz.func148.trans (congrArg some (by kernel_rfl))
  f314 := Tryz.func166.trans (congrArg some (by kernel_rfl))
  t0 := Tryz.underlying0
  a0 := Tryz.isAgg0
  z0 := Tryz.sizeOf0
  v0 := Tryz.zeroValue0
  t3 := Tryz.underlying3
  a3 := Tryz.isAgg3
  z3 := Tryz.sizeOf3
  v3 := Tryz.zeroValue3
  t4 := Tryz.underlying4
  a4 := Tryz.isAgg4
  z4 := Tryz.sizeOf4
  v4 := Tryz.zeroValue4
  t5 := Tryz.underlying5
  a5 := Tryz.isAgg5
  z5 := Tryz.sizeOf5
  v5 := Tryz.zeroValue5
  t9 := Tryz.underlying9
  a9 := Tryz.isAgg9
  z9 := Tryz.sizeOf9
  v9 := Tryz.zeroValue9
  t21 := Tryz.underlying21
  a21 := Tryz.isAgg21
  z21 := Tryz.sizeOf21
  v21 := Tryz.zeroValue21
  t31 := Tryz.underlying31
  a31 := Tryz.isAgg31
  z31 := Tryz.sizeOf31
  v31 := Tryz.zeroValue31
  t46 := Tryz.underlying163
  a46 := Tryz.isAgg163
  z46 := Tryz.sizeOf163
  v46 := Tryz.zeroValue163
  t51 := Tryz.underlying168
  a51 := Tryz.isAgg168
  z51 := Tryz.sizeOf168
  v51 := Tryz.zeroValue168
  t105 := Tryz.underlying159
  a105 := Tryz.isAgg159
  z105 := Tryz.sizeOf159
  v105 := Tryz.zeroValue159
  t119 := Tryz.underlying164
  a119 := Tryz.isAgg164
  z119 := Tryz.sizeOf164
  t138 := Tryz.underlying166
  a138 := Tryz.isAgg166
  z138 := Tryz.sizeOf166
  v138 := Tryz.zeroValue166
  t139 := Tryz.underlying167
  a139 := Tryz.isAgg167
  z139 := Tryz.sizeOf167
  v139 := Tryz.zeroValue167
  t146 := Tryz.underlying169
  a146 := Tryz.isAgg169
  z146 := Tryz.sizeOf169
  v146 := Tryz.zeroValue169
  g1 := by kernel_rfl
  g3 := by kernel_rfl
  g4 := by kernel_rfl }
theorem Tryz.strings_Split (s sep : ByteArray) (m : Int) (w : World) (hs : s.size < 4294967281) (hm : w.cell? ⟨0, 0, none⟩ = some (.int .i64 m)) (h1 : 1 ≤ sep.size) :
    Calls Tryz.prog 98 #[.string s, .string sep] w fun e w' =>
      e = .returned (.slice (some ⟨w.heap.size, 0, none⟩) (Lib.countB s sep + 1) (Lib.countB s sep + 1)) ∧ w' = w.alloc (.cells ((Lib.splitB sep 0 (Lib.countB s sep) s).map Value.string).toArray 9) := Any.strings_Split Tryz.lays146 (by kernel_rfl) s sep m w hs hm h1
def Tryz.laysSlH10_f97_ren : Go.Shelf.Ren := ⟨fun | 10 => 97 | 6 => 131 | n => n, fun | 22 => 31 | 23 => 9 | 25 => 118 | 3 => 3 | 4 => 4 | 0 => 0 | n => n, fun | n => n⟩
theorem Tryz.laysSlH10_f97 : Go.Proofs.SlLaysH.n10 Tryz.prog Tryz.laysSlH10_f97_ren := {
  mixed := by kernel_rfl
  f6 := ⟨Tryz.f131.name, by decide, Tryz.func131.trans (congrArg some (by kernel_rfl))⟩
  f10 := ⟨Tryz.f97.name, by decide, Tryz.func97.trans (congrArg some (by kernel_rfl))⟩
  t0 := Tryz.underlying0
  a0 := Tryz.isAgg0
  z0 := Tryz.sizeOf0
  v0 := Tryz.zeroValue0
  t3 := Tryz.underlying3
  a3 := Tryz.isAgg3
  z3 := Tryz.sizeOf3
  v3 := Tryz.zeroValue3
  t4 := Tryz.underlying4
  a4 := Tryz.isAgg4
  z4 := Tryz.sizeOf4
  v4 := Tryz.zeroValue4
  t22 := Tryz.underlying31
  a22 := Tryz.isAgg31
  z22 := Tryz.sizeOf31
  v22 := Tryz.zeroValue31
  a23 := Tryz.isAgg9
  z23 := Tryz.sizeOf9
  t25 := Tryz.underlying118
  a25 := Tryz.isAgg118
  z25 := Tryz.sizeOf118
  v25 := Tryz.zeroValue118 }
theorem Tryz.slices_DeleteFunc {α : Type} [Inhabited α] (enc : α → Value) (hO : OneCell enc) (p : α → Bool) (g : Nat) (lb : Array Value) (eg : ∀ args w, (callFunc g args).run Tryz.prog w = .ok (.enter g args) w) (zr : α) (v23 : ∀ w, (zeroValue 9).run Tryz.prog w = .ok (enc zr) w) (blk off cap : Nat) (d : Array α) (w : World) (hp : PredAt Tryz.prog g lb enc p w) (hpo : PredOver Tryz.prog g lb enc p blk off d.size w) (hH : Holds enc w blk off d) (hsz : d.size ≤ 9223372036854775807) (hcap : d.size ≤ cap) :
    Calls Tryz.prog 97 #[.slice (some ⟨blk, off, none⟩) d.size cap, .func (.func g) #[] lb] w fun e w' => e = .returned (.slice (some ⟨blk, off, none⟩) (d.toList.filter fun x => !p x).length cap) ∧ ∃ q, w' = putRow enc (Sort.ahead w q) blk off ((d.toList.filter fun x => !p x) ++ List.replicate (d.size - (d.toList.filter fun x => !p x).length) zr).toArray := AnyE.slices_DeleteFunc Tryz.laysSlH10_f97 enc hO p g lb eg zr v23 blk off cap d w hp hpo hH hsz hcap
theorem impl_wordsOf_gives (x : ByteArray) (W : World) : FnGives Tryz.prog 99 #[] #[.string x] (.bool x.data.toList.isEmpty) W := by
  show Calls Tryz.prog 99 #[.string x] W _
  have t9 := Tryz.underlying9; have a9 := Tryz.isAgg9; have z9 := Tryz.sizeOf9; have v9 := Tryz.zeroValue9
  have t4 := Tryz.underlying4; have a4 := Tryz.isAgg4; have z4 := Tryz.sizeOf4; have v4 := Tryz.zeroValue4
  go_enter Tryz.func99, Tryz.ntmps99
  go_wp2
  all_goals (go_ret; exact ⟨by simp [Lib.toList_data], 0, rfl⟩)
set_option maxRecDepth 100000 in
theorem impl_wordsOf_walk (s : ByteArray) (m : Int) (w : World) (hs : s.size < 4294967281) (hm : w.cell? ⟨0, 0, none⟩ = some (.int .i64 m)) :
    Calls Tryz.prog 66 #[.string s] w fun e w' => e = .returned (.slice (some ⟨w.heap.size, 0, none⟩) (wordsB s).length (cutB s).length) ∧
      ∃ q, w' = putRow Value.string (Sort.ahead (w.alloc (.cells ((cutB s).map Value.string).toArray 9)) q) w.heap.size 0 (wordsB s ++ List.replicate ((cutB s).length - (wordsB s).length) ByteArray.empty).toArray := by
  have hS := Tryz.strings_Split s sp32 m w hs hm (by decide)
  have hl := cutB_len s
  have hW := wordsB_split s
  have hle := wordsB_len s
  have hbig := Lib.countB_le sp32 (by decide) s.size s (Nat.le_refl _)
  obtain ⟨c, hc⟩ : ∃ c, Lib.countB s sp32 + 1 = c := ⟨_, rfl⟩
  rw [show Lib.splitB sp32 0 (Lib.countB s sp32) s = cutB s from rfl, hc] at hS
  rw [hc] at hl
  have hc2 : c ≤ 4294967281 := by omega
  clear hc hbig
  obtain ⟨L, hL⟩ : ∃ L, cutB s = L := ⟨_, rfl⟩
  obtain ⟨Y, hY⟩ : ∃ Y, wordsB s = Y := ⟨_, rfl⟩
  rw [hL] at hS hl hW hle ⊢
  rw [hY] at hW hle ⊢
  clear hL hY
  subst hl
  have eg : ∀ args w, (callFunc 99 args).run Tryz.prog w = .ok (.enter 99 args) w := enters_of Tryz.func99 (by kernel_rfl) rfl
  have hH := holds_alloc w L 9
  have hcon := Tryz.slices_DeleteFunc Value.string (fun _ => rfl) (fun x => x.data.toList.isEmpty) 99 #[] eg ByteArray.empty Tryz.zeroValue9 w.heap.size 0 L.length L.toArray (w.alloc (.cells (L.map Value.string).toArray 9))
    (fun W x _ => impl_wordsOf_gives x W) (fun n os dk x _ => impl_wordsOf_gives x _) hH (by rw [List.size_toArray]; omega) (by rw [List.size_toArray]; exact Nat.le_refl _)
  rw [show L.toArray.toList = L from rfl, hW, List.size_toArray] at hcon
  clear hH hW
  have t46 := Tryz.underlying31; have a46 := Tryz.isAgg31; have z46 := Tryz.sizeOf31; have v46 := Tryz.zeroValue31
  have t9 := Tryz.underlying9; have a9 := Tryz.isAgg9; have z9 := Tryz.sizeOf9; have v9 := Tryz.zeroValue9
  have mixed : Tryz.prog.follows .mixedOrders = true := by kernel_rfl
  have eS : ∀ args w, (callFunc 98 args).run Tryz.prog w = .ok (.enter 98 args) w := enters_of Tryz.func98 (by kernel_rfl) rfl
  have eD : ∀ args w, (callFunc 97 args).run Tryz.prog w = .ok (.enter 97 args) w := enters_of Tryz.func97 (by kernel_rfl) rfl
  go_enter Tryz.func66, Tryz.ntmps66
  go_wp2_with (go_at_fn 98; refine hS.mono ?_; rintro e w' ⟨rfl, hw⟩; rw [hw])
  go_wp2_with (go_at_fn 97; refine hcon.mono ?_; rintro e w' ⟨rfl, q, hq⟩; rw [hq])
  go_ret
  exact ⟨rfl, q, rfl⟩
end
end Go.Proofs
namespace Go.Tree
open Go Go.Proofs
set_option linter.unusedVariables false
set_option maxRecDepth 100000
theorem impl_wordsOf_ok : impl_wordsOf_C.Ok E0 := words_ok (E := E0) (by kernel_rfl) (by kernel_rfl) 0 (fun _ h => h.1) 9 Go.Proofs.impl_wordsOf_walk
def strings_Join_arg : Sh := ⟨[(0, .c (.rd [] .str)), (1, .c (.str))], [], []⟩
def strings_Join_res : List Sh := [⟨[(0, .c (.str))], [], []⟩]
def strings_Join (l : List ByteArray) (s : ByteArray) : Option ((ByteArray × Unit) × Unit × Unit) := joinF l s
noncomputable def strings_Join_C : Ctr := ⟨67, strings_Join_arg, strings_Join_res, fun x => strings_Join x.1.1 x.1.2.1, some 2⟩
end Go.Tree
namespace Go.Proofs
section
open Go Go.Shelf Go.RowKit Go.Lib Go.Tree Go.Sort
def Tryz.lays156_ren : Go.Shelf.Ren := ⟨fun | 156 => 67 | 165 => 100 | 166 => 101 | 169 => 102 | 240 => 133 | 241 => 134 | 276 => 151 | 277 => 152 | n => n, fun | 31 => 31 | 9 => 9 | 3 => 3 | 4 => 4 | 0 => 0 | 20 => 20 | 72 => 121 | 76 => 125 | 70 => 119 | 37 => 105 | 75 => 124 | 127 => 146 | 164 => 154 | 5 => 5 | 80 => 127 | n => n, fun | n => n⟩
theorem Tryz.lays156 : Go.Proofs.Lays.n156 Tryz.prog Tryz.lays156_ren := {
  mixed := by kernel_rfl
  f156 := Tryz.func67.trans (congrArg some (by kernel_rfl))
  f165 := Tryz.func100.trans (congrArg some (by kernel_rfl))
  f166 := Tryz.func101.trans (congrArg some (by kernel_rfl))
  f169 := Tryz.func102.trans (congrArg some (by kernel_rfl))
  f240 := Tryz.func133.trans (congrArg some (by kernel_rfl))
  f241 := Tryz.func134.trans (congrArg some (by kernel_rfl))
  f276 := Tryz.func151.trans (congrArg some (by kernel_rfl))
  f277 := Tryz.func152.trans (congrArg some (by kernel_rfl))
  t0 := Tryz.underlying0
  a0 := Tryz.isAgg0
  z0 := Tryz.sizeOf0
  v0 := Tryz.zeroValue0
  t3 := Tryz.underlying3
  a3 := Tryz.isAgg3
  z3 := Tryz.sizeOf3
  v3 := Tryz.zeroValue3
  t4 := Tryz.underlying4
  a4 := Tryz.isAgg4
  z4 := Tryz.sizeOf4
  v4 := Tryz.zeroValue4
  t9 := Tryz.underlying9
  a9 := Tryz.isAgg9
  z9 := Tryz.sizeOf9
  v9 := Tryz.zeroValue9
  t20 := Tryz.underlying20
  a20 := Tryz.isAgg20
  z20 := Tryz.sizeOf20
  v20 := Tryz.zeroValue20
  t31 := Tryz.underlying31
  a31 := Tryz.isAgg31
  z31 := Tryz.sizeOf31
  v31 := Tryz.zeroValue31
  t37 := Tryz.underlying105
  a37 := Tryz.isAgg105
  z37 := Tryz.sizeOf105
  v37 := Tryz.zeroValue105
  t70 := Tryz.underlying119
  a70 := Tryz.isAgg119
  z70 := Tryz.sizeOf119
  v70 := Tryz.zeroValue119
  t72 := Tryz.underlying121
  a72 := Tryz.isAgg121
  z72 := Tryz.sizeOf121
  v72 := Tryz.zeroValue121
  t75 := Tryz.underlying124
  a75 := Tryz.isAgg124
  z75 := Tryz.sizeOf124
  v75 := Tryz.zeroValue124
  t76 := Tryz.underlying125
  a76 := Tryz.isAgg125
  z76 := Tryz.sizeOf125
  v76 := Tryz.zeroValue125
  t127 := Tryz.underlying146
  a127 := Tryz.isAgg146
  z127 := Tryz.sizeOf146
  v127 := Tryz.zeroValue146
  t164 := Tryz.underlying154
  a164 := Tryz.isAgg154
  z164 := Tryz.sizeOf154
  v164 := Tryz.zeroValue154 }
theorem Tryz.Builder_Extra_156 : Builder.Extra Tryz.prog Tryz.lays156_ren := {
  sizeBuilder := by kernel_rfl
  liesBuilder := by kernel_rfl
  t5 := Tryz.underlying5
  a5 := Tryz.isAgg5
  z5 := Tryz.sizeOf5
  v5 := Tryz.zeroValue5
  infoByte := by kernel_rfl
  cellsByte := by kernel_rfl
  sizeByte := by kernel_rfl
  neB5 := by decide }
theorem Tryz.strings_Join_none (a : Option Addr) (c : Nat) (sep : ByteArray) (w : World) :
    Calls Tryz.prog 67 #[.slice a 0 c, .string sep] w fun e w' => e = .returned (.string ⟨#[]⟩) ∧ w' = w := Any.strings_Join_none Tryz.lays156 Tryz.Builder_Extra_156 a c sep w
theorem Tryz.strings_Join (bk o c : Nat) (xs : List ByteArray) (sep : ByteArray) (w : World) (hcells : ∀ (j : Nat) x, xs[j]? = some x → w.cell? ⟨bk, o + j, none⟩ = some (.string x)) (hbk : bk < w.heap.size) (hN : xs.length ≤ 140737488355328) (hcap : xs.length ≤ c) (hlen : (Lib.join (xs.map (·.data.toList)) sep.data.toList).length ≤ 140737488355328) :
    Calls Tryz.prog 67 #[.slice (some ⟨bk, o, none⟩) xs.length c, .string sep] w fun e w' => e = .returned (.string ⟨(Lib.join (xs.map (·.data.toList)) sep.data.toList).toArray⟩) ∧ Below w.heap.size w w' := Any.strings_Join Tryz.lays156 Tryz.Builder_Extra_156 bk o c xs sep w hcells hbk hN hcap hlen
end
end Go.Proofs
namespace Go.Tree
open Go Go.Proofs
set_option linter.unusedVariables false
set_option maxRecDepth 100000
theorem strings_Join_ok : strings_Join_C.Ok E0 := join_ok (E := E0) (by kernel_rfl) (by kernel_rfl) Go.Proofs.Tryz.strings_Join_none Go.Proofs.Tryz.strings_Join
def impl_GalleyText_arg : Sh := ⟨[(0, .c (.rd [] .str))], [], []⟩
def impl_GalleyText_res : List Sh := [⟨[(0, .c (.str))], [], []⟩]
noncomputable def impl_GalleyText (a0 : List ByteArray) : Option ((ByteArray × Unit) × Unit × Unit) :=
 (strings_Join a0 (ByteArray.mk #[32])).bind fun r1 =>
 some ((r1.1.1, ()), (), ())
noncomputable def impl_GalleyText_C : Ctr := ⟨69, impl_GalleyText_arg, impl_GalleyText_res, fun x => impl_GalleyText x.1.1, none⟩
def impl_GalleyText_H : Hint := ⟨[], [], [], fun _ => []⟩
noncomputable def impl_GalleyText_T : List Ctr := [strings_Join_C]
noncomputable def impl_GalleyText_Ls : List Lp := []
theorem impl_GalleyText_e : ∀ x, impl_GalleyText_C.F x = runBodyW E0 impl_GalleyText_T impl_GalleyText_Ls impl_GalleyText_H 69 Tryz.f69.results.toList (bodyOf Tryz.f69) [] (impl_GalleyText_arg.mk' x) impl_GalleyText_res := fun x => by kernel_rfl
theorem impl_GalleyText_ok : impl_GalleyText_C.Ok E0 := fn_ok (T := impl_GalleyText_T) (h := impl_GalleyText_H) (Ls := impl_GalleyText_Ls) E0_mixed (T_cons strings_Join_ok T_nil) Tryz.func69 (bodyOf_some (by kernel_rfl)) (by kernel_rfl) (loops_of (ks := []) (by kernel_rfl) trivial) impl_GalleyText_e
def impl_key_arg : Sh := ⟨[(0, .agg [.str, .rd [] .i64, .rd [] .i64]), (1, .c (.int .i64))], [], []⟩
def impl_key_res : List Sh := [⟨[(0, .c (.int .i64))], [], []⟩]
noncomputable def impl_key_s0 (x : (Int × Unit × Int × Int × Unit) × ((ByteArray × List Int × List Int × Unit) × Unit) × Unit) : Option (((Int × Unit × Int × Int × Unit) × ((ByteArray × List Int × List Int × Unit) × Unit) × Unit) ⊕ (((Int × Unit) × Unit × Unit) ⊕ (Unit × Unit × Unit))) :=
 let x1 : Bool := decide (x.1.2.2.2.1 < x.1.2.2.1);
 br x1
 (ck (0 ≤ x.1.2.2.2.1 ∧ x.1.2.2.2.1.toNat < x.2.1.1.1.size)
 (let x2 : Int := byteAt x.2.1.1.1 x.1.2.2.2.1.toNat;
 let x3 : Int := w64 x2;
 let x4 : Bool := x3 == x.1.1;
 br x4
 (some (.inr (.inl ((x.1.2.2.2.1, ()), (), ()))))
 (let x5 : Int := w64 (x.1.2.2.2.1 + (1 : Int));
 some (.inl ((x.1.1, (), x.1.2.2.1, x5, ()), ((x.2.1.1.1, x.2.1.1.2.1, x.2.1.1.2.2.1, ()), ()), ())))))
 (some (.inr (.inr ((), (), ()))))
def impl_key_h0 : Sh := ⟨[(1, .c (.int .i64)), (2, .c (.box 0 0)), (8, .c (.int .i64)), (9, .c (.int .i64))], [(0, .cells [.str, .rd [] .i64, .rd [] .i64])], []⟩
def impl_key_r0 : List Sh := [⟨[(4, .c (.int .i64))], [], []⟩, ⟨[], [], []⟩]
noncomputable def impl_key_L0 : Lp := ⟨0, [], impl_key_h0, [], [(.ret, []), (.exit 0, [])], impl_key_r0, loopC impl_key_s0⟩
noncomputable def impl_key (a0_0 : ByteArray) (a0_1 : List Int) (a0_2 : List Int) (a1 : Int) : Option ((Int × Unit) × Unit × Unit) :=
 (loopC impl_key_s0 ((a1, (), (a0_0.size : Int), (0 : Int), ()), ((a0_0, a0_1, a0_2, ()), ()), ())).bind fun r6 =>
 sumK r6 (fun y9 =>
 some ((y9.1.1, ()), (), ())) (fun y10 =>
 some (((-1 : Int), ()), (), ()))
noncomputable def impl_key_C : Ctr := ⟨115, impl_key_arg, impl_key_res, fun x => impl_key x.1.1.1 x.1.1.2.1 x.1.1.2.2.1 x.1.2.1, none⟩
def impl_key_H : Hint := ⟨[], [], [], fun _ => []⟩
noncomputable def impl_key_T : List Ctr := []
noncomputable def impl_key_Ls : List Lp := [impl_key_L0]
theorem impl_key_l0 : ∀ x, impl_key_s0 x = stepW E0 impl_key_T impl_key_Ls impl_key_H (loopAt (bodyOf Tryz.f115) 0) 0 impl_key_h0 [] [(.ret, []), (.exit 0, [])] impl_key_r0 x := fun x => by kernel_rfl
theorem impl_key_e : ∀ x, impl_key_C.F x = runBodyW E0 impl_key_T impl_key_Ls impl_key_H 115 Tryz.f115.results.toList (bodyOf Tryz.f115) [] (impl_key_arg.mk' x) impl_key_res := fun x => by kernel_rfl
theorem impl_key_ok : impl_key_C.Ok E0 := fn_ok (T := impl_key_T) (h := impl_key_H) (Ls := impl_key_Ls) E0_mixed T_nil Tryz.func115 (bodyOf_some (by kernel_rfl)) (by kernel_rfl) (loops_of (ks := [0]) (by kernel_rfl) ⟨(loop_one (h := impl_key_H) (own := []) (head := impl_key_h0) (back := []) (exs := [(.ret, []), (.exit 0, [])]) (res := impl_key_r0) (step := impl_key_s0) (by kernel_rfl) impl_key_l0), trivial⟩) impl_key_e
def impl_wordWidth_arg : Sh := ⟨[(0, .agg [.str, .rd [] .i64, .rd [] .i64]), (1, .c (.str))], [], []⟩
def impl_wordWidth_res : List Sh := [⟨[(0, .c (.int .i64)), (1, .c (.bool))], [], []⟩]
noncomputable def impl_wordWidth_s0 (x : (ByteArray × Unit × Int × Int × Int × Unit) × ((ByteArray × List Int × List Int × Unit) × Unit) × Unit) : Option (((ByteArray × Unit × Int × Int × Int × Unit) × ((ByteArray × List Int × List Int × Unit) × Unit) × Unit) ⊕ (((Int × Bool × Unit) × Unit × Unit) ⊕ ((Int × Unit) × Unit × Unit))) :=
 let x1 : Bool := decide (x.1.2.2.2.2.1 < x.1.2.2.2.1);
 br x1
 (ck (0 ≤ x.1.2.2.2.2.1 ∧ x.1.2.2.2.2.1.toNat < x.1.1.size)
 (let x2 : Int := byteAt x.1.1 x.1.2.2.2.2.1.toNat;
 let x3 : Int := w64 x2;
 (impl_key x.2.1.1.1 x.2.1.1.2.1 x.2.1.1.2.2.1 x3).bind fun r4 =>
 let x5 : Bool := decide (r4.1.1 < (0 : Int));
 br x5
 (some (.inr (.inl (((0 : Int), false, ()), (), ()))))
 (ck (0 ≤ r4.1.1)
 (ck (r4.1.1.toNat < x.2.1.1.2.1.length)
 (let x6 : Int := x.2.1.1.2.1.getD r4.1.1.toNat 0;
 let x7 : Int := w64 (x.1.2.2.1 + x6);
 let x8 : Bool := decide (x7 > (2000 : Int));
 br x8
 (some (.inr (.inl (((0 : Int), false, ()), (), ()))))
 (let x9 : Int := w64 (x.1.2.2.2.2.1 + (1 : Int));
 some (.inl ((x.1.1, (), x7, x.1.2.2.2.1, x9, ()), ((x.2.1.1.1, x.2.1.1.2.1, x.2.1.1.2.2.1, ()), ()), ()))))))))
 (some (.inr (.inr ((x.1.2.2.1, ()), (), ()))))
def impl_wordWidth_h0 : Sh := ⟨[(1, .c (.str)), (2, .c (.box 0 0)), (6, .c (.int .i64)), (10, .c (.int .i64)), (11, .c (.int .i64))], [(0, .cells [.str, .rd [] .i64, .rd [] .i64])], []⟩
def impl_wordWidth_r0 : List Sh := [⟨[(4, .c (.int .i64)), (5, .c (.bool))], [], []⟩, ⟨[(6, .c (.int .i64))], [], []⟩]
noncomputable def impl_wordWidth_L0 : Lp := ⟨0, [], impl_wordWidth_h0, [], [(.ret, []), (.exit 0, [])], impl_wordWidth_r0, loopC impl_wordWidth_s0⟩
noncomputable def impl_wordWidth (a0_0 : ByteArray) (a0_1 : List Int) (a0_2 : List Int) (a1 : ByteArray) : Option ((Int × Bool × Unit) × Unit × Unit) :=
 (loopC impl_wordWidth_s0 ((a1, (), (0 : Int), (a1.size : Int), (0 : Int), ()), ((a0_0, a0_1, a0_2, ()), ()), ())).bind fun r10 =>
 sumK r10 (fun y13 =>
 some ((y13.1.1, y13.1.2.1, ()), (), ())) (fun y14 =>
 some ((y14.1.1, true, ()), (), ()))
noncomputable def impl_wordWidth_C : Ctr := ⟨103, impl_wordWidth_arg, impl_wordWidth_res, fun x => impl_wordWidth x.1.1.1 x.1.1.2.1 x.1.1.2.2.1 x.1.2.1, none⟩
def impl_wordWidth_H : Hint := ⟨[], [], [], fun _ => []⟩
noncomputable def impl_wordWidth_T : List Ctr := [impl_key_C]
noncomputable def impl_wordWidth_Ls : List Lp := [impl_wordWidth_L0]
theorem impl_wordWidth_l0 : ∀ x, impl_wordWidth_s0 x = stepW E0 impl_wordWidth_T impl_wordWidth_Ls impl_wordWidth_H (loopAt (bodyOf Tryz.f103) 0) 0 impl_wordWidth_h0 [] [(.ret, []), (.exit 0, [])] impl_wordWidth_r0 x := fun x => by kernel_rfl
theorem impl_wordWidth_e : ∀ x, impl_wordWidth_C.F x = runBodyW E0 impl_wordWidth_T impl_wordWidth_Ls impl_wordWidth_H 103 Tryz.f103.results.toList (bodyOf Tryz.f103) [] (impl_wordWidth_arg.mk' x) impl_wordWidth_res := fun x => by kernel_rfl
theorem impl_wordWidth_ok : impl_wordWidth_C.Ok E0 := fn_ok (T := impl_wordWidth_T) (h := impl_wordWidth_H) (Ls := impl_wordWidth_Ls) E0_mixed (T_cons impl_key_ok T_nil) Tryz.func103 (bodyOf_some (by kernel_rfl)) (by kernel_rfl) (loops_of (ks := [0]) (by kernel_rfl) ⟨(loop_one (h := impl_wordWidth_H) (own := []) (head := impl_wordWidth_h0) (back := []) (exs := [(.ret, []), (.exit 0, [])]) (res := impl_wordWidth_r0) (step := impl_wordWidth_s0) (by kernel_rfl) impl_wordWidth_l0), trivial⟩) impl_wordWidth_e
def impl_WordWidths_arg : Sh := ⟨[(0, .agg [.str, .rd [] .i64, .rd [] .i64]), (1, .c (.str))], [], []⟩
def impl_WordWidths_res : List Sh := [⟨[(0, .c (.own 0)), (1, .c (.bool))], [], [(0, .i64)]⟩]
noncomputable def impl_WordWidths_s0 (x : (Unit × Unit × Unit × Int × Int × Unit) × ((ByteArray × List Int × List Int × Unit) × Unit) × (List Int × List ByteArray × Unit)) : Option (((Unit × Unit × Unit × Int × Int × Unit) × ((ByteArray × List Int × List Int × Unit) × Unit) × (List Int × List ByteArray × Unit)) ⊕ (((Unit × Bool × Unit) × Unit × Unit) ⊕ ((Unit × Unit) × Unit × (List Int × Unit)))) :=
 let x5 : Bool := decide (x.1.2.2.2.2.1 < x.1.2.2.2.1);
 br x5
 (ck (0 ≤ x.1.2.2.2.2.1)
 (ck (x.1.2.2.2.2.1.toNat < x.2.2.2.1.length)
 (ck (x.1.2.2.2.2.1.toNat < x.2.2.2.1.length)
 (let x6 : ByteArray := x.2.2.2.1.getD x.1.2.2.2.2.1.toNat ByteArray.empty;
 (impl_wordWidth x.2.1.1.1 x.2.1.1.2.1 x.2.1.1.2.2.1 x6).bind fun r7 =>
 br (!r7.1.2.1)
 (some (.inr (.inl (((), false, ()), (), ()))))
 (ck ((x.2.2.1.length + [r7.1.1].length) * 8 ≤ 140737488355328 ∧ (x.2.2.1.length + [r7.1.1].length) ≤ 9223372036854775807)
 (let x8 : List Int := x.2.2.1 ++ [r7.1.1];
 let x9 : Int := w64 (x.1.2.2.2.2.1 + (1 : Int));
 some (.inl (((), (), (), x.1.2.2.2.1, x9, ()), ((x.2.1.1.1, x.2.1.1.2.1, x.2.1.1.2.2.1, ()), ()), (x8, x.2.2.2.1, ())))))))))
 (some (.inr (.inr (((), ()), (), (x.2.2.1, ())))))
def impl_WordWidths_h0 : Sh := ⟨[(2, .c (.box 0 0)), (7, .c (.own 0)), (26, .c (.own 1)), (27, .c (.int .i64)), (28, .c (.int .i64))], [(0, .cells [.str, .rd [] .i64, .rd [] .i64])], [(0, .i64), (1, .str)]⟩
def impl_WordWidths_r0 : List Sh := [⟨[(4, .c (.nil)), (5, .c (.bool))], [], []⟩, ⟨[(7, .c (.own 0))], [], [(0, .i64)]⟩]
noncomputable def impl_WordWidths_L0 : Lp := ⟨0, [], impl_WordWidths_h0, [], [(.ret, []), (.exit 0, [])], impl_WordWidths_r0, loopC impl_WordWidths_s0⟩
noncomputable def impl_WordWidths (a0_0 : ByteArray) (a0_1 : List Int) (a0_2 : List Int) (a1 : ByteArray) : Option ((Unit × Bool × Unit) × Unit × (List Int × Unit)) :=
 (impl_FontOk a0_0 a0_1 a0_2).bind fun r1 =>
 br (!r1.1.1)
 (some (((), false, ()), (), ([], ())))
 ((impl_wordsOf a1).bind fun r2 =>
 let x3 : Bool := decide ((r2.2.2.1.length : Int) < (1 : Int));
 br x3
 (some (((), false, ()), (), ([], ())))
 (let x4 : Bool := decide ((r2.2.2.1.length : Int) > (40 : Int));
 br x4
 (some (((), false, ()), (), ([], ())))
 ((loopC impl_WordWidths_s0 (((), (), (), (r2.2.2.1.length : Int), (0 : Int), ()), ((a0_0, a0_1, a0_2, ()), ()), ([], r2.2.2.1, ()))).bind fun r10 =>
 sumK r10 (fun y13 =>
 some (((), y13.1.2.1, ()), (), ([], ()))) (fun y14 =>
 some (((), true, ()), (), (y14.2.2.1, ()))))))
noncomputable def impl_WordWidths_C : Ctr := ⟨68, impl_WordWidths_arg, impl_WordWidths_res, fun x => impl_WordWidths x.1.1.1 x.1.1.2.1 x.1.1.2.2.1 x.1.2.1, none⟩
def impl_WordWidths_H : Hint := ⟨[], [], [], fun _ => []⟩
noncomputable def impl_WordWidths_T : List Ctr := [impl_FontOk_C, impl_wordsOf_C, impl_wordWidth_C]
noncomputable def impl_WordWidths_Ls : List Lp := [impl_WordWidths_L0]
theorem impl_WordWidths_l0 : ∀ x, impl_WordWidths_s0 x = stepW E0 impl_WordWidths_T impl_WordWidths_Ls impl_WordWidths_H (loopAt (bodyOf Tryz.f68) 0) 0 impl_WordWidths_h0 [] [(.ret, []), (.exit 0, [])] impl_WordWidths_r0 x := fun x => by kernel_rfl
theorem impl_WordWidths_e : ∀ x, impl_WordWidths_C.F x = runBodyW E0 impl_WordWidths_T impl_WordWidths_Ls impl_WordWidths_H 68 Tryz.f68.results.toList (bodyOf Tryz.f68) [(.tm 4, 6000000, .i64)] (impl_WordWidths_arg.mk' x) impl_WordWidths_res := fun x => by kernel_rfl
theorem impl_WordWidths_ok : impl_WordWidths_C.Ok E0 := fn_ok (T := impl_WordWidths_T) (h := impl_WordWidths_H) (Ls := impl_WordWidths_Ls) E0_mixed (T_cons impl_FontOk_ok (T_cons impl_wordsOf_ok (T_cons impl_wordWidth_ok T_nil))) Tryz.func68 (bodyOf_some (by kernel_rfl)) (by kernel_rfl) (loops_of (ks := [0]) (by kernel_rfl) ⟨(loop_one (h := impl_WordWidths_H) (own := []) (head := impl_WordWidths_h0) (back := []) (exs := [(.ret, []), (.exit 0, [])]) (res := impl_WordWidths_r0) (step := impl_WordWidths_s0) (by kernel_rfl) impl_WordWidths_l0), trivial⟩) impl_WordWidths_e
def impl_TextOk_arg : Sh := ⟨[(0, .c (.rd [] .i64))], [], []⟩
def impl_TextOk_res : List Sh := [⟨[(0, .c (.bool))], [], []⟩]
noncomputable def impl_TextOk (a0 : List Int) : Option ((Bool × Unit) × Unit × Unit) :=
 let x1 : Bool := decide ((a0.length : Int) ≥ (1 : Int));
 br x1
 (let x2 : Bool := decide ((a0.length : Int) ≤ (40 : Int));
 br x2
 ((impl_between a0 (1 : Int) (2000 : Int)).bind fun r3 =>
 some ((r3.1.1, ()), (), ()))
 (some ((false, ()), (), ())))
 (some ((false, ()), (), ()))
noncomputable def impl_TextOk_C : Ctr := ⟨135, impl_TextOk_arg, impl_TextOk_res, fun x => impl_TextOk x.1.1, none⟩
def impl_TextOk_H : Hint := ⟨[], [], [], fun _ => []⟩
noncomputable def impl_TextOk_T : List Ctr := [impl_between_C]
noncomputable def impl_TextOk_Ls : List Lp := []
theorem impl_TextOk_e : ∀ x, impl_TextOk_C.F x = runBodyW E0 impl_TextOk_T impl_TextOk_Ls impl_TextOk_H 135 Tryz.f135.results.toList (bodyOf Tryz.f135) [] (impl_TextOk_arg.mk' x) impl_TextOk_res := fun x => by kernel_rfl
theorem impl_TextOk_ok : impl_TextOk_C.Ok E0 := fn_ok (T := impl_TextOk_T) (h := impl_TextOk_H) (Ls := impl_TextOk_Ls) E0_mixed (T_cons impl_between_ok T_nil) Tryz.func135 (bodyOf_some (by kernel_rfl)) (by kernel_rfl) (loops_of (ks := []) (by kernel_rfl) trivial) impl_TextOk_e
def impl_both_arg : Sh := ⟨[(0, .agg [.int .i64, .int .i64, .int .i64]), (1, .c (.rd [] .i64))], [], []⟩
def impl_both_res : List Sh := [⟨[(0, .c (.bool))], [], []⟩]
noncomputable def impl_both (a0_0 : Int) (a0_1 : Int) (a0_2 : Int) (a1 : List Int) : Option ((Bool × Unit) × Unit × Unit) :=
 (impl_MeasureOk a0_0 a0_1 a0_2).bind fun r1 =>
 br r1.1.1
 ((impl_TextOk a1).bind fun r2 =>
 some ((r2.1.1, ()), (), ()))
 (some ((false, ()), (), ()))
noncomputable def impl_both_C : Ctr := ⟨104, impl_both_arg, impl_both_res, fun x => impl_both x.1.1.1 x.1.1.2.1 x.1.1.2.2.1 x.1.2.1, none⟩
def impl_both_H : Hint := ⟨[], [], [], fun _ => []⟩
noncomputable def impl_both_T : List Ctr := [impl_MeasureOk_C, impl_TextOk_C]
noncomputable def impl_both_Ls : List Lp := []
theorem impl_both_e : ∀ x, impl_both_C.F x = runBodyW E0 impl_both_T impl_both_Ls impl_both_H 104 Tryz.f104.results.toList (bodyOf Tryz.f104) [] (impl_both_arg.mk' x) impl_both_res := fun x => by kernel_rfl
theorem impl_both_ok : impl_both_C.Ok E0 := fn_ok (T := impl_both_T) (h := impl_both_H) (Ls := impl_both_Ls) E0_mixed (T_cons impl_MeasureOk_ok (T_cons impl_TextOk_ok T_nil)) Tryz.func104 (bodyOf_some (by kernel_rfl)) (by kernel_rfl) (loops_of (ks := []) (by kernel_rfl) trivial) impl_both_e
def impl_sum_arg : Sh := ⟨[(0, .c (.rd [] .i64))], [], []⟩
def impl_sum_res : List Sh := [⟨[(0, .c (.int .i64))], [], []⟩]
noncomputable def impl_sum_s0 (x : (Int × List Int × Int × Int × Unit) × Unit × Unit) : Option (((Int × List Int × Int × Int × Unit) × Unit × Unit) ⊕ ((Int × Unit) × Unit × Unit)) :=
 let x1 : Bool := decide (x.1.2.2.2.1 < x.1.2.2.1);
 br x1
 (ck (0 ≤ x.1.2.2.2.1)
 (ck (x.1.2.2.2.1.toNat < x.1.2.1.length)
 (let x2 : Int := x.1.2.1.getD x.1.2.2.2.1.toNat 0;
 let x3 : Int := w64 (x.1.1 + x2);
 let x4 : Int := w64 (x.1.2.2.2.1 + (1 : Int));
 some (.inl ((x3, x.1.2.1, x.1.2.2.1, x4, ()), (), ())))))
 (some (.inr ((x.1.1, ()), (), ())))
def impl_sum_h0 : Sh := ⟨[(3, .c (.int .i64)), (6, .c (.rd [] .i64)), (7, .c (.int .i64)), (8, .c (.int .i64))], [], []⟩
def impl_sum_r0 : List Sh := [⟨[(3, .c (.int .i64))], [], []⟩]
noncomputable def impl_sum_L0 : Lp := ⟨0, [], impl_sum_h0, [], [(.exit 0, [])], impl_sum_r0, loopC impl_sum_s0⟩
noncomputable def impl_sum (a0 : List Int) : Option ((Int × Unit) × Unit × Unit) :=
 (loopC impl_sum_s0 (((0 : Int), a0, (a0.length : Int), (0 : Int), ()), (), ())).bind fun r5 =>
 some ((r5.1.1, ()), (), ())
noncomputable def impl_sum_C : Ctr := ⟨136, impl_sum_arg, impl_sum_res, fun x => impl_sum x.1.1, none⟩
def impl_sum_H : Hint := ⟨[], [], [], fun _ => []⟩
noncomputable def impl_sum_T : List Ctr := []
noncomputable def impl_sum_Ls : List Lp := [impl_sum_L0]
theorem impl_sum_l0 : ∀ x, impl_sum_s0 x = stepW E0 impl_sum_T impl_sum_Ls impl_sum_H (loopAt (bodyOf Tryz.f136) 0) 0 impl_sum_h0 [] [(.exit 0, [])] impl_sum_r0 x := fun x => by kernel_rfl
theorem impl_sum_e : ∀ x, impl_sum_C.F x = runBodyW E0 impl_sum_T impl_sum_Ls impl_sum_H 136 Tryz.f136.results.toList (bodyOf Tryz.f136) [] (impl_sum_arg.mk' x) impl_sum_res := fun x => by kernel_rfl
theorem impl_sum_ok : impl_sum_C.Ok E0 := fn_ok (T := impl_sum_T) (h := impl_sum_H) (Ls := impl_sum_Ls) E0_mixed T_nil Tryz.func136 (bodyOf_some (by kernel_rfl)) (by kernel_rfl) (loops_of (ks := [0]) (by kernel_rfl) ⟨(loop_one (h := impl_sum_H) (own := []) (head := impl_sum_h0) (back := []) (exs := [(.exit 0, [])]) (res := impl_sum_r0) (step := impl_sum_s0) (by kernel_rfl) impl_sum_l0), trivial⟩) impl_sum_e
def impl_full_arg : Sh := ⟨[(0, .agg [.int .i64, .int .i64, .int .i64]), (1, .c (.int .i64)), (2, .c (.int .i64))], [], []⟩
def impl_full_res : List Sh := [⟨[(0, .c (.bool))], [], []⟩]
noncomputable def impl_full (a0_0 : Int) (a0_1 : Int) (a0_2 : Int) (a1 : Int) (a2 : Int) : Option ((Bool × Unit) × Unit × Unit) :=
 (impl_spread a0_0 a0_1 a0_2 a1 a2).bind fun r1 =>
 br r1.1.2.2.1
 (let x2 : Bool := r1.1.2.1 == (0 : Int);
 br x2
 (some ((true, ()), (), ()))
 (let x3 : Bool := decide (r1.1.2.1 < a2);
 some ((x3, ()), (), ())))
 (some ((false, ()), (), ()))
noncomputable def impl_full_C : Ctr := ⟨137, impl_full_arg, impl_full_res, fun x => impl_full x.1.1.1 x.1.1.2.1 x.1.1.2.2.1 x.1.2.1 x.1.2.2.1, none⟩
def impl_full_H : Hint := ⟨[], [], [], fun _ => []⟩
noncomputable def impl_full_T : List Ctr := [impl_spread_C]
noncomputable def impl_full_Ls : List Lp := []
theorem impl_full_e : ∀ x, impl_full_C.F x = runBodyW E0 impl_full_T impl_full_Ls impl_full_H 137 Tryz.f137.results.toList (bodyOf Tryz.f137) [] (impl_full_arg.mk' x) impl_full_res := fun x => by kernel_rfl
theorem impl_full_ok : impl_full_C.Ok E0 := fn_ok (T := impl_full_T) (h := impl_full_H) (Ls := impl_full_Ls) E0_mixed (T_cons impl_spread_ok T_nil) Tryz.func137 (bodyOf_some (by kernel_rfl)) (by kernel_rfl) (loops_of (ks := []) (by kernel_rfl) trivial) impl_full_e
def impl_kindOf_arg : Sh := ⟨[(0, .agg [.int .i64, .int .i64, .int .i64]), (1, .c (.rd [] .i64))], [], []⟩
def impl_kindOf_res : List Sh := [⟨[(0, .c (.int .i64))], [], []⟩]
noncomputable def impl_kindOf (a0_0 : Int) (a0_1 : Int) (a0_2 : Int) (a1 : List Int) : Option ((Int × Unit) × Unit × Unit) :=
 let x1 : Int := w64 ((a1.length : Int) - (1 : Int));
 (impl_sum a1).bind fun r2 =>
 (impl_spread a0_0 a0_1 a0_2 r2.1.1 x1).bind fun r3 =>
 br (!r3.1.2.2.1)
 (some (((0 : Int), ()), (), ()))
 ((impl_sum a1).bind fun r4 =>
 (impl_full a0_0 a0_1 a0_2 r4.1.1 x1).bind fun r5 =>
 br r5.1.1
 (some (((2 : Int), ()), (), ()))
 (some (((1 : Int), ()), (), ())))
noncomputable def impl_kindOf_C : Ctr := ⟨105, impl_kindOf_arg, impl_kindOf_res, fun x => impl_kindOf x.1.1.1 x.1.1.2.1 x.1.1.2.2.1 x.1.2.1, none⟩
def impl_kindOf_H : Hint := ⟨[], [], [], fun _ => []⟩
noncomputable def impl_kindOf_T : List Ctr := [impl_sum_C, impl_spread_C, impl_full_C]
noncomputable def impl_kindOf_Ls : List Lp := []
theorem impl_kindOf_e : ∀ x, impl_kindOf_C.F x = runBodyW E0 impl_kindOf_T impl_kindOf_Ls impl_kindOf_H 105 Tryz.f105.results.toList (bodyOf Tryz.f105) [] (impl_kindOf_arg.mk' x) impl_kindOf_res := fun x => by kernel_rfl
theorem impl_kindOf_ok : impl_kindOf_C.Ok E0 := fn_ok (T := impl_kindOf_T) (h := impl_kindOf_H) (Ls := impl_kindOf_Ls) E0_mixed (T_cons impl_sum_ok (T_cons impl_spread_ok (T_cons impl_full_ok T_nil))) Tryz.func105 (bodyOf_some (by kernel_rfl)) (by kernel_rfl) (loops_of (ks := []) (by kernel_rfl) trivial) impl_kindOf_e
def impl_IsBreaking_arg : Sh := ⟨[(0, .agg [.int .i64, .int .i64, .int .i64]), (1, .c (.rd [] .i64)), (2, .c (.rd [] .i64))], [], []⟩
def impl_IsBreaking_res : List Sh := [⟨[(0, .c (.bool))], [], []⟩]
noncomputable def impl_IsBreaking_s0 (x : (List Int × List Int × Unit × Int × List Int × Int × Int × Unit) × ((Int × Int × Int × Unit) × Unit) × Unit) : Option (((List Int × List Int × Unit × Int × List Int × Int × Int × Unit) × ((Int × Int × Int × Unit) × Unit) × Unit) ⊕ (((Bool × Unit) × Unit × Unit) ⊕ ((List Int × Int × Unit) × Unit × Unit))) :=
 let x2 : Bool := decide (x.1.2.2.2.2.2.2.1 < x.1.2.2.2.2.2.1);
 br x2
 (ck (0 ≤ x.1.2.2.2.2.2.2.1)
 (ck (x.1.2.2.2.2.2.2.1.toNat < x.1.2.2.2.2.1.length)
 (let x3 : Int := x.1.2.2.2.2.1.getD x.1.2.2.2.2.2.2.1.toNat 0;
 let x4 : Bool := decide (x3 < (1 : Int));
 br x4
 (some (.inr (.inl ((false, ()), (), ()))))
 (let x5 : Int := w64 ((x.1.1.length : Int) - x.1.2.2.2.1);
 let x6 : Bool := decide (x3 > x5);
 br x6
 (some (.inr (.inl ((false, ()), (), ()))))
 (let x7 : Int := w64 (x.1.2.2.2.1 + x3);
 ck (0 ≤ x.1.2.2.2.1)
 (ck (0 ≤ x7)
 (ck (x.1.2.2.2.1.toNat ≤ x7.toNat ∧ x7.toNat ≤ x.1.1.length)
 (let x8 : List Int := cut x.1.1 x.1.2.2.2.1.toNat x7.toNat;
 (impl_kindOf x.2.1.1.1 x.2.1.1.2.1 x.2.1.1.2.2.1 x8).bind fun r9 =>
 let x10 : Int := w64 ((x.1.2.1.length : Int) - (1 : Int));
 let x11 : Bool := x.1.2.2.2.2.2.2.1 == x10;
 br x11
 (let x12 : Bool := r9.1.1 == (0 : Int);
 br x12
 (some (.inr (.inl ((false, ()), (), ()))))
 (let x13 : Bool := decide (x.1.2.2.2.2.2.2.1 < x10);
 br x13
 (let x14 : Bool := r9.1.1 != (2 : Int);
 br x14
 (some (.inr (.inl ((false, ()), (), ()))))
 (let x15 : Int := w64 (x.1.2.2.2.2.2.2.1 + (1 : Int));
 some (.inl ((x.1.1, x.1.2.1, (), x7, x.1.2.2.2.2.1, x.1.2.2.2.2.2.1, x15, ()), ((x.2.1.1.1, x.2.1.1.2.1, x.2.1.1.2.2.1, ()), ()), ()))))
 (let x16 : Int := w64 (x.1.2.2.2.2.2.2.1 + (1 : Int));
 some (.inl ((x.1.1, x.1.2.1, (), x7, x.1.2.2.2.2.1, x.1.2.2.2.2.2.1, x16, ()), ((x.2.1.1.1, x.2.1.1.2.1, x.2.1.1.2.2.1, ()), ()), ())))))
 (let x17 : Bool := decide (x.1.2.2.2.2.2.2.1 < x10);
 br x17
 (let x18 : Bool := r9.1.1 != (2 : Int);
 br x18
 (some (.inr (.inl ((false, ()), (), ()))))
 (let x19 : Int := w64 (x.1.2.2.2.2.2.2.1 + (1 : Int));
 some (.inl ((x.1.1, x.1.2.1, (), x7, x.1.2.2.2.2.1, x.1.2.2.2.2.2.1, x19, ()), ((x.2.1.1.1, x.2.1.1.2.1, x.2.1.1.2.2.1, ()), ()), ()))))
 (let x20 : Int := w64 (x.1.2.2.2.2.2.2.1 + (1 : Int));
 some (.inl ((x.1.1, x.1.2.1, (), x7, x.1.2.2.2.2.1, x.1.2.2.2.2.2.1, x20, ()), ((x.2.1.1.1, x.2.1.1.2.1, x.2.1.1.2.2.1, ()), ()), ()))))))))))))
 (some (.inr (.inr ((x.1.1, x.1.2.2.2.1, ()), (), ()))))
def impl_IsBreaking_h0 : Sh := ⟨[(1, .c (.rd [] .i64)), (2, .c (.rd [] .i64)), (3, .c (.box 0 0)), (7, .c (.int .i64)), (15, .c (.rd [] .i64)), (16, .c (.int .i64)), (17, .c (.int .i64))], [(0, .cells [.int .i64, .int .i64, .int .i64])], []⟩
def impl_IsBreaking_r0 : List Sh := [⟨[(6, .c (.bool))], [], []⟩, ⟨[(1, .c (.rd [] .i64)), (7, .c (.int .i64))], [], []⟩]
noncomputable def impl_IsBreaking_L0 : Lp := ⟨0, [], impl_IsBreaking_h0, [], [(.ret, []), (.exit 0, [])], impl_IsBreaking_r0, loopC impl_IsBreaking_s0⟩
noncomputable def impl_IsBreaking (a0_0 : Int) (a0_1 : Int) (a0_2 : Int) (a1 : List Int) (a2 : List Int) : Option ((Bool × Unit) × Unit × Unit) :=
 (impl_both a0_0 a0_1 a0_2 a1).bind fun r1 =>
 br (!r1.1.1)
 (some ((false, ()), (), ()))
 ((loopC impl_IsBreaking_s0 ((a1, a2, (), (0 : Int), a2, (a2.length : Int), (0 : Int), ()), ((a0_0, a0_1, a0_2, ()), ()), ())).bind fun r21 =>
 sumK r21 (fun y24 =>
 some ((y24.1.1, ()), (), ())) (fun y25 =>
 let x26 : Bool := y25.1.2.1 == (y25.1.1.length : Int);
 some ((x26, ()), (), ())))
noncomputable def impl_IsBreaking_C : Ctr := ⟨70, impl_IsBreaking_arg, impl_IsBreaking_res, fun x => impl_IsBreaking x.1.1.1 x.1.1.2.1 x.1.1.2.2.1 x.1.2.1 x.1.2.2.1, none⟩
def impl_IsBreaking_H : Hint := ⟨[], [], [], fun _ => []⟩
noncomputable def impl_IsBreaking_T : List Ctr := [impl_both_C, impl_kindOf_C]
noncomputable def impl_IsBreaking_Ls : List Lp := [impl_IsBreaking_L0]
theorem impl_IsBreaking_l0 : ∀ x, impl_IsBreaking_s0 x = stepW E0 impl_IsBreaking_T impl_IsBreaking_Ls impl_IsBreaking_H (loopAt (bodyOf Tryz.f70) 0) 0 impl_IsBreaking_h0 [] [(.ret, []), (.exit 0, [])] impl_IsBreaking_r0 x := fun x => by kernel_rfl
theorem impl_IsBreaking_e : ∀ x, impl_IsBreaking_C.F x = runBodyW E0 impl_IsBreaking_T impl_IsBreaking_Ls impl_IsBreaking_H 70 Tryz.f70.results.toList (bodyOf Tryz.f70) [] (impl_IsBreaking_arg.mk' x) impl_IsBreaking_res := fun x => by kernel_rfl
theorem impl_IsBreaking_ok : impl_IsBreaking_C.Ok E0 := fn_ok (T := impl_IsBreaking_T) (h := impl_IsBreaking_H) (Ls := impl_IsBreaking_Ls) E0_mixed (T_cons impl_both_ok (T_cons impl_kindOf_ok T_nil)) Tryz.func70 (bodyOf_some (by kernel_rfl)) (by kernel_rfl) (loops_of (ks := [0]) (by kernel_rfl) ⟨(loop_one (h := impl_IsBreaking_H) (own := []) (head := impl_IsBreaking_h0) (back := []) (exs := [(.ret, []), (.exit 0, [])]) (res := impl_IsBreaking_r0) (step := impl_IsBreaking_s0) (by kernel_rfl) impl_IsBreaking_l0), trivial⟩) impl_IsBreaking_e
def impl_GalleyOk_arg : Sh := ⟨[(0, .agg [.str, .rd [] .i64, .rd [] .i64]), (1, .agg [.int .i64, .int .i64, .int .i64]), (2, .c (.rd [] .str))], [], []⟩
def impl_GalleyOk_res : List Sh := [⟨[(0, .c (.bool))], [], []⟩]
noncomputable def impl_GalleyOk_s0 (x : (List ByteArray × Unit × Unit × Unit × List ByteArray × Int × Int × Unit) × ((ByteArray × List Int × List Int × Unit) × (Int × Int × Int × Unit) × Unit) × (List Int × Unit)) : Option (((List ByteArray × Unit × Unit × Unit × List ByteArray × Int × Int × Unit) × ((ByteArray × List Int × List Int × Unit) × (Int × Int × Int × Unit) × Unit) × (List Int × Unit)) ⊕ (((Bool × Unit) × Unit × Unit) ⊕ ((List ByteArray × Unit × Unit × Unit × Unit) × ((ByteArray × List Int × List Int × Unit) × (Int × Int × Int × Unit) × Unit) × (List Int × Unit)))) :=
 let x1 : Bool := decide (x.1.2.2.2.2.2.2.1 < x.1.2.2.2.2.2.1);
 br x1
 (ck (0 ≤ x.1.2.2.2.2.2.2.1)
 (ck (x.1.2.2.2.2.2.2.1.toNat < x.1.2.2.2.2.1.length)
 (let x2 : ByteArray := x.1.2.2.2.2.1.getD x.1.2.2.2.2.2.2.1.toNat ByteArray.empty;
 (impl_wordsOf x2).bind fun r3 =>
 (strings_Join r3.2.2.1 (ByteArray.mk #[32])).bind fun r4 =>
 let x5 : Bool := !strEq r4.1.1 x2;
 br x5
 (some (.inr (.inl ((false, ()), (), ()))))
 (ck ((x.2.2.1.length + [(r3.2.2.1.length : Int)].length) * 8 ≤ 140737488355328 ∧ (x.2.2.1.length + [(r3.2.2.1.length : Int)].length) ≤ 9223372036854775807)
 (let x6 : List Int := x.2.2.1 ++ [(r3.2.2.1.length : Int)];
 let x7 : Int := w64 (x.1.2.2.2.2.2.2.1 + (1 : Int));
 some (.inl ((x.1.1, (), (), (), x.1.2.2.2.2.1, x.1.2.2.2.2.2.1, x7, ()), ((x.2.1.1.1, x.2.1.1.2.1, x.2.1.1.2.2.1, ()), (x.2.1.2.1.1, x.2.1.2.1.2.1, x.2.1.2.1.2.2.1, ()), ()), (x6, ()))))))))
 (some (.inr (.inr ((x.1.1, (), (), (), ()), ((x.2.1.1.1, x.2.1.1.2.1, x.2.1.1.2.2.1, ()), (x.2.1.2.1.1, x.2.1.2.1.2.1, x.2.1.2.1.2.2.1, ()), ()), (x.2.2.1, ())))))
def impl_GalleyOk_h0 : Sh := ⟨[(2, .c (.rd [] .str)), (3, .c (.box 0 0)), (4, .c (.box 1 0)), (7, .c (.own 0)), (14, .c (.rd [] .str)), (15, .c (.int .i64)), (16, .c (.int .i64))], [(0, .cells [.str, .rd [] .i64, .rd [] .i64]), (1, .cells [.int .i64, .int .i64, .int .i64])], [(0, .i64)]⟩
def impl_GalleyOk_r0 : List Sh := [⟨[(6, .c (.bool))], [], []⟩, ⟨[(2, .c (.rd [] .str)), (3, .c (.box 0 0)), (4, .c (.box 1 0)), (7, .c (.own 0))], [(0, .cells [.str, .rd [] .i64, .rd [] .i64]), (1, .cells [.int .i64, .int .i64, .int .i64])], [(0, .i64)]⟩]
noncomputable def impl_GalleyOk_L0 : Lp := ⟨0, [], impl_GalleyOk_h0, [], [(.ret, []), (.exit 0, [])], impl_GalleyOk_r0, loopC impl_GalleyOk_s0⟩
noncomputable def impl_GalleyOk (a0_0 : ByteArray) (a0_1 : List Int) (a0_2 : List Int) (a1_0 : Int) (a1_1 : Int) (a1_2 : Int) (a2 : List ByteArray) : Option ((Bool × Unit) × Unit × Unit) :=
 (loopC impl_GalleyOk_s0 ((a2, (), (), (), a2, (a2.length : Int), (0 : Int), ()), ((a0_0, a0_1, a0_2, ()), (a1_0, a1_1, a1_2, ()), ()), ([], ()))).bind fun r8 =>
 sumK r8 (fun y11 =>
 some ((y11.1.1, ()), (), ())) (fun y12 =>
 (impl_GalleyText y12.1.1).bind fun r13 =>
 (impl_WordWidths y12.2.1.1.1 y12.2.1.1.2.1 y12.2.1.1.2.2.1 r13.1.1).bind fun r14 =>
 br r14.1.2.1
 ((impl_IsBreaking y12.2.1.2.1.1 y12.2.1.2.1.2.1 y12.2.1.2.1.2.2.1 r14.2.2.1 y12.2.2.1).bind fun r15 =>
 some ((r15.1.1, ()), (), ()))
 (some ((false, ()), (), ())))
noncomputable def impl_GalleyOk_C : Ctr := ⟨27, impl_GalleyOk_arg, impl_GalleyOk_res, fun x => impl_GalleyOk x.1.1.1 x.1.1.2.1 x.1.1.2.2.1 x.1.2.1.1 x.1.2.1.2.1 x.1.2.1.2.2.1 x.1.2.2.1, none⟩
def impl_GalleyOk_H : Hint := ⟨[], [], [], fun _ => []⟩
noncomputable def impl_GalleyOk_T : List Ctr := [impl_wordsOf_C, strings_Join_C, impl_GalleyText_C, impl_WordWidths_C, impl_IsBreaking_C]
noncomputable def impl_GalleyOk_Ls : List Lp := [impl_GalleyOk_L0]
theorem impl_GalleyOk_l0 : ∀ x, impl_GalleyOk_s0 x = stepW E0 impl_GalleyOk_T impl_GalleyOk_Ls impl_GalleyOk_H (loopAt (bodyOf Tryz.f27) 0) 0 impl_GalleyOk_h0 [] [(.ret, []), (.exit 0, [])] impl_GalleyOk_r0 x := fun x => by kernel_rfl
theorem impl_GalleyOk_e : ∀ x, impl_GalleyOk_C.F x = runBodyW E0 impl_GalleyOk_T impl_GalleyOk_Ls impl_GalleyOk_H 27 Tryz.f27.results.toList (bodyOf Tryz.f27) [] (impl_GalleyOk_arg.mk' x) impl_GalleyOk_res := fun x => by kernel_rfl
theorem impl_GalleyOk_ok : impl_GalleyOk_C.Ok E0 := fn_ok (T := impl_GalleyOk_T) (h := impl_GalleyOk_H) (Ls := impl_GalleyOk_Ls) E0_mixed (T_cons impl_wordsOf_ok (T_cons strings_Join_ok (T_cons impl_GalleyText_ok (T_cons impl_WordWidths_ok (T_cons impl_IsBreaking_ok T_nil))))) Tryz.func27 (bodyOf_some (by kernel_rfl)) (by kernel_rfl) (loops_of (ks := [0]) (by kernel_rfl) ⟨(loop_one (h := impl_GalleyOk_H) (own := []) (head := impl_GalleyOk_h0) (back := []) (exs := [(.ret, []), (.exit 0, [])]) (res := impl_GalleyOk_r0) (step := impl_GalleyOk_s0) (by kernel_rfl) impl_GalleyOk_l0), trivial⟩) impl_GalleyOk_e
def Clone_int_arg : Sh := ⟨[(0, .c (.rd [] .i64))], [], []⟩
def Clone_int_res : List Sh := [⟨[(0, .c (.own 0))], [], [(0, .i64)]⟩]
noncomputable def Clone_int (a0 : List Int) : Option ((Unit × Unit) × Unit × (List Int × Unit)) :=
 br a0.isEmpty
 (both (some (((), ()), (), ([], ())))
 (ck ((([] : List Int).length + a0.length) * 8 ≤ 140737488355328 ∧ (([] : List Int).length + a0.length) ≤ 9223372036854775807)
 (let x1 : List Int := [] ++ a0;
 some (((), ()), (), (x1, ())))))
 (ck ((([] : List Int).length + a0.length) * 8 ≤ 140737488355328 ∧ (([] : List Int).length + a0.length) ≤ 9223372036854775807)
 (let x2 : List Int := [] ++ a0;
 some (((), ()), (), (x2, ()))))
noncomputable def Clone_int_C : Ctr := ⟨112, Clone_int_arg, Clone_int_res, fun x => Clone_int x.1.1, none⟩
def Clone_int_H : Hint := ⟨[], [], [], fun _ => []⟩
noncomputable def Clone_int_T : List Ctr := []
noncomputable def Clone_int_Ls : List Lp := []
theorem Clone_int_e : ∀ x, Clone_int_C.F x = runBodyW E0 Clone_int_T Clone_int_Ls Clone_int_H 112 Tryz.f112.results.toList (bodyOf Tryz.f112) [(.tm 2, 6000000, .i64)] (Clone_int_arg.mk' x) Clone_int_res := fun x => by kernel_rfl
theorem Clone_int_ok : Clone_int_C.Ok E0 := fn_ok (T := Clone_int_T) (h := Clone_int_H) (Ls := Clone_int_Ls) E0_mixed T_nil Tryz.func112 (bodyOf_some (by kernel_rfl)) (by kernel_rfl) (loops_of (ks := []) (by kernel_rfl) trivial) Clone_int_e
def Clone_Matrix_arg : Sh := ⟨[(0, .c (.rd [] .mat))], [], []⟩
def Clone_Matrix_res : List Sh := [⟨[(0, .c (.own 0))], [], [(0, .mat)]⟩]
noncomputable def Clone_Matrix (a0 : List (Int × Int)) : Option ((Unit × Unit) × Unit × (List (Int × Int) × Unit)) :=
 br a0.isEmpty
 (both (some (((), ()), (), ([], ())))
 (ck ((([] : List Int).length + a0.length) * 16 ≤ 140737488355328 ∧ (([] : List Int).length + a0.length) ≤ 9223372036854775807)
 (let x1 : List (Int × Int) := [] ++ a0;
 some (((), ()), (), (x1, ())))))
 (ck ((([] : List Int).length + a0.length) * 16 ≤ 140737488355328 ∧ (([] : List Int).length + a0.length) ≤ 9223372036854775807)
 (let x2 : List (Int × Int) := [] ++ a0;
 some (((), ()), (), (x2, ()))))
noncomputable def Clone_Matrix_C : Ctr := ⟨114, Clone_Matrix_arg, Clone_Matrix_res, fun x => Clone_Matrix x.1.1, none⟩
def Clone_Matrix_H : Hint := ⟨[], [], [], fun _ => []⟩
noncomputable def Clone_Matrix_T : List Ctr := []
noncomputable def Clone_Matrix_Ls : List Lp := []
theorem Clone_Matrix_e : ∀ x, Clone_Matrix_C.F x = runBodyW E0 Clone_Matrix_T Clone_Matrix_Ls Clone_Matrix_H 114 Tryz.f114.results.toList (bodyOf Tryz.f114) [(.tm 2, 6000000, .mat)] (Clone_Matrix_arg.mk' x) Clone_Matrix_res := fun x => by kernel_rfl
theorem Clone_Matrix_ok : Clone_Matrix_C.Ok E0 := fn_ok (T := Clone_Matrix_T) (h := Clone_Matrix_H) (Ls := Clone_Matrix_Ls) E0_mixed T_nil Tryz.func114 (bodyOf_some (by kernel_rfl)) (by kernel_rfl) (loops_of (ks := []) (by kernel_rfl) trivial) Clone_Matrix_e
def impl_copyMagazine_arg : Sh := ⟨[(0, .c (.rd [] .mats))], [], []⟩
def impl_copyMagazine_res : List Sh := [⟨[(0, .c (.own 0))], [], [(0, .mats)]⟩]
noncomputable def impl_copyMagazine_s0 (x : (Unit × List (List (Int × Int)) × Int × Int × Unit) × Unit × (List (List (Int × Int)) × Unit)) : Option (((Unit × List (List (Int × Int)) × Int × Int × Unit) × Unit × (List (List (Int × Int)) × Unit)) ⊕ ((Unit × Unit) × Unit × (List (List (Int × Int)) × Unit))) :=
 let x1 : Bool := decide (x.1.2.2.2.1 < x.1.2.2.1);
 br x1
 (ck (0 ≤ x.1.2.2.2.1)
 (ck (x.1.2.2.2.1.toNat < x.1.2.1.length)
 (let x2 : List (Int × Int) := x.1.2.1.getD x.1.2.2.2.1.toNat [];
 (Clone_Matrix x2).bind fun r3 =>
 ck ((x.2.2.1.length + 1) * 24 ≤ 140737488355328 ∧ (x.2.2.1.length + 1) ≤ 9223372036854775807)
 (let x4 : List (List (Int × Int)) := x.2.2.1 ++ [r3.2.2.1];
 let x5 : Int := w64 (x.1.2.2.2.1 + (1 : Int));
 some (.inl (((), x.1.2.1, x.1.2.2.1, x5, ()), (), (x4, ())))))))
 (some (.inr (((), ()), (), (x.2.2.1, ()))))
def impl_copyMagazine_h0 : Sh := ⟨[(3, .c (.own 0)), (7, .c (.rd [] .mats)), (8, .c (.int .i64)), (9, .c (.int .i64))], [], [(0, .mats)]⟩
def impl_copyMagazine_r0 : List Sh := [⟨[(3, .c (.own 0))], [], [(0, .mats)]⟩]
noncomputable def impl_copyMagazine_L0 : Lp := ⟨0, [], impl_copyMagazine_h0, [], [(.exit 0, [])], impl_copyMagazine_r0, loopC impl_copyMagazine_s0⟩
noncomputable def impl_copyMagazine (a0 : List (List (Int × Int))) : Option ((Unit × Unit) × Unit × (List (List (Int × Int)) × Unit)) :=
 (loopC impl_copyMagazine_s0 (((), a0, (a0.length : Int), (0 : Int), ()), (), ([], ()))).bind fun r6 =>
 some (((), ()), (), (r6.2.2.1, ()))
noncomputable def impl_copyMagazine_C : Ctr := ⟨113, impl_copyMagazine_arg, impl_copyMagazine_res, fun x => impl_copyMagazine x.1.1, none⟩
def impl_copyMagazine_H : Hint := ⟨[], [], [], fun _ => []⟩
noncomputable def impl_copyMagazine_T : List Ctr := [Clone_Matrix_C]
noncomputable def impl_copyMagazine_Ls : List Lp := [impl_copyMagazine_L0]
theorem impl_copyMagazine_l0 : ∀ x, impl_copyMagazine_s0 x = stepW E0 impl_copyMagazine_T impl_copyMagazine_Ls impl_copyMagazine_H (loopAt (bodyOf Tryz.f113) 0) 0 impl_copyMagazine_h0 [] [(.exit 0, [])] impl_copyMagazine_r0 x := fun x => by kernel_rfl
theorem impl_copyMagazine_e : ∀ x, impl_copyMagazine_C.F x = runBodyW E0 impl_copyMagazine_T impl_copyMagazine_Ls impl_copyMagazine_H 113 Tryz.f113.results.toList (bodyOf Tryz.f113) [] (impl_copyMagazine_arg.mk' x) impl_copyMagazine_res := fun x => by kernel_rfl
theorem impl_copyMagazine_ok : impl_copyMagazine_C.Ok E0 := fn_ok (T := impl_copyMagazine_T) (h := impl_copyMagazine_H) (Ls := impl_copyMagazine_Ls) E0_mixed (T_cons Clone_Matrix_ok T_nil) Tryz.func113 (bodyOf_some (by kernel_rfl)) (by kernel_rfl) (loops_of (ks := [0]) (by kernel_rfl) ⟨(loop_one (h := impl_copyMagazine_H) (own := []) (head := impl_copyMagazine_h0) (back := []) (exs := [(.exit 0, [])]) (res := impl_copyMagazine_r0) (step := impl_copyMagazine_s0) (by kernel_rfl) impl_copyMagazine_l0), trivial⟩) impl_copyMagazine_e
def impl_copyMachine_arg : Sh := ⟨[(0, .agg [.str, .rd [] .i64, .rd [] .i64, .rd [] .mats, .int .i64, .int .i64, .int .i64, .int .i64, .rd [] .mat, .rd [] .mat])], [], []⟩
def impl_copyMachine_res : List Sh := [⟨[(0, .agg [.str, .own 0, .own 1, .own 2, .int .i64, .int .i64, .int .i64, .int .i64, .own 3, .own 4])], [], [(0, .i64), (1, .i64), (2, .mats), (3, .mat), (4, .mat)]⟩]
noncomputable def impl_copyMachine (a0_0 : ByteArray) (a0_1 : List Int) (a0_2 : List Int) (a0_3 : List (List (Int × Int))) (a0_4 : Int) (a0_5 : Int) (a0_6 : Int) (a0_7 : Int) (a0_8 : List (Int × Int)) (a0_9 : List (Int × Int)) : Option (((ByteArray × Unit × Unit × Unit × Int × Int × Int × Int × Unit × Unit × Unit) × Unit) × Unit × (List Int × List Int × List (List (Int × Int)) × List (Int × Int) × List (Int × Int) × Unit)) :=
 (Clone_int a0_1).bind fun r1 =>
 (Clone_int a0_2).bind fun r2 =>
 (impl_copyMagazine a0_3).bind fun r3 =>
 (Clone_Matrix a0_8).bind fun r4 =>
 (Clone_Matrix a0_9).bind fun r5 =>
 some (((a0_0, (), (), (), a0_4, a0_5, a0_6, a0_7, (), (), ()), ()), (), (r1.2.2.1, r2.2.2.1, r3.2.2.1, r4.2.2.1, r5.2.2.1, ()))
noncomputable def impl_copyMachine_C : Ctr := ⟨78, impl_copyMachine_arg, impl_copyMachine_res, fun x => impl_copyMachine x.1.1.1 x.1.1.2.1 x.1.1.2.2.1 x.1.1.2.2.2.1 x.1.1.2.2.2.2.1 x.1.1.2.2.2.2.2.1 x.1.1.2.2.2.2.2.2.1 x.1.1.2.2.2.2.2.2.2.1 x.1.1.2.2.2.2.2.2.2.2.1 x.1.1.2.2.2.2.2.2.2.2.2.1, none⟩
def impl_copyMachine_H : Hint := ⟨[], [], [], fun _ => []⟩
noncomputable def impl_copyMachine_T : List Ctr := [Clone_int_C, impl_copyMagazine_C, Clone_Matrix_C]
noncomputable def impl_copyMachine_Ls : List Lp := []
theorem impl_copyMachine_e : ∀ x, impl_copyMachine_C.F x = runBodyW E0 impl_copyMachine_T impl_copyMachine_Ls impl_copyMachine_H 78 Tryz.f78.results.toList (bodyOf Tryz.f78) [] (impl_copyMachine_arg.mk' x) impl_copyMachine_res := fun x => by kernel_rfl
theorem impl_copyMachine_ok : impl_copyMachine_C.Ok E0 := fn_ok (T := impl_copyMachine_T) (h := impl_copyMachine_H) (Ls := impl_copyMachine_Ls) E0_mixed (T_cons Clone_int_ok (T_cons impl_copyMagazine_ok (T_cons Clone_Matrix_ok T_nil))) Tryz.func78 (bodyOf_some (by kernel_rfl)) (by kernel_rfl) (loops_of (ks := []) (by kernel_rfl) trivial) impl_copyMachine_e
def impl_KeyText_arg : Sh := ⟨[(0, .agg [.str, .rd [] .i64, .rd [] .i64, .rd [] .mats, .int .i64, .int .i64, .int .i64, .int .i64, .rd [] .mat, .rd [] .mat]), (1, .c (.str))], [], []⟩
def impl_KeyText_res : List Sh := [⟨[(0, .agg [.str, .own 0, .own 1, .own 2, .int .i64, .int .i64, .int .i64, .int .i64, .own 3, .own 4]), (1, .c (.int .i64))], [], [(0, .i64), (1, .i64), (2, .mats), (3, .mat), (4, .mat)]⟩]
noncomputable def impl_KeyText_s0 (x : (ByteArray × Unit × Unit × Int × Int × Unit) × ((ByteArray × Unit × Unit × Unit × Int × Int × Int × Int × Unit × Unit × Unit) × (ByteArray × Unit × Unit × Unit × Int × Int × Int × Int × Unit × Unit × Unit) × Unit) × (List Int × List Int × List (List (Int × Int)) × List (Int × Int) × List (Int × Int) × Unit)) : Option (((ByteArray × Unit × Unit × Int × Int × Unit) × ((ByteArray × Unit × Unit × Unit × Int × Int × Int × Int × Unit × Unit × Unit) × (ByteArray × Unit × Unit × Unit × Int × Int × Int × Int × Unit × Unit × Unit) × Unit) × (List Int × List Int × List (List (Int × Int)) × List (Int × Int) × List (Int × Int) × Unit)) ⊕ (((Unit × Int × Unit) × ((ByteArray × Unit × Unit × Unit × Int × Int × Int × Int × Unit × Unit × Unit) × Unit) × (List Int × List Int × List (List (Int × Int)) × List (Int × Int) × List (Int × Int) × Unit)) ⊕ ((ByteArray × Unit × Unit × Unit) × ((ByteArray × Unit × Unit × Unit × Int × Int × Int × Int × Unit × Unit × Unit) × (ByteArray × Unit × Unit × Unit × Int × Int × Int × Int × Unit × Unit × Unit) × Unit) × (List Int × List Int × List (List (Int × Int)) × List (Int × Int) × List (Int × Int) × Unit)))) :=
 let x3 : Bool := decide (x.1.2.2.2.2.1 < x.1.2.2.2.1);
 br x3
 (ck (0 ≤ x.1.2.2.2.2.1 ∧ x.1.2.2.2.2.1.toNat < x.1.1.size)
 (let x4 : Int := byteAt x.1.1 x.1.2.2.2.2.1.toNat;
 let x5 : Bool := x4 == (32 : Int);
 br x5
 (let x6 : Bool := x.2.1.1.2.2.2.2.1 == (0 : Int);
 br x6
 (some (.inr (.inl (((), x.1.2.2.2.2.1, ()), ((x.2.1.1.1, (), (), (), x.2.1.1.2.2.2.2.1, x.2.1.1.2.2.2.2.2.1, x.2.1.1.2.2.2.2.2.2.1, x.2.1.1.2.2.2.2.2.2.2.1, (), (), ()), ()), (x.2.2.1, x.2.2.2.1, x.2.2.2.2.1, x.2.2.2.2.2.1, x.2.2.2.2.2.2.1, ())))))
 (let w13 : Option (((ByteArray × Unit × Unit × Int × Int × Unit) × ((ByteArray × Unit × Unit × Unit × Int × Int × Int × Int × Unit × Unit × Unit) × (ByteArray × Unit × Unit × Unit × Int × Int × Int × Int × Unit × Unit × Unit) × Unit) × (List Int × List Int × List (List (Int × Int)) × List (Int × Int) × List (Int × Int) × Unit)) ⊕ (((Unit × Int × Unit) × ((ByteArray × Unit × Unit × Unit × Int × Int × Int × Int × Unit × Unit × Unit) × Unit) × (List Int × List Int × List (List (Int × Int)) × List (Int × Int) × List (Int × Int) × Unit)) ⊕ ((ByteArray × Unit × Unit × Unit) × ((ByteArray × Unit × Unit × Unit × Int × Int × Int × Int × Unit × Unit × Unit) × (ByteArray × Unit × Unit × Unit × Int × Int × Int × Int × Unit × Unit × Unit) × Unit) × (List Int × List Int × List (List (Int × Int)) × List (Int × Int) × List (Int × Int) × Unit)))) := ((Clone_Matrix x.2.2.2.2.2.1).bind fun r7 =>
 ck ((r7.2.2.1.length + [((-1 : Int), (0 : Int))].length) * 16 ≤ 140737488355328 ∧ (r7.2.2.1.length + [((-1 : Int), (0 : Int))].length) ≤ 9223372036854775807)
 (let x8 : List (Int × Int) := r7.2.2.1 ++ [((-1 : Int), (0 : Int))];
 (impl_items x.2.1.1.1 x.2.2.1 x.2.2.2.1 x8).bind fun r9 =>
 (impl_fits x.2.1.1.2.2.2.2.2.1 x.2.1.1.2.2.2.2.2.2.1 x.2.1.1.2.2.2.2.2.2.2.1 r9.2.2.1).bind fun r10 =>
 br (!r10.1.1)
 (some (.inr (.inl (((), x.1.2.2.2.2.1, ()), ((x.2.1.1.1, (), (), (), x.2.1.1.2.2.2.2.1, x.2.1.1.2.2.2.2.2.1, x.2.1.1.2.2.2.2.2.2.1, x.2.1.1.2.2.2.2.2.2.2.1, (), (), ()), ()), (x.2.2.1, x.2.2.2.1, x.2.2.2.2.1, x.2.2.2.2.2.1, x.2.2.2.2.2.2.1, ())))))
 (let x11 : Int := w64 (x.2.1.1.2.2.2.2.1 - (1 : Int));
 let x12 : Int := w64 (x.1.2.2.2.2.1 + (1 : Int));
 some (.inl ((x.1.1, (), (), x.1.2.2.2.1, x12, ()), ((x.2.1.1.1, (), (), (), x11, x.2.1.1.2.2.2.2.2.1, x.2.1.1.2.2.2.2.2.2.1, x.2.1.1.2.2.2.2.2.2.2.1, (), (), ()), (x.2.1.2.1.1, (), (), (), x.2.1.2.1.2.2.2.2.1, x.2.1.2.1.2.2.2.2.2.1, x.2.1.2.1.2.2.2.2.2.2.1, x.2.1.2.1.2.2.2.2.2.2.2.1, (), (), ()), ()), (x.2.2.1, x.2.2.2.1, x.2.2.2.2.1, x8, x.2.2.2.2.2.2.1, ()))))));
 both w13 (w13)))
 (ck (0 ≤ x.1.2.2.2.2.1 ∧ x.1.2.2.2.2.1.toNat < x.1.1.size)
 (let x14 : Int := w64 x4;
 (impl_key x.2.1.1.1 x.2.2.1 x.2.2.2.1 x14).bind fun r15 =>
 let x16 : Bool := decide (r15.1.1 < (0 : Int));
 br x16
 (some (.inr (.inl (((), x.1.2.2.2.2.1, ()), ((x.2.1.1.1, (), (), (), x.2.1.1.2.2.2.2.1, x.2.1.1.2.2.2.2.2.1, x.2.1.1.2.2.2.2.2.2.1, x.2.1.1.2.2.2.2.2.2.2.1, (), (), ()), ()), (x.2.2.1, x.2.2.2.1, x.2.2.2.2.1, x.2.2.2.2.2.1, x.2.2.2.2.2.2.1, ())))))
 (ck (0 ≤ r15.1.1)
 (ck (r15.1.1.toNat < x.2.2.2.2.1.length)
 (ck (r15.1.1.toNat < x.2.2.2.2.1.length)
 (ck (r15.1.1.toNat < x.2.2.2.2.1.length)
 (let x17 : Bool := ((x.2.2.2.2.1.getD r15.1.1.toNat []).length : Int) == (0 : Int);
 br x17
 (some (.inr (.inl (((), x.1.2.2.2.2.1, ()), ((x.2.1.1.1, (), (), (), x.2.1.1.2.2.2.2.1, x.2.1.1.2.2.2.2.2.1, x.2.1.1.2.2.2.2.2.2.1, x.2.1.1.2.2.2.2.2.2.2.1, (), (), ()), ()), (x.2.2.1, x.2.2.2.1, x.2.2.2.2.1, x.2.2.2.2.2.1, x.2.2.2.2.2.2.1, ())))))
 (ck (0 ≤ r15.1.1)
 (ck (r15.1.1.toNat < x.2.2.2.2.1.length)
 (ck (r15.1.1.toNat < x.2.2.2.2.1.length)
 (ck (r15.1.1.toNat < x.2.2.2.2.1.length ∧ 0 < (x.2.2.2.2.1.getD r15.1.1.toNat []).length)
 (ck (r15.1.1.toNat < x.2.2.2.2.1.length ∧ 0 < (x.2.2.2.2.1.getD r15.1.1.toNat []).length)
 (let x18 : Int := ((x.2.2.2.2.1.getD r15.1.1.toNat []).getD 0 (0, 0)).1;
 let x19 : Int := ((x.2.2.2.2.1.getD r15.1.1.toNat []).getD 0 (0, 0)).2;
 let w30 : Option (((ByteArray × Unit × Unit × Int × Int × Unit) × ((ByteArray × Unit × Unit × Unit × Int × Int × Int × Int × Unit × Unit × Unit) × (ByteArray × Unit × Unit × Unit × Int × Int × Int × Int × Unit × Unit × Unit) × Unit) × (List Int × List Int × List (List (Int × Int)) × List (Int × Int) × List (Int × Int) × Unit)) ⊕ (((Unit × Int × Unit) × ((ByteArray × Unit × Unit × Unit × Int × Int × Int × Int × Unit × Unit × Unit) × Unit) × (List Int × List Int × List (List (Int × Int)) × List (Int × Int) × List (Int × Int) × Unit)) ⊕ ((ByteArray × Unit × Unit × Unit) × ((ByteArray × Unit × Unit × Unit × Int × Int × Int × Int × Unit × Unit × Unit) × (ByteArray × Unit × Unit × Unit × Int × Int × Int × Int × Unit × Unit × Unit) × Unit) × (List Int × List Int × List (List (Int × Int)) × List (Int × Int) × List (Int × Int) × Unit)))) := ((Clone_Matrix x.2.2.2.2.2.1).bind fun r20 =>
 ck ((r20.2.2.1.length + [(x18, x19)].length) * 16 ≤ 140737488355328 ∧ (r20.2.2.1.length + [(x18, x19)].length) ≤ 9223372036854775807)
 (let x21 : List (Int × Int) := r20.2.2.1 ++ [(x18, x19)];
 (impl_items x.2.1.1.1 x.2.2.1 x.2.2.2.1 x21).bind fun r22 =>
 (impl_fits x.2.1.1.2.2.2.2.2.1 x.2.1.1.2.2.2.2.2.2.1 x.2.1.1.2.2.2.2.2.2.2.1 r22.2.2.1).bind fun r23 =>
 br (!r23.1.1)
 (some (.inr (.inl (((), x.1.2.2.2.2.1, ()), ((x.2.1.1.1, (), (), (), x.2.1.1.2.2.2.2.1, x.2.1.1.2.2.2.2.2.1, x.2.1.1.2.2.2.2.2.2.1, x.2.1.1.2.2.2.2.2.2.2.1, (), (), ()), ()), (x.2.2.1, x.2.2.2.1, x.2.2.2.2.1, x.2.2.2.2.2.1, x.2.2.2.2.2.2.1, ())))))
 (br x16
 (let x24 : Int := w64 (x.2.1.1.2.2.2.2.1 - (1 : Int));
 let x25 : Int := w64 (x.1.2.2.2.2.1 + (1 : Int));
 some (.inl ((x.1.1, (), (), x.1.2.2.2.1, x25, ()), ((x.2.1.1.1, (), (), (), x24, x.2.1.1.2.2.2.2.2.1, x.2.1.1.2.2.2.2.2.2.1, x.2.1.1.2.2.2.2.2.2.2.1, (), (), ()), (x.2.1.2.1.1, (), (), (), x.2.1.2.1.2.2.2.2.1, x.2.1.2.1.2.2.2.2.2.1, x.2.1.2.1.2.2.2.2.2.2.1, x.2.1.2.1.2.2.2.2.2.2.2.1, (), (), ()), ()), (x.2.2.1, x.2.2.2.1, x.2.2.2.2.1, x21, x.2.2.2.2.2.2.1, ()))))
 (ck (0 ≤ r15.1.1)
 (ck (r15.1.1.toNat < x.2.2.2.2.1.length)
 (ck (r15.1.1.toNat < x.2.2.2.2.1.length)
 (ck (r15.1.1.toNat < x.2.2.2.2.1.length)
 (let x26 : List (Int × Int) := x.2.2.2.2.1.getD r15.1.1.toNat [];
 ck (1 ≤ x26.length ∧ x26.length ≤ x26.length)
 (let x27 : List (Int × Int) := cut x26 1 x26.length;
 ck (0 ≤ r15.1.1)
 (ck (r15.1.1.toNat < x.2.2.2.2.1.length)
 (ck (r15.1.1.toNat = r15.1.1.toNat ∧ r15.1.1.toNat < x.2.2.2.2.1.length)
 (let x28 : List (List (Int × Int)) := x.2.2.2.2.1.set r15.1.1.toNat x27;
 let x29 : Int := w64 (x.1.2.2.2.2.1 + (1 : Int));
 some (.inl ((x.1.1, (), (), x.1.2.2.2.1, x29, ()), ((x.2.1.1.1, (), (), (), x.2.1.1.2.2.2.2.1, x.2.1.1.2.2.2.2.2.1, x.2.1.1.2.2.2.2.2.2.1, x.2.1.1.2.2.2.2.2.2.2.1, (), (), ()), (x.2.1.2.1.1, (), (), (), x.2.1.2.1.2.2.2.2.1, x.2.1.2.1.2.2.2.2.2.1, x.2.1.2.1.2.2.2.2.2.2.1, x.2.1.2.1.2.2.2.2.2.2.2.1, (), (), ()), ()), (x.2.2.1, x.2.2.2.1, x28, x21, x.2.2.2.2.2.2.1, ())))))))))))))));
 both w30 (w30))))))))))))))))
 (some (.inr (.inr ((x.1.1, (), (), ()), ((x.2.1.1.1, (), (), (), x.2.1.1.2.2.2.2.1, x.2.1.1.2.2.2.2.2.1, x.2.1.1.2.2.2.2.2.2.1, x.2.1.1.2.2.2.2.2.2.2.1, (), (), ()), (x.2.1.2.1.1, (), (), (), x.2.1.2.1.2.2.2.2.1, x.2.1.2.1.2.2.2.2.2.1, x.2.1.2.1.2.2.2.2.2.2.1, x.2.1.2.1.2.2.2.2.2.2.2.1, (), (), ()), ()), (x.2.2.1, x.2.2.2.1, x.2.2.2.2.1, x.2.2.2.2.2.1, x.2.2.2.2.2.2.1, ())))))
def impl_KeyText_h0 : Sh := ⟨[(1, .c (.str)), (2, .c (.box 0 0)), (4, .c (.box 1 0)), (17, .c (.int .i64)), (18, .c (.int .i64))], [(0, .cells [.str, .own 0, .own 1, .own 2, .int .i64, .int .i64, .int .i64, .int .i64, .own 3, .own 4]), (1, .cells [.str, .nil, .nil, .nil, .int .i64, .int .i64, .int .i64, .int .i64, .nil, .nil])], [(0, .i64), (1, .i64), (2, .mats), (3, .mat), (4, .mat)]⟩
def impl_KeyText_r0 : List Sh := [⟨[(4, .c (.box 0 0)), (5, .c (.int .i64))], [(0, .cells [.str, .own 0, .own 1, .own 2, .int .i64, .int .i64, .int .i64, .int .i64, .own 3, .own 4])], [(0, .i64), (1, .i64), (2, .mats), (3, .mat), (4, .mat)]⟩, ⟨[(1, .c (.str)), (2, .c (.box 0 0)), (4, .c (.box 1 0))], [(0, .cells [.str, .own 0, .own 1, .own 2, .int .i64, .int .i64, .int .i64, .int .i64, .own 3, .own 4]), (1, .cells [.str, .nil, .nil, .nil, .int .i64, .int .i64, .int .i64, .int .i64, .nil, .nil])], [(0, .i64), (1, .i64), (2, .mats), (3, .mat), (4, .mat)]⟩]
noncomputable def impl_KeyText_L0 : Lp := ⟨0, [], impl_KeyText_h0, [], [(.ret, []), (.exit 0, [])], impl_KeyText_r0, loopC impl_KeyText_s0⟩
noncomputable def impl_KeyText (a0_0 : ByteArray) (a0_1 : List Int) (a0_2 : List Int) (a0_3 : List (List (Int × Int))) (a0_4 : Int) (a0_5 : Int) (a0_6 : Int) (a0_7 : Int) (a0_8 : List (Int × Int)) (a0_9 : List (Int × Int)) (a1 : ByteArray) : Option (((ByteArray × Unit × Unit × Unit × Int × Int × Int × Int × Unit × Unit × Unit) × Int × Unit) × Unit × (List Int × List Int × List (List (Int × Int)) × List (Int × Int) × List (Int × Int) × Unit)) :=
 (impl_MachineOk a0_0 a0_1 a0_2 a0_3 a0_4 a0_5 a0_6 a0_7 a0_8 a0_9).bind fun r1 =>
 br (!r1.1.1)
 (some (((ByteArray.empty, (), (), (), (0 : Int), (0 : Int), (0 : Int), (0 : Int), (), (), ()), (-1 : Int), ()), (), ([], [], [], [], [], ())))
 ((impl_copyMachine a0_0 a0_1 a0_2 a0_3 a0_4 a0_5 a0_6 a0_7 a0_8 a0_9).bind fun r2 =>
 (loopC impl_KeyText_s0 ((a1, (), (), (a1.size : Int), (0 : Int), ()), ((r2.1.1.1, (), (), (), r2.1.1.2.2.2.2.1, r2.1.1.2.2.2.2.2.1, r2.1.1.2.2.2.2.2.2.1, r2.1.1.2.2.2.2.2.2.2.1, (), (), ()), (ByteArray.empty, (), (), (), (0 : Int), (0 : Int), (0 : Int), (0 : Int), (), (), ()), ()), (r2.2.2.1, r2.2.2.2.1, r2.2.2.2.2.1, r2.2.2.2.2.2.1, r2.2.2.2.2.2.2.1, ()))).bind fun r31 =>
 sumK r31 (fun y34 =>
 some (((y34.2.1.1.1, (), (), (), y34.2.1.1.2.2.2.2.1, y34.2.1.1.2.2.2.2.2.1, y34.2.1.1.2.2.2.2.2.2.1, y34.2.1.1.2.2.2.2.2.2.2.1, (), (), ()), y34.1.2.1, ()), (), (y34.2.2.1, y34.2.2.2.1, y34.2.2.2.2.1, y34.2.2.2.2.2.1, y34.2.2.2.2.2.2.1, ()))) (fun y35 =>
 some (((y35.2.1.1.1, (), (), (), y35.2.1.1.2.2.2.2.1, y35.2.1.1.2.2.2.2.2.1, y35.2.1.1.2.2.2.2.2.2.1, y35.2.1.1.2.2.2.2.2.2.2.1, (), (), ()), (y35.1.1.size : Int), ()), (), (y35.2.2.1, y35.2.2.2.1, y35.2.2.2.2.1, y35.2.2.2.2.2.1, y35.2.2.2.2.2.2.1, ()))))
noncomputable def impl_KeyText_C : Ctr := ⟨79, impl_KeyText_arg, impl_KeyText_res, fun x => impl_KeyText x.1.1.1 x.1.1.2.1 x.1.1.2.2.1 x.1.1.2.2.2.1 x.1.1.2.2.2.2.1 x.1.1.2.2.2.2.2.1 x.1.1.2.2.2.2.2.2.1 x.1.1.2.2.2.2.2.2.2.1 x.1.1.2.2.2.2.2.2.2.2.1 x.1.1.2.2.2.2.2.2.2.2.2.1 x.1.2.1, none⟩
def impl_KeyText_H : Hint := ⟨[88], [], [], fun _ => []⟩
noncomputable def impl_KeyText_T : List Ctr := [impl_MachineOk_C, impl_copyMachine_C, Clone_Matrix_C, impl_items_C, impl_fits_C, impl_key_C]
noncomputable def impl_KeyText_Ls : List Lp := [impl_KeyText_L0]
theorem impl_KeyText_l0 : ∀ x, impl_KeyText_s0 x = stepW E0 impl_KeyText_T impl_KeyText_Ls impl_KeyText_H (loopAt (bodyOf Tryz.f79) 0) 0 impl_KeyText_h0 [] [(.ret, []), (.exit 0, [])] impl_KeyText_r0 x := fun x => by kernel_rfl
theorem impl_KeyText_e : ∀ x, impl_KeyText_C.F x = runBodyW E0 impl_KeyText_T impl_KeyText_Ls impl_KeyText_H 79 Tryz.f79.results.toList (bodyOf Tryz.f79) [(.bx 4 1, 6000000, .i64), (.bx 4 2, 6000001, .i64), (.bx 4 3, 6000002, .mats), (.bx 4 8, 6000003, .mat), (.bx 4 9, 6000004, .mat)] (impl_KeyText_arg.mk' x) impl_KeyText_res := fun x => by kernel_rfl
theorem impl_KeyText_ok : impl_KeyText_C.Ok E0 := fn_ok (T := impl_KeyText_T) (h := impl_KeyText_H) (Ls := impl_KeyText_Ls) E0_mixed (T_cons impl_MachineOk_ok (T_cons impl_copyMachine_ok (T_cons Clone_Matrix_ok (T_cons impl_items_ok (T_cons impl_fits_ok (T_cons impl_key_ok T_nil)))))) Tryz.func79 (bodyOf_some (by kernel_rfl)) (by kernel_rfl) (loops_of (ks := [0]) (by kernel_rfl) ⟨(loop_one (h := impl_KeyText_H) (own := []) (head := impl_KeyText_h0) (back := []) (exs := [(.ret, []), (.exit 0, [])]) (res := impl_KeyText_r0) (step := impl_KeyText_s0) (by kernel_rfl) impl_KeyText_l0), trivial⟩) impl_KeyText_e
def impl_ItemsOf_arg : Sh := ⟨[(0, .agg [.str, .rd [] .i64, .rd [] .i64, .rd [] .mats, .int .i64, .int .i64, .int .i64, .int .i64, .rd [] .mat, .rd [] .mat])], [], []⟩
def impl_ItemsOf_res : List Sh := [⟨[(0, .c (.own 0))], [], [(0, .i64)]⟩]
noncomputable def impl_ItemsOf (a0_0 : ByteArray) (a0_1 : List Int) (a0_2 : List Int) (a0_3 : List (List (Int × Int))) (a0_4 : Int) (a0_5 : Int) (a0_6 : Int) (a0_7 : Int) (a0_8 : List (Int × Int)) (a0_9 : List (Int × Int)) : Option ((Unit × Unit) × Unit × (List Int × Unit)) :=
 (impl_MachineOk a0_0 a0_1 a0_2 a0_3 a0_4 a0_5 a0_6 a0_7 a0_8 a0_9).bind fun r1 =>
 br (!r1.1.1)
 (some (((), ()), (), ([], ())))
 ((impl_items a0_0 a0_1 a0_2 a0_8).bind fun r2 =>
 some (((), ()), (), (r2.2.2.1, ())))
noncomputable def impl_ItemsOf_C : Ctr := ⟨117, impl_ItemsOf_arg, impl_ItemsOf_res, fun x => impl_ItemsOf x.1.1.1 x.1.1.2.1 x.1.1.2.2.1 x.1.1.2.2.2.1 x.1.1.2.2.2.2.1 x.1.1.2.2.2.2.2.1 x.1.1.2.2.2.2.2.2.1 x.1.1.2.2.2.2.2.2.2.1 x.1.1.2.2.2.2.2.2.2.2.1 x.1.1.2.2.2.2.2.2.2.2.2.1, none⟩
def impl_ItemsOf_H : Hint := ⟨[], [], [], fun _ => []⟩
noncomputable def impl_ItemsOf_T : List Ctr := [impl_MachineOk_C, impl_items_C]
noncomputable def impl_ItemsOf_Ls : List Lp := []
theorem impl_ItemsOf_e : ∀ x, impl_ItemsOf_C.F x = runBodyW E0 impl_ItemsOf_T impl_ItemsOf_Ls impl_ItemsOf_H 117 Tryz.f117.results.toList (bodyOf Tryz.f117) [(.tm 2, 6000000, .i64)] (impl_ItemsOf_arg.mk' x) impl_ItemsOf_res := fun x => by kernel_rfl
theorem impl_ItemsOf_ok : impl_ItemsOf_C.Ok E0 := fn_ok (T := impl_ItemsOf_T) (h := impl_ItemsOf_H) (Ls := impl_ItemsOf_Ls) E0_mixed (T_cons impl_MachineOk_ok (T_cons impl_items_ok T_nil)) Tryz.func117 (bodyOf_some (by kernel_rfl)) (by kernel_rfl) (loops_of (ks := []) (by kernel_rfl) trivial) impl_ItemsOf_e
def impl_IsFull_arg : Sh := ⟨[(0, .agg [.int .i64, .int .i64, .int .i64]), (1, .c (.rd [] .i64))], [], []⟩
def impl_IsFull_res : List Sh := [⟨[(0, .c (.bool))], [], []⟩]
noncomputable def impl_IsFull (a0_0 : Int) (a0_1 : Int) (a0_2 : Int) (a1 : List Int) : Option ((Bool × Unit) × Unit × Unit) :=
 (impl_lettersAndBands a1).bind fun r1 =>
 (impl_MeasureOk a0_0 a0_1 a0_2).bind fun r2 =>
 br r2.1.1
 ((impl_LineOk a1).bind fun r3 =>
 br r3.1.1
 ((impl_full a0_0 a0_1 a0_2 r1.1.1 r1.1.2.1).bind fun r4 =>
 some ((r4.1.1, ()), (), ()))
 (some ((false, ()), (), ())))
 (some ((false, ()), (), ()))
noncomputable def impl_IsFull_C : Ctr := ⟨116, impl_IsFull_arg, impl_IsFull_res, fun x => impl_IsFull x.1.1.1 x.1.1.2.1 x.1.1.2.2.1 x.1.2.1, none⟩
def impl_IsFull_H : Hint := ⟨[], [], [], fun _ => []⟩
noncomputable def impl_IsFull_T : List Ctr := [impl_lettersAndBands_C, impl_MeasureOk_C, impl_LineOk_C, impl_full_C]
noncomputable def impl_IsFull_Ls : List Lp := []
theorem impl_IsFull_e : ∀ x, impl_IsFull_C.F x = runBodyW E0 impl_IsFull_T impl_IsFull_Ls impl_IsFull_H 116 Tryz.f116.results.toList (bodyOf Tryz.f116) [] (impl_IsFull_arg.mk' x) impl_IsFull_res := fun x => by kernel_rfl
theorem impl_IsFull_ok : impl_IsFull_C.Ok E0 := fn_ok (T := impl_IsFull_T) (h := impl_IsFull_H) (Ls := impl_IsFull_Ls) E0_mixed (T_cons impl_lettersAndBands_ok (T_cons impl_MeasureOk_ok (T_cons impl_LineOk_ok (T_cons impl_full_ok T_nil)))) Tryz.func116 (bodyOf_some (by kernel_rfl)) (by kernel_rfl) (loops_of (ks := []) (by kernel_rfl) trivial) impl_IsFull_e
def impl_LineText_arg : Sh := ⟨[(0, .agg [.str, .rd [] .i64, .rd [] .i64, .rd [] .mats, .int .i64, .int .i64, .int .i64, .int .i64, .rd [] .mat, .rd [] .mat])], [], []⟩
def impl_LineText_res : List Sh := [⟨[(0, .c (.str))], [], []⟩]
noncomputable def impl_LineText_s0 (x : (Unit × Unit × List (Int × Int) × Int × Int × Unit) × ((ByteArray × List Int × List Int × List (List (Int × Int)) × Int × Int × Int × Int × List (Int × Int) × List (Int × Int) × Unit) × Unit) × (List Int × Unit)) : Option (((Unit × Unit × List (Int × Int) × Int × Int × Unit) × ((ByteArray × List Int × List Int × List (List (Int × Int)) × Int × Int × Int × Int × List (Int × Int) × List (Int × Int) × Unit) × Unit) × (List Int × Unit)) ⊕ ((Unit × Unit) × Unit × (List Int × Unit))) :=
 let x2 : Bool := decide (x.1.2.2.2.2.1 < x.1.2.2.2.1);
 br x2
 (ck (0 ≤ x.1.2.2.2.2.1)
 (ck (x.1.2.2.2.2.1.toNat < x.1.2.2.1.length)
 (let x3 : Int × Int := x.1.2.2.1.getD x.1.2.2.2.2.1.toNat (0, 0);
 (impl_isBand x3.1 x3.2).bind fun r4 =>
 br r4.1.1
 (ck ((x.2.2.1.length + [(32 : Int)].length) * 1 ≤ 140737488355328 ∧ (x.2.2.1.length + [(32 : Int)].length) ≤ 9223372036854775807)
 (let x5 : List Int := x.2.2.1 ++ [(32 : Int)];
 let x6 : Int := w64 (x.1.2.2.2.2.1 + (1 : Int));
 some (.inl (((), (), x.1.2.2.1, x.1.2.2.2.1, x6, ()), ((x.2.1.1.1, x.2.1.1.2.1, x.2.1.1.2.2.1, x.2.1.1.2.2.2.1, x.2.1.1.2.2.2.2.1, x.2.1.1.2.2.2.2.2.1, x.2.1.1.2.2.2.2.2.2.1, x.2.1.1.2.2.2.2.2.2.2.1, x.2.1.1.2.2.2.2.2.2.2.2.1, x.2.1.1.2.2.2.2.2.2.2.2.2.1, ()), ()), (x5, ())))))
 (ck (0 ≤ x3.1 ∧ x3.1.toNat < x.2.1.1.1.size)
 (let x7 : Int := byteAt x.2.1.1.1 x3.1.toNat;
 ck ((x.2.2.1.length + [x7].length) * 1 ≤ 140737488355328 ∧ (x.2.2.1.length + [x7].length) ≤ 9223372036854775807)
 (let x8 : List Int := x.2.2.1 ++ [x7];
 let x9 : Int := w64 (x.1.2.2.2.2.1 + (1 : Int));
 some (.inl (((), (), x.1.2.2.1, x.1.2.2.2.1, x9, ()), ((x.2.1.1.1, x.2.1.1.2.1, x.2.1.1.2.2.1, x.2.1.1.2.2.2.1, x.2.1.1.2.2.2.2.1, x.2.1.1.2.2.2.2.2.1, x.2.1.1.2.2.2.2.2.2.1, x.2.1.1.2.2.2.2.2.2.2.1, x.2.1.1.2.2.2.2.2.2.2.2.1, x.2.1.1.2.2.2.2.2.2.2.2.2.1, ()), ()), (x8, ())))))))))
 (some (.inr (((), ()), (), (x.2.2.1, ()))))
def impl_LineText_h0 : Sh := ⟨[(1, .c (.box 0 0)), (3, .c (.own 0)), (11, .c (.rd [] .mat)), (12, .c (.int .i64)), (13, .c (.int .i64))], [(0, .cells [.str, .rd [] .i64, .rd [] .i64, .rd [] .mats, .int .i64, .int .i64, .int .i64, .int .i64, .rd [] .mat, .rd [] .mat])], [(0, .u8)]⟩
def impl_LineText_r0 : List Sh := [⟨[(3, .c (.own 0))], [], [(0, .u8)]⟩]
noncomputable def impl_LineText_L0 : Lp := ⟨0, [], impl_LineText_h0, [], [(.exit 0, [])], impl_LineText_r0, loopC impl_LineText_s0⟩
noncomputable def impl_LineText (a0_0 : ByteArray) (a0_1 : List Int) (a0_2 : List Int) (a0_3 : List (List (Int × Int))) (a0_4 : Int) (a0_5 : Int) (a0_6 : Int) (a0_7 : Int) (a0_8 : List (Int × Int)) (a0_9 : List (Int × Int)) : Option ((ByteArray × Unit) × Unit × Unit) :=
 (impl_MachineOk a0_0 a0_1 a0_2 a0_3 a0_4 a0_5 a0_6 a0_7 a0_8 a0_9).bind fun r1 =>
 br (!r1.1.1)
 (some ((ByteArray.empty, ()), (), ()))
 ((loopC impl_LineText_s0 (((), (), a0_8, (a0_8.length : Int), (0 : Int), ()), ((a0_0, a0_1, a0_2, a0_3, a0_4, a0_5, a0_6, a0_7, a0_8, a0_9, ()), ()), ([], ()))).bind fun r10 =>
 let x11 : ByteArray := ofBytes r10.2.2.1;
 some ((x11, ()), (), ()))
noncomputable def impl_LineText_C : Ctr := ⟨118, impl_LineText_arg, impl_LineText_res, fun x => impl_LineText x.1.1.1 x.1.1.2.1 x.1.1.2.2.1 x.1.1.2.2.2.1 x.1.1.2.2.2.2.1 x.1.1.2.2.2.2.2.1 x.1.1.2.2.2.2.2.2.1 x.1.1.2.2.2.2.2.2.2.1 x.1.1.2.2.2.2.2.2.2.2.1 x.1.1.2.2.2.2.2.2.2.2.2.1, none⟩
def impl_LineText_H : Hint := ⟨[], [], [], fun _ => []⟩
noncomputable def impl_LineText_T : List Ctr := [impl_MachineOk_C, impl_isBand_C]
noncomputable def impl_LineText_Ls : List Lp := [impl_LineText_L0]
theorem impl_LineText_l0 : ∀ x, impl_LineText_s0 x = stepW E0 impl_LineText_T impl_LineText_Ls impl_LineText_H (loopAt (bodyOf Tryz.f118) 0) 0 impl_LineText_h0 [] [(.exit 0, [])] impl_LineText_r0 x := fun x => by kernel_rfl
theorem impl_LineText_e : ∀ x, impl_LineText_C.F x = runBodyW E0 impl_LineText_T impl_LineText_Ls impl_LineText_H 118 Tryz.f118.results.toList (bodyOf Tryz.f118) [] (impl_LineText_arg.mk' x) impl_LineText_res := fun x => by kernel_rfl
theorem impl_LineText_ok : impl_LineText_C.Ok E0 := fn_ok (T := impl_LineText_T) (h := impl_LineText_H) (Ls := impl_LineText_Ls) E0_mixed (T_cons impl_MachineOk_ok (T_cons impl_isBand_ok T_nil)) Tryz.func118 (bodyOf_some (by kernel_rfl)) (by kernel_rfl) (loops_of (ks := [0]) (by kernel_rfl) ⟨(loop_one (h := impl_LineText_H) (own := []) (head := impl_LineText_h0) (back := []) (exs := [(.exit 0, [])]) (res := impl_LineText_r0) (step := impl_LineText_s0) (by kernel_rfl) impl_LineText_l0), trivial⟩) impl_LineText_e
def impl_BandWidths_arg : Sh := ⟨[(0, .agg [.int .i64, .int .i64, .int .i64]), (1, .c (.rd [] .i64))], [], []⟩
def impl_BandWidths_res : List Sh := [⟨[(0, .c (.own 0))], [], [(0, .i64)]⟩]
noncomputable def impl_BandWidths_s0 (x : (Unit × Int × Int × Unit × List Int × Int × Int × Unit) × ((Int × Int × Int × Unit) × Unit) × (List Int × Unit)) : Option (((Unit × Int × Int × Unit × List Int × Int × Int × Unit) × ((Int × Int × Int × Unit) × Unit) × (List Int × Unit)) ⊕ ((Unit × Unit) × Unit × (List Int × Unit))) :=
 let x3 : Bool := decide (x.1.2.2.2.2.2.2.1 < x.1.2.2.2.2.2.1);
 br x3
 (ck (0 ≤ x.1.2.2.2.2.2.2.1)
 (ck (x.1.2.2.2.2.2.2.1.toNat < x.1.2.2.2.2.1.length)
 (let x4 : Int := x.1.2.2.2.2.1.getD x.1.2.2.2.2.2.2.1.toNat 0;
 let x5 : Bool := decide (x4 > (0 : Int));
 br x5
 (let x6 : Int := w64 (x.1.2.2.2.2.2.2.1 + (1 : Int));
 some (.inl (((), x.1.2.1, x.1.2.2.1, (), x.1.2.2.2.2.1, x.1.2.2.2.2.2.1, x6, ()), ((x.2.1.1.1, x.2.1.1.2.1, x.2.1.1.2.2.1, ()), ()), (x.2.2.1, ()))))
 (let x7 : Int := w64 (x.2.1.1.2.1 + x.1.2.1);
 let x8 : Bool := decide ((x.2.2.1.length : Int) < x.1.2.2.1);
 br x8
 (let x9 : Int := w64 (x7 + (1 : Int));
 ck ((x.2.2.1.length + [x9].length) * 8 ≤ 140737488355328 ∧ (x.2.2.1.length + [x9].length) ≤ 9223372036854775807)
 (let x10 : List Int := x.2.2.1 ++ [x9];
 let x11 : Int := w64 (x.1.2.2.2.2.2.2.1 + (1 : Int));
 some (.inl (((), x.1.2.1, x.1.2.2.1, (), x.1.2.2.2.2.1, x.1.2.2.2.2.2.1, x11, ()), ((x.2.1.1.1, x.2.1.1.2.1, x.2.1.1.2.2.1, ()), ()), (x10, ())))))
 (ck ((x.2.2.1.length + [x7].length) * 8 ≤ 140737488355328 ∧ (x.2.2.1.length + [x7].length) ≤ 9223372036854775807)
 (let x12 : List Int := x.2.2.1 ++ [x7];
 let x13 : Int := w64 (x.1.2.2.2.2.2.2.1 + (1 : Int));
 some (.inl (((), x.1.2.1, x.1.2.2.1, (), x.1.2.2.2.2.1, x.1.2.2.2.2.2.1, x13, ()), ((x.2.1.1.1, x.2.1.1.2.1, x.2.1.1.2.2.1, ()), ()), (x12, ())))))))))
 (some (.inr (((), ()), (), (x.2.2.1, ()))))
def impl_BandWidths_h0 : Sh := ⟨[(2, .c (.box 0 0)), (5, .c (.int .i64)), (8, .c (.int .i64)), (9, .c (.own 0)), (27, .c (.rd [] .i64)), (28, .c (.int .i64)), (29, .c (.int .i64))], [(0, .cells [.int .i64, .int .i64, .int .i64])], [(0, .i64)]⟩
def impl_BandWidths_r0 : List Sh := [⟨[(9, .c (.own 0))], [], [(0, .i64)]⟩]
noncomputable def impl_BandWidths_L0 : Lp := ⟨0, [], impl_BandWidths_h0, [], [(.exit 0, [])], impl_BandWidths_r0, loopC impl_BandWidths_s0⟩
noncomputable def impl_BandWidths (a0_0 : Int) (a0_1 : Int) (a0_2 : Int) (a1 : List Int) : Option ((Unit × Unit) × Unit × (List Int × Unit)) :=
 (impl_SpreadLine a0_0 a0_1 a0_2 a1).bind fun r1 =>
 br (!r1.1.2.2.1)
 (some (((), ()), (), ([], ())))
 ((impl_IsFull a0_0 a0_1 a0_2 a1).bind fun r2 =>
 br r2.1.1
 ((loopC impl_BandWidths_s0 (((), r1.1.1, r1.1.2.1, (), a1, (a1.length : Int), (0 : Int), ()), ((a0_0, a0_1, a0_2, ()), ()), ([], ()))).bind fun r14 =>
 some (((), ()), (), (r14.2.2.1, ())))
 ((loopC impl_BandWidths_s0 (((), r1.1.1, (0 : Int), (), a1, (a1.length : Int), (0 : Int), ()), ((a0_0, a0_1, a0_2, ()), ()), ([], ()))).bind fun r15 =>
 some (((), ()), (), (r15.2.2.1, ()))))
noncomputable def impl_BandWidths_C : Ctr := ⟨142, impl_BandWidths_arg, impl_BandWidths_res, fun x => impl_BandWidths x.1.1.1 x.1.1.2.1 x.1.1.2.2.1 x.1.2.1, none⟩
def impl_BandWidths_H : Hint := ⟨[], [], [], fun _ => []⟩
noncomputable def impl_BandWidths_T : List Ctr := [impl_SpreadLine_C, impl_IsFull_C]
noncomputable def impl_BandWidths_Ls : List Lp := [impl_BandWidths_L0]
theorem impl_BandWidths_l0 : ∀ x, impl_BandWidths_s0 x = stepW E0 impl_BandWidths_T impl_BandWidths_Ls impl_BandWidths_H (loopAt (bodyOf Tryz.f142) 0) 0 impl_BandWidths_h0 [] [(.exit 0, [])] impl_BandWidths_r0 x := fun x => by kernel_rfl
theorem impl_BandWidths_e : ∀ x, impl_BandWidths_C.F x = runBodyW E0 impl_BandWidths_T impl_BandWidths_Ls impl_BandWidths_H 142 Tryz.f142.results.toList (bodyOf Tryz.f142) [(.tm 4, 6000000, .i64)] (impl_BandWidths_arg.mk' x) impl_BandWidths_res := fun x => by kernel_rfl
theorem impl_BandWidths_ok : impl_BandWidths_C.Ok E0 := fn_ok (T := impl_BandWidths_T) (h := impl_BandWidths_H) (Ls := impl_BandWidths_Ls) E0_mixed (T_cons impl_SpreadLine_ok (T_cons impl_IsFull_ok T_nil)) Tryz.func142 (bodyOf_some (by kernel_rfl)) (by kernel_rfl) (loops_of (ks := [0]) (by kernel_rfl) ⟨(loop_one (h := impl_BandWidths_H) (own := []) (head := impl_BandWidths_h0) (back := []) (exs := [(.exit 0, [])]) (res := impl_BandWidths_r0) (step := impl_BandWidths_s0) (by kernel_rfl) impl_BandWidths_l0), trivial⟩) impl_BandWidths_e
def impl_PlacesOf_arg : Sh := ⟨[(0, .agg [.int .i64, .int .i64, .int .i64]), (1, .c (.rd [] .i64))], [], []⟩
def impl_PlacesOf_res : List Sh := [⟨[(0, .c (.own 0))], [], [(0, .i64)]⟩]
noncomputable def impl_PlacesOf_s0 (x : (List Int × Unit × Int × List Int × Int × Int × Unit) × Unit × (List Int × List Int × Unit)) : Option (((List Int × Unit × Int × List Int × Int × Int × Unit) × Unit × (List Int × List Int × Unit)) ⊕ ((Unit × Unit) × Unit × (List Int × Unit))) :=
 let x3 : Bool := decide (x.1.2.2.2.2.2.1 < x.1.2.2.2.2.1);
 br x3
 (ck (0 ≤ x.1.2.2.2.2.2.1)
 (ck (x.1.2.2.2.2.2.1.toNat < x.1.2.2.2.1.length)
 (let x4 : Int := x.1.2.2.2.1.getD x.1.2.2.2.2.2.1.toNat 0;
 ck ((x.2.2.2.1.length + [x.1.2.2.1].length) * 8 ≤ 140737488355328 ∧ (x.2.2.2.1.length + [x.1.2.2.1].length) ≤ 9223372036854775807)
 (let x5 : List Int := x.2.2.2.1 ++ [x.1.2.2.1];
 let x6 : Bool := x4 == (0 : Int);
 br x6
 (ck (0 < x.1.1.length)
 (let x7 : Int := x.1.1.getD 0 0;
 ck (1 ≤ x.1.1.length ∧ x.1.1.length ≤ x.1.1.length)
 (let x8 : List Int := cut x.1.1 1 x.1.1.length;
 let x9 : Int := w64 (x.1.2.2.1 + x7);
 let x10 : Int := w64 (x.1.2.2.2.2.2.1 + (1 : Int));
 some (.inl ((x8, (), x9, x.1.2.2.2.1, x.1.2.2.2.2.1, x10, ()), (), (x.2.2.1, x5, ()))))))
 (let x11 : Int := w64 (x.1.2.2.1 + x4);
 let x12 : Int := w64 (x.1.2.2.2.2.2.1 + (1 : Int));
 some (.inl ((x.1.1, (), x11, x.1.2.2.2.1, x.1.2.2.2.2.1, x12, ()), (), (x.2.2.1, x5, ()))))))))
 (some (.inr (((), ()), (), (x.2.2.2.1, ()))))
def impl_PlacesOf_h0 : Sh := ⟨[(5, .c (.rd [0] .i64)), (6, .c (.own 1)), (7, .c (.int .i64)), (18, .c (.rd [] .i64)), (19, .c (.int .i64)), (20, .c (.int .i64))], [], [(0, .i64), (1, .i64)]⟩
def impl_PlacesOf_r0 : List Sh := [⟨[(6, .c (.own 0))], [], [(0, .i64)]⟩]
noncomputable def impl_PlacesOf_L0 : Lp := ⟨0, [], impl_PlacesOf_h0, [], [(.exit 0, [])], impl_PlacesOf_r0, loopC impl_PlacesOf_s0⟩
noncomputable def impl_PlacesOf (a0_0 : Int) (a0_1 : Int) (a0_2 : Int) (a1 : List Int) : Option ((Unit × Unit) × Unit × (List Int × Unit)) :=
 (impl_fits a0_0 a0_1 a0_2 a1).bind fun r1 =>
 br (!r1.1.1)
 (some (((), ()), (), ([], ())))
 ((impl_BandWidths a0_0 a0_1 a0_2 a1).bind fun r2 =>
 (loopC impl_PlacesOf_s0 ((r2.2.2.1, (), (0 : Int), a1, (a1.length : Int), (0 : Int), ()), (), (r2.2.2.1, [], ()))).bind fun r13 =>
 some (((), ()), (), (r13.2.2.1, ())))
noncomputable def impl_PlacesOf_C : Ctr := ⟨119, impl_PlacesOf_arg, impl_PlacesOf_res, fun x => impl_PlacesOf x.1.1.1 x.1.1.2.1 x.1.1.2.2.1 x.1.2.1, none⟩
def impl_PlacesOf_H : Hint := ⟨[], [], [], fun _ => []⟩
noncomputable def impl_PlacesOf_T : List Ctr := [impl_fits_C, impl_BandWidths_C]
noncomputable def impl_PlacesOf_Ls : List Lp := [impl_PlacesOf_L0]
theorem impl_PlacesOf_l0 : ∀ x, impl_PlacesOf_s0 x = stepW E0 impl_PlacesOf_T impl_PlacesOf_Ls impl_PlacesOf_H (loopAt (bodyOf Tryz.f119) 0) 0 impl_PlacesOf_h0 [] [(.exit 0, [])] impl_PlacesOf_r0 x := fun x => by kernel_rfl
theorem impl_PlacesOf_e : ∀ x, impl_PlacesOf_C.F x = runBodyW E0 impl_PlacesOf_T impl_PlacesOf_Ls impl_PlacesOf_H 119 Tryz.f119.results.toList (bodyOf Tryz.f119) [(.tm 4, 6000000, .i64)] (impl_PlacesOf_arg.mk' x) impl_PlacesOf_res := fun x => by kernel_rfl
theorem impl_PlacesOf_ok : impl_PlacesOf_C.Ok E0 := fn_ok (T := impl_PlacesOf_T) (h := impl_PlacesOf_H) (Ls := impl_PlacesOf_Ls) E0_mixed (T_cons impl_fits_ok (T_cons impl_BandWidths_ok T_nil)) Tryz.func119 (bodyOf_some (by kernel_rfl)) (by kernel_rfl) (loops_of (ks := [0]) (by kernel_rfl) ⟨(loop_one (h := impl_PlacesOf_H) (own := []) (head := impl_PlacesOf_h0) (back := []) (exs := [(.exit 0, [])]) (res := impl_PlacesOf_r0) (step := impl_PlacesOf_s0) (by kernel_rfl) impl_PlacesOf_l0), trivial⟩) impl_PlacesOf_e
def impl_CastLine_arg : Sh := ⟨[(0, .agg [.str, .rd [] .i64, .rd [] .i64, .rd [] .mats, .int .i64, .int .i64, .int .i64, .int .i64, .rd [] .mat, .rd [] .mat]), (1, .c (.bool))], [], []⟩
def impl_CastLine_res : List Sh := [⟨[(0, .agg [.str, .own 0, .own 1, .own 2, .int .i64, .int .i64, .int .i64, .int .i64, .nil, .own 3]), (1, .c (.str)), (2, .c (.own 4)), (3, .c (.bool))], [], [(0, .i64), (1, .i64), (2, .mats), (3, .mat), (4, .i64)]⟩]
noncomputable def impl_CastLine_s0 (x : (Unit × Unit × ByteArray × Unit × Unit × Int × Int × Unit) × ((ByteArray × Unit × Unit × Unit × Int × Int × Int × Int × Unit × Unit × Unit) × (ByteArray × Unit × Unit × Unit × Int × Int × Int × Int × Unit × Unit × Unit) × Unit) × (List Int × List (Int × Int) × List Int × List Int × List (List (Int × Int)) × List (Int × Int) × Unit)) : Option (((Unit × Unit × ByteArray × Unit × Unit × Int × Int × Unit) × ((ByteArray × Unit × Unit × Unit × Int × Int × Int × Int × Unit × Unit × Unit) × (ByteArray × Unit × Unit × Unit × Int × Int × Int × Int × Unit × Unit × Unit) × Unit) × (List Int × List (Int × Int) × List Int × List Int × List (List (Int × Int)) × List (Int × Int) × Unit)) ⊕ ((Unit × Unit × ByteArray × Unit × Unit) × ((ByteArray × Unit × Unit × Unit × Int × Int × Int × Int × Unit × Unit × Unit) × (ByteArray × Unit × Unit × Unit × Int × Int × Int × Int × Unit × Unit × Unit) × Unit) × (List Int × List Int × List Int × List (List (Int × Int)) × List (Int × Int) × List (Int × Int) × Unit))) :=
 let x9 : Bool := decide (x.1.2.2.2.2.2.2.1 < x.1.2.2.2.2.2.1);
 br x9
 (ck (0 ≤ x.1.2.2.2.2.2.2.1)
 (ck (x.1.2.2.2.2.2.2.1.toNat < x.2.2.2.1.length)
 (ck (x.1.2.2.2.2.2.2.1.toNat < x.2.2.2.1.length)
 (let x10 : Int := (x.2.2.2.1.getD x.1.2.2.2.2.2.2.1.toNat (0, 0)).1;
 let x11 : Int := (x.2.2.2.1.getD x.1.2.2.2.2.2.2.1.toNat (0, 0)).2;
 (impl_isBand x10 x11).bind fun r12 =>
 br r12.1.1
 (let x13 : Int := w64 (x.2.1.1.2.2.2.2.1 + (1 : Int));
 let x14 : Int := w64 (x.1.2.2.2.2.2.2.1 + (1 : Int));
 some (.inl (((), (), x.1.2.2.1, (), (), x.1.2.2.2.2.2.1, x14, ()), ((x.2.1.1.1, (), (), (), x13, x.2.1.1.2.2.2.2.2.1, x.2.1.1.2.2.2.2.2.2.1, x.2.1.1.2.2.2.2.2.2.2.1, (), (), ()), (x.2.1.2.1.1, (), (), (), x.2.1.2.1.2.2.2.2.1, x.2.1.2.1.2.2.2.2.2.1, x.2.1.2.1.2.2.2.2.2.2.1, x.2.1.2.1.2.2.2.2.2.2.2.1, (), (), ()), ()), (x.2.2.1, x.2.2.2.1, x.2.2.2.2.1, x.2.2.2.2.2.1, x.2.2.2.2.2.2.1, x.2.2.2.2.2.2.2.1, ()))))
 (ck ((x.2.2.2.2.2.2.2.1.length + [(x10, x11)].length) * 16 ≤ 140737488355328 ∧ (x.2.2.2.2.2.2.2.1.length + [(x10, x11)].length) ≤ 9223372036854775807)
 (let x15 : List (Int × Int) := x.2.2.2.2.2.2.2.1 ++ [(x10, x11)];
 let x16 : Int := w64 (x.1.2.2.2.2.2.2.1 + (1 : Int));
 some (.inl (((), (), x.1.2.2.1, (), (), x.1.2.2.2.2.2.1, x16, ()), ((x.2.1.1.1, (), (), (), x.2.1.1.2.2.2.2.1, x.2.1.1.2.2.2.2.2.1, x.2.1.1.2.2.2.2.2.2.1, x.2.1.1.2.2.2.2.2.2.2.1, (), (), ()), (x.2.1.2.1.1, (), (), (), x.2.1.2.1.2.2.2.2.1, x.2.1.2.1.2.2.2.2.2.1, x.2.1.2.1.2.2.2.2.2.2.1, x.2.1.2.1.2.2.2.2.2.2.2.1, (), (), ()), ()), (x.2.2.1, x.2.2.2.1, x.2.2.2.2.1, x.2.2.2.2.2.1, x.2.2.2.2.2.2.1, x15, ())))))))))
 (some (.inr (((), (), x.1.2.2.1, (), ()), ((x.2.1.1.1, (), (), (), x.2.1.1.2.2.2.2.1, x.2.1.1.2.2.2.2.2.1, x.2.1.1.2.2.2.2.2.2.1, x.2.1.1.2.2.2.2.2.2.2.1, (), (), ()), (x.2.1.2.1.1, (), (), (), x.2.1.2.1.2.2.2.2.1, x.2.1.2.1.2.2.2.2.2.1, x.2.1.2.1.2.2.2.2.2.2.1, x.2.1.2.1.2.2.2.2.2.2.2.1, (), (), ()), ()), (x.2.2.1, x.2.2.2.2.1, x.2.2.2.2.2.1, x.2.2.2.2.2.2.1, x.2.2.2.1, x.2.2.2.2.2.2.2.1, ()))))
def impl_CastLine_h0 : Sh := ⟨[(2, .c (.box 0 0)), (4, .c (.box 1 0)), (8, .c (.str)), (9, .c (.own 0)), (44, .c (.own 1)), (45, .c (.int .i64)), (46, .c (.int .i64))], [(0, .cells [.str, .own 2, .own 3, .own 4, .int .i64, .int .i64, .int .i64, .int .i64, .own 1, .own 5]), (1, .cells [.str, .nil, .nil, .nil, .int .i64, .int .i64, .int .i64, .int .i64, .nil, .nil])], [(0, .i64), (1, .mat), (2, .i64), (3, .i64), (4, .mats), (5, .mat)]⟩
def impl_CastLine_r0 : List Sh := [⟨[(2, .c (.box 0 0)), (4, .c (.box 1 0)), (8, .c (.str)), (9, .c (.own 0))], [(0, .cells [.str, .own 1, .own 2, .own 3, .int .i64, .int .i64, .int .i64, .int .i64, .own 4, .own 5]), (1, .cells [.str, .nil, .nil, .nil, .int .i64, .int .i64, .int .i64, .int .i64, .nil, .nil])], [(0, .i64), (1, .i64), (2, .i64), (3, .mats), (4, .mat), (5, .mat)]⟩]
noncomputable def impl_CastLine_L0 : Lp := ⟨0, [], impl_CastLine_h0, [], [(.exit 0, [])], impl_CastLine_r0, loopC impl_CastLine_s0⟩
noncomputable def impl_CastLine (a0_0 : ByteArray) (a0_1 : List Int) (a0_2 : List Int) (a0_3 : List (List (Int × Int))) (a0_4 : Int) (a0_5 : Int) (a0_6 : Int) (a0_7 : Int) (a0_8 : List (Int × Int)) (a0_9 : List (Int × Int)) (a1 : Bool) : Option (((ByteArray × Unit × Unit × Unit × Int × Int × Int × Int × Unit × Unit × Unit) × ByteArray × Unit × Bool × Unit) × Unit × (List Int × List Int × List (List (Int × Int)) × List (Int × Int) × List Int × Unit)) :=
 (impl_MachineOk a0_0 a0_1 a0_2 a0_3 a0_4 a0_5 a0_6 a0_7 a0_8 a0_9).bind fun r1 =>
 br (!r1.1.1)
 (some (((ByteArray.empty, (), (), (), (0 : Int), (0 : Int), (0 : Int), (0 : Int), (), (), ()), ByteArray.empty, (), false, ()), (), ([], [], [], [], [], ())))
 (let x2 : Bool := (a0_8.length : Int) == (0 : Int);
 br x2
 (some (((ByteArray.empty, (), (), (), (0 : Int), (0 : Int), (0 : Int), (0 : Int), (), (), ()), ByteArray.empty, (), false, ()), (), ([], [], [], [], [], ())))
 (br (!a1)
 ((impl_ItemsOf a0_0 a0_1 a0_2 a0_3 a0_4 a0_5 a0_6 a0_7 a0_8 a0_9).bind fun r3 =>
 (impl_IsFull a0_5 a0_6 a0_7 r3.2.2.1).bind fun r4 =>
 br (!r4.1.1)
 (some (((ByteArray.empty, (), (), (), (0 : Int), (0 : Int), (0 : Int), (0 : Int), (), (), ()), ByteArray.empty, (), false, ()), (), ([], [], [], [], [], ())))
 ((impl_LineText a0_0 a0_1 a0_2 a0_3 a0_4 a0_5 a0_6 a0_7 a0_8 a0_9).bind fun r5 =>
 (impl_ItemsOf a0_0 a0_1 a0_2 a0_3 a0_4 a0_5 a0_6 a0_7 a0_8 a0_9).bind fun r6 =>
 (impl_PlacesOf a0_5 a0_6 a0_7 r6.2.2.1).bind fun r7 =>
 (impl_copyMachine a0_0 a0_1 a0_2 a0_3 a0_4 a0_5 a0_6 a0_7 a0_8 a0_9).bind fun r8 =>
 (loopC impl_CastLine_s0 (((), (), r5.1.1, (), (), (r8.2.2.2.2.2.1.length : Int), (0 : Int), ()), ((r8.1.1.1, (), (), (), r8.1.1.2.2.2.2.1, r8.1.1.2.2.2.2.2.1, r8.1.1.2.2.2.2.2.2.1, r8.1.1.2.2.2.2.2.2.2.1, (), (), ()), (ByteArray.empty, (), (), (), (0 : Int), (0 : Int), (0 : Int), (0 : Int), (), (), ()), ()), (r7.2.2.1, r8.2.2.2.2.2.1, r8.2.2.1, r8.2.2.2.1, r8.2.2.2.2.1, r8.2.2.2.2.2.2.1, ()))).bind fun r17 =>
 (impl_MachineOk r17.2.1.1.1 r17.2.2.2.1 r17.2.2.2.2.1 r17.2.2.2.2.2.1 r17.2.1.1.2.2.2.2.1 r17.2.1.1.2.2.2.2.2.1 r17.2.1.1.2.2.2.2.2.2.1 r17.2.1.1.2.2.2.2.2.2.2.1 [] r17.2.2.2.2.2.2.2.1).bind fun r18 =>
 br (!r18.1.1)
 (some (((ByteArray.empty, (), (), (), (0 : Int), (0 : Int), (0 : Int), (0 : Int), (), (), ()), ByteArray.empty, (), false, ()), (), ([], [], [], [], [], ())))
 (some (((r17.2.1.1.1, (), (), (), r17.2.1.1.2.2.2.2.1, r17.2.1.1.2.2.2.2.2.1, r17.2.1.1.2.2.2.2.2.2.1, r17.2.1.1.2.2.2.2.2.2.2.1, (), (), ()), r17.1.2.2.1, (), true, ()), (), (r17.2.2.2.1, r17.2.2.2.2.1, r17.2.2.2.2.2.1, r17.2.2.2.2.2.2.2.1, r17.2.2.1, ())))))
 ((impl_LineText a0_0 a0_1 a0_2 a0_3 a0_4 a0_5 a0_6 a0_7 a0_8 a0_9).bind fun r19 =>
 (impl_ItemsOf a0_0 a0_1 a0_2 a0_3 a0_4 a0_5 a0_6 a0_7 a0_8 a0_9).bind fun r20 =>
 (impl_PlacesOf a0_5 a0_6 a0_7 r20.2.2.1).bind fun r21 =>
 (impl_copyMachine a0_0 a0_1 a0_2 a0_3 a0_4 a0_5 a0_6 a0_7 a0_8 a0_9).bind fun r22 =>
 (loopC impl_CastLine_s0 (((), (), r19.1.1, (), (), (r22.2.2.2.2.2.1.length : Int), (0 : Int), ()), ((r22.1.1.1, (), (), (), r22.1.1.2.2.2.2.1, r22.1.1.2.2.2.2.2.1, r22.1.1.2.2.2.2.2.2.1, r22.1.1.2.2.2.2.2.2.2.1, (), (), ()), (ByteArray.empty, (), (), (), (0 : Int), (0 : Int), (0 : Int), (0 : Int), (), (), ()), ()), (r21.2.2.1, r22.2.2.2.2.2.1, r22.2.2.1, r22.2.2.2.1, r22.2.2.2.2.1, r22.2.2.2.2.2.2.1, ()))).bind fun r23 =>
 (impl_MachineOk r23.2.1.1.1 r23.2.2.2.1 r23.2.2.2.2.1 r23.2.2.2.2.2.1 r23.2.1.1.2.2.2.2.1 r23.2.1.1.2.2.2.2.2.1 r23.2.1.1.2.2.2.2.2.2.1 r23.2.1.1.2.2.2.2.2.2.2.1 [] r23.2.2.2.2.2.2.2.1).bind fun r24 =>
 br (!r24.1.1)
 (some (((ByteArray.empty, (), (), (), (0 : Int), (0 : Int), (0 : Int), (0 : Int), (), (), ()), ByteArray.empty, (), false, ()), (), ([], [], [], [], [], ())))
 (some (((r23.2.1.1.1, (), (), (), r23.2.1.1.2.2.2.2.1, r23.2.1.1.2.2.2.2.2.1, r23.2.1.1.2.2.2.2.2.2.1, r23.2.1.1.2.2.2.2.2.2.2.1, (), (), ()), r23.1.2.2.1, (), true, ()), (), (r23.2.2.2.1, r23.2.2.2.2.1, r23.2.2.2.2.2.1, r23.2.2.2.2.2.2.2.1, r23.2.2.1, ()))))))
noncomputable def impl_CastLine_C : Ctr := ⟨80, impl_CastLine_arg, impl_CastLine_res, fun x => impl_CastLine x.1.1.1 x.1.1.2.1 x.1.1.2.2.1 x.1.1.2.2.2.1 x.1.1.2.2.2.2.1 x.1.1.2.2.2.2.2.1 x.1.1.2.2.2.2.2.2.1 x.1.1.2.2.2.2.2.2.2.1 x.1.1.2.2.2.2.2.2.2.2.1 x.1.1.2.2.2.2.2.2.2.2.2.1 x.1.2.1, none⟩
def impl_CastLine_H : Hint := ⟨[], [], [], fun _ => []⟩
noncomputable def impl_CastLine_T : List Ctr := [impl_MachineOk_C, impl_ItemsOf_C, impl_IsFull_C, impl_LineText_C, impl_PlacesOf_C, impl_copyMachine_C, impl_isBand_C]
noncomputable def impl_CastLine_Ls : List Lp := [impl_CastLine_L0]
theorem impl_CastLine_l0 : ∀ x, impl_CastLine_s0 x = stepW E0 impl_CastLine_T impl_CastLine_Ls impl_CastLine_H (loopAt (bodyOf Tryz.f80) 0) 0 impl_CastLine_h0 [] [(.exit 0, [])] impl_CastLine_r0 x := fun x => by kernel_rfl
theorem impl_CastLine_e : ∀ x, impl_CastLine_C.F x = runBodyW E0 impl_CastLine_T impl_CastLine_Ls impl_CastLine_H 80 Tryz.f80.results.toList (bodyOf Tryz.f80) [(.bx 4 1, 6000000, .i64), (.bx 4 2, 6000001, .i64), (.bx 4 3, 6000002, .mats), (.bx 4 9, 6000003, .mat), (.tm 6, 6000004, .i64)] (impl_CastLine_arg.mk' x) impl_CastLine_res := fun x => by kernel_rfl
theorem impl_CastLine_ok : impl_CastLine_C.Ok E0 := fn_ok (T := impl_CastLine_T) (h := impl_CastLine_H) (Ls := impl_CastLine_Ls) E0_mixed (T_cons impl_MachineOk_ok (T_cons impl_ItemsOf_ok (T_cons impl_IsFull_ok (T_cons impl_LineText_ok (T_cons impl_PlacesOf_ok (T_cons impl_copyMachine_ok (T_cons impl_isBand_ok T_nil))))))) Tryz.func80 (bodyOf_some (by kernel_rfl)) (by kernel_rfl) (loops_of (ks := [0]) (by kernel_rfl) ⟨(loop_one (h := impl_CastLine_H) (own := []) (head := impl_CastLine_h0) (back := []) (exs := [(.exit 0, [])]) (res := impl_CastLine_r0) (step := impl_CastLine_s0) (by kernel_rfl) impl_CastLine_l0), trivial⟩) impl_CastLine_e
def impl_DropMatrix_arg : Sh := ⟨[(0, .agg [.str, .rd [] .i64, .rd [] .i64]), (1, .c (.rd [] .mats)), (2, .agg [.int .i64, .int .i64])], [], []⟩
def impl_DropMatrix_res : List Sh := [⟨[(0, .c (.own 0)), (1, .c (.int .i64)), (2, .c (.bool))], [], [(0, .mats)]⟩]
noncomputable def impl_DropMatrix (a0_0 : ByteArray) (a0_1 : List Int) (a0_2 : List Int) (a1 : List (List (Int × Int))) (a2_0 : Int) (a2_1 : Int) : Option ((Unit × Int × Bool × Unit) × Unit × (List (List (Int × Int)) × Unit)) :=
 (impl_MagazineOk a0_0 a0_1 a0_2 a1).bind fun r1 =>
 br (!r1.1.1)
 (some (((), (0 : Int), false, ()), (), ([], ())))
 ((impl_ofFont a0_0 a0_1 a0_2 a2_0 a2_1).bind fun r2 =>
 br (!r2.1.1)
 (some (((), (0 : Int), false, ()), (), ([], ())))
 ((impl_fall a0_2 a2_1).bind fun r3 =>
 ck (0 ≤ r3.1.1)
 (ck (r3.1.1.toNat < a1.length)
 (let x4 : List (Int × Int) := a1.getD r3.1.1.toNat [];
 let x5 : Bool := (x4.length : Int) == (20 : Int);
 br x5
 (some (((), (0 : Int), false, ()), (), ([], ())))
 ((impl_copyMagazine a1).bind fun r6 =>
 ck (0 ≤ r3.1.1)
 (ck (r3.1.1.toNat < r6.2.2.1.length)
 (ck (r3.1.1.toNat < r6.2.2.1.length)
 (ck (r3.1.1.toNat < r6.2.2.1.length)
 (ck (r3.1.1.toNat < r6.2.2.1.length)
 (let x7 : List (Int × Int) := r6.2.2.1.getD r3.1.1.toNat [];
 ck ((x7.length + [(a2_0, a2_1)].length) * 16 ≤ 140737488355328 ∧ (x7.length + [(a2_0, a2_1)].length) ≤ 9223372036854775807)
 (let x8 : List (Int × Int) := x7 ++ [(a2_0, a2_1)];
 ck (0 ≤ r3.1.1)
 (ck (r3.1.1.toNat < r6.2.2.1.length)
 (ck (r3.1.1.toNat = r3.1.1.toNat ∧ r3.1.1.toNat < r6.2.2.1.length)
 (let x9 : List (List (Int × Int)) := r6.2.2.1.set r3.1.1.toNat x8;
 some (((), r3.1.1, true, ()), (), (x9, ()))))))))))))))))
noncomputable def impl_DropMatrix_C : Ctr := ⟨120, impl_DropMatrix_arg, impl_DropMatrix_res, fun x => impl_DropMatrix x.1.1.1 x.1.1.2.1 x.1.1.2.2.1 x.1.2.1 x.1.2.2.1.1 x.1.2.2.1.2.1, none⟩
def impl_DropMatrix_H : Hint := ⟨[], [], [], fun _ => []⟩
noncomputable def impl_DropMatrix_T : List Ctr := [impl_MagazineOk_C, impl_ofFont_C, impl_fall_C, impl_copyMagazine_C]
noncomputable def impl_DropMatrix_Ls : List Lp := []
theorem impl_DropMatrix_e : ∀ x, impl_DropMatrix_C.F x = runBodyW E0 impl_DropMatrix_T impl_DropMatrix_Ls impl_DropMatrix_H 120 Tryz.f120.results.toList (bodyOf Tryz.f120) [(.tm 6, 6000000, .mats)] (impl_DropMatrix_arg.mk' x) impl_DropMatrix_res := fun x => by kernel_rfl
theorem impl_DropMatrix_ok : impl_DropMatrix_C.Ok E0 := fn_ok (T := impl_DropMatrix_T) (h := impl_DropMatrix_H) (Ls := impl_DropMatrix_Ls) E0_mixed (T_cons impl_MagazineOk_ok (T_cons impl_ofFont_ok (T_cons impl_fall_ok (T_cons impl_copyMagazine_ok T_nil)))) Tryz.func120 (bodyOf_some (by kernel_rfl)) (by kernel_rfl) (loops_of (ks := []) (by kernel_rfl) trivial) impl_DropMatrix_e
def impl_DropWaiting_arg : Sh := ⟨[(0, .agg [.str, .rd [] .i64, .rd [] .i64, .rd [] .mats, .int .i64, .int .i64, .int .i64, .int .i64, .rd [] .mat, .rd [] .mat]), (1, .c (.int .i64))], [], []⟩
def impl_DropWaiting_res : List Sh := [⟨[(0, .agg [.str, .own 0, .own 1, .own 2, .int .i64, .int .i64, .int .i64, .int .i64, .own 3, .own 4]), (1, .c (.int .i64))], [], [(0, .i64), (1, .i64), (2, .mats), (3, .mat), (4, .mat)]⟩]
noncomputable def impl_DropWaiting_s0 (x : (Int × Unit × Unit × Int × Unit) × ((ByteArray × Unit × Unit × Unit × Int × Int × Int × Int × Unit × Unit × Unit) × (ByteArray × Unit × Unit × Unit × Int × Int × Int × Int × Unit × Unit × Unit) × Unit) × (List Int × List Int × List (List (Int × Int)) × List (Int × Int) × List (Int × Int) × Unit)) : Option (((Int × Unit × Unit × Int × Unit) × ((ByteArray × Unit × Unit × Unit × Int × Int × Int × Int × Unit × Unit × Unit) × (ByteArray × Unit × Unit × Unit × Int × Int × Int × Int × Unit × Unit × Unit) × Unit) × (List Int × List Int × List (List (Int × Int)) × List (Int × Int) × List (Int × Int) × Unit)) ⊕ ((Unit × Unit × Int × Unit) × ((ByteArray × Unit × Unit × Unit × Int × Int × Int × Int × Unit × Unit × Unit) × (ByteArray × Unit × Unit × Unit × Int × Int × Int × Int × Unit × Unit × Unit) × Unit) × (List Int × List Int × List (List (Int × Int)) × List (Int × Int) × List (Int × Int) × Unit))) :=
 let x4 : Bool := decide (x.1.2.2.2.1 < x.1.1);
 br x4
 (let x5 : Bool := decide ((x.2.2.2.2.2.2.1.length : Int) > (0 : Int));
 br x5
 (ck (0 < x.2.2.2.2.2.2.1.length)
 (ck (0 < x.2.2.2.2.2.2.1.length)
 (let x6 : Int := (x.2.2.2.2.2.2.1.getD 0 (0, 0)).1;
 let x7 : Int := (x.2.2.2.2.2.2.1.getD 0 (0, 0)).2;
 (impl_DropMatrix x.2.1.1.1 x.2.2.1 x.2.2.2.1 x.2.2.2.2.1 x6 x7).bind fun r8 =>
 br (!r8.1.2.2.1)
 (some (.inr (((), (), x.1.2.2.2.1, ()), ((x.2.1.1.1, (), (), (), x.2.1.1.2.2.2.2.1, x.2.1.1.2.2.2.2.2.1, x.2.1.1.2.2.2.2.2.2.1, x.2.1.1.2.2.2.2.2.2.2.1, (), (), ()), (x.2.1.2.1.1, (), (), (), x.2.1.2.1.2.2.2.2.1, x.2.1.2.1.2.2.2.2.2.1, x.2.1.2.1.2.2.2.2.2.2.1, x.2.1.2.1.2.2.2.2.2.2.2.1, (), (), ()), ()), (x.2.2.1, x.2.2.2.1, x.2.2.2.2.1, x.2.2.2.2.2.1, x.2.2.2.2.2.2.1, ()))))
 (ck (1 ≤ x.2.2.2.2.2.2.1.length ∧ x.2.2.2.2.2.2.1.length ≤ x.2.2.2.2.2.2.1.length)
 (let x9 : List (Int × Int) := cut x.2.2.2.2.2.2.1 1 x.2.2.2.2.2.2.1.length;
 let x10 : Int := w64 (x.1.2.2.2.1 + (1 : Int));
 some (.inl ((x.1.1, (), (), x10, ()), ((x.2.1.1.1, (), (), (), x.2.1.1.2.2.2.2.1, x.2.1.1.2.2.2.2.2.1, x.2.1.1.2.2.2.2.2.2.1, x.2.1.1.2.2.2.2.2.2.2.1, (), (), ()), (x.2.1.2.1.1, (), (), (), x.2.1.2.1.2.2.2.2.1, x.2.1.2.1.2.2.2.2.2.1, x.2.1.2.1.2.2.2.2.2.2.1, x.2.1.2.1.2.2.2.2.2.2.2.1, (), (), ()), ()), (x.2.2.1, x.2.2.2.1, r8.2.2.1, x.2.2.2.2.2.1, x9, ()))))))))
 (some (.inr (((), (), x.1.2.2.2.1, ()), ((x.2.1.1.1, (), (), (), x.2.1.1.2.2.2.2.1, x.2.1.1.2.2.2.2.2.1, x.2.1.1.2.2.2.2.2.2.1, x.2.1.1.2.2.2.2.2.2.2.1, (), (), ()), (x.2.1.2.1.1, (), (), (), x.2.1.2.1.2.2.2.2.1, x.2.1.2.1.2.2.2.2.2.1, x.2.1.2.1.2.2.2.2.2.2.1, x.2.1.2.1.2.2.2.2.2.2.2.1, (), (), ()), ()), (x.2.2.1, x.2.2.2.1, x.2.2.2.2.1, x.2.2.2.2.2.1, x.2.2.2.2.2.2.1, ())))))
 (some (.inr (((), (), x.1.2.2.2.1, ()), ((x.2.1.1.1, (), (), (), x.2.1.1.2.2.2.2.1, x.2.1.1.2.2.2.2.2.1, x.2.1.1.2.2.2.2.2.2.1, x.2.1.1.2.2.2.2.2.2.2.1, (), (), ()), (x.2.1.2.1.1, (), (), (), x.2.1.2.1.2.2.2.2.1, x.2.1.2.1.2.2.2.2.2.1, x.2.1.2.1.2.2.2.2.2.2.1, x.2.1.2.1.2.2.2.2.2.2.2.1, (), (), ()), ()), (x.2.2.1, x.2.2.2.1, x.2.2.2.2.1, x.2.2.2.2.2.1, x.2.2.2.2.2.2.1, ()))))
def impl_DropWaiting_h0 : Sh := ⟨[(1, .c (.int .i64)), (2, .c (.box 0 0)), (4, .c (.box 1 0)), (6, .c (.int .i64))], [(0, .cells [.str, .own 0, .own 1, .own 2, .int .i64, .int .i64, .int .i64, .int .i64, .own 3, .own 4]), (1, .cells [.str, .nil, .nil, .nil, .int .i64, .int .i64, .int .i64, .int .i64, .nil, .nil])], [(0, .i64), (1, .i64), (2, .mats), (3, .mat), (4, .mat)]⟩
def impl_DropWaiting_r0 : List Sh := [⟨[(2, .c (.box 0 0)), (4, .c (.box 1 0)), (6, .c (.int .i64))], [(0, .cells [.str, .own 0, .own 1, .own 2, .int .i64, .int .i64, .int .i64, .int .i64, .own 3, .own 4]), (1, .cells [.str, .nil, .nil, .nil, .int .i64, .int .i64, .int .i64, .int .i64, .nil, .nil])], [(0, .i64), (1, .i64), (2, .mats), (3, .mat), (4, .mat)]⟩]
noncomputable def impl_DropWaiting_L0 : Lp := ⟨0, [], impl_DropWaiting_h0, [], [(.exit 0, [])], impl_DropWaiting_r0, loopC impl_DropWaiting_s0⟩
noncomputable def impl_DropWaiting (a0_0 : ByteArray) (a0_1 : List Int) (a0_2 : List Int) (a0_3 : List (List (Int × Int))) (a0_4 : Int) (a0_5 : Int) (a0_6 : Int) (a0_7 : Int) (a0_8 : List (Int × Int)) (a0_9 : List (Int × Int)) (a1 : Int) : Option (((ByteArray × Unit × Unit × Unit × Int × Int × Int × Int × Unit × Unit × Unit) × Int × Unit) × Unit × (List Int × List Int × List (List (Int × Int)) × List (Int × Int) × List (Int × Int) × Unit)) :=
 (impl_MachineOk a0_0 a0_1 a0_2 a0_3 a0_4 a0_5 a0_6 a0_7 a0_8 a0_9).bind fun r1 =>
 br (!r1.1.1)
 (some (((ByteArray.empty, (), (), (), (0 : Int), (0 : Int), (0 : Int), (0 : Int), (), (), ()), (-1 : Int), ()), (), ([], [], [], [], [], ())))
 (let x2 : Bool := decide (a1 < (0 : Int));
 br x2
 (some (((ByteArray.empty, (), (), (), (0 : Int), (0 : Int), (0 : Int), (0 : Int), (), (), ()), (-1 : Int), ()), (), ([], [], [], [], [], ())))
 ((impl_copyMachine a0_0 a0_1 a0_2 a0_3 a0_4 a0_5 a0_6 a0_7 a0_8 a0_9).bind fun r3 =>
 (loopC impl_DropWaiting_s0 ((a1, (), (), (0 : Int), ()), ((r3.1.1.1, (), (), (), r3.1.1.2.2.2.2.1, r3.1.1.2.2.2.2.2.1, r3.1.1.2.2.2.2.2.2.1, r3.1.1.2.2.2.2.2.2.2.1, (), (), ()), (ByteArray.empty, (), (), (), (0 : Int), (0 : Int), (0 : Int), (0 : Int), (), (), ()), ()), (r3.2.2.1, r3.2.2.2.1, r3.2.2.2.2.1, r3.2.2.2.2.2.1, r3.2.2.2.2.2.2.1, ()))).bind fun r11 =>
 some (((r11.2.1.1.1, (), (), (), r11.2.1.1.2.2.2.2.1, r11.2.1.1.2.2.2.2.2.1, r11.2.1.1.2.2.2.2.2.2.1, r11.2.1.1.2.2.2.2.2.2.2.1, (), (), ()), r11.1.2.2.1, ()), (), (r11.2.2.1, r11.2.2.2.1, r11.2.2.2.2.1, r11.2.2.2.2.2.1, r11.2.2.2.2.2.2.1, ()))))
noncomputable def impl_DropWaiting_C : Ctr := ⟨81, impl_DropWaiting_arg, impl_DropWaiting_res, fun x => impl_DropWaiting x.1.1.1 x.1.1.2.1 x.1.1.2.2.1 x.1.1.2.2.2.1 x.1.1.2.2.2.2.1 x.1.1.2.2.2.2.2.1 x.1.1.2.2.2.2.2.2.1 x.1.1.2.2.2.2.2.2.2.1 x.1.1.2.2.2.2.2.2.2.2.1 x.1.1.2.2.2.2.2.2.2.2.2.1 x.1.2.1, none⟩
def impl_DropWaiting_H : Hint := ⟨[47], [], [], fun _ => []⟩
noncomputable def impl_DropWaiting_T : List Ctr := [impl_MachineOk_C, impl_copyMachine_C, impl_DropMatrix_C]
noncomputable def impl_DropWaiting_Ls : List Lp := [impl_DropWaiting_L0]
theorem impl_DropWaiting_l0 : ∀ x, impl_DropWaiting_s0 x = stepW E0 impl_DropWaiting_T impl_DropWaiting_Ls impl_DropWaiting_H (loopAt (bodyOf Tryz.f81) 0) 0 impl_DropWaiting_h0 [] [(.exit 0, [])] impl_DropWaiting_r0 x := fun x => by kernel_rfl
theorem impl_DropWaiting_e : ∀ x, impl_DropWaiting_C.F x = runBodyW E0 impl_DropWaiting_T impl_DropWaiting_Ls impl_DropWaiting_H 81 Tryz.f81.results.toList (bodyOf Tryz.f81) [(.bx 4 1, 6000000, .i64), (.bx 4 2, 6000001, .i64), (.bx 4 3, 6000002, .mats), (.bx 4 8, 6000003, .mat), (.bx 4 9, 6000004, .mat)] (impl_DropWaiting_arg.mk' x) impl_DropWaiting_res := fun x => by kernel_rfl
theorem impl_DropWaiting_ok : impl_DropWaiting_C.Ok E0 := fn_ok (T := impl_DropWaiting_T) (h := impl_DropWaiting_H) (Ls := impl_DropWaiting_Ls) E0_mixed (T_cons impl_MachineOk_ok (T_cons impl_copyMachine_ok (T_cons impl_DropMatrix_ok T_nil))) Tryz.func81 (bodyOf_some (by kernel_rfl)) (by kernel_rfl) (loops_of (ks := [0]) (by kernel_rfl) ⟨(loop_one (h := impl_DropWaiting_H) (own := []) (head := impl_DropWaiting_h0) (back := []) (exs := [(.exit 0, [])]) (res := impl_DropWaiting_r0) (step := impl_DropWaiting_s0) (by kernel_rfl) impl_DropWaiting_l0), trivial⟩) impl_DropWaiting_e
def impl_SetLines_arg : Sh := ⟨[(0, .agg [.str, .rd [] .i64, .rd [] .i64, .rd [] .mats, .int .i64, .int .i64, .int .i64, .int .i64, .rd [] .mat, .rd [] .mat]), (1, .c (.rd [] .str))], [], []⟩
def impl_SetLines_res : List Sh := [⟨[(0, .agg [.str, .own 0, .own 1, .own 2, .int .i64, .int .i64, .int .i64, .int .i64, .own 3, .own 4]), (1, .c (.own 5)), (2, .c (.bool))], [], [(0, .i64), (1, .i64), (2, .mats), (3, .mat), (4, .mat), (5, .str)]⟩]
noncomputable def impl_SetLines_s0 (x : (Unit × Unit × Unit × List ByteArray × Int × Int × Unit) × ((ByteArray × Unit × Unit × Unit × Int × Int × Int × Int × Unit × Unit × Unit) × (ByteArray × Unit × Unit × Unit × Int × Int × Int × Int × Unit × Unit × Unit) × Unit) × (List ByteArray × List Int × List Int × List (List (Int × Int)) × List (Int × Int) × List (Int × Int) × Unit)) : Option (((Unit × Unit × Unit × List ByteArray × Int × Int × Unit) × ((ByteArray × Unit × Unit × Unit × Int × Int × Int × Int × Unit × Unit × Unit) × (ByteArray × Unit × Unit × Unit × Int × Int × Int × Int × Unit × Unit × Unit) × Unit) × (List ByteArray × List Int × List Int × List (List (Int × Int)) × List (Int × Int) × List (Int × Int) × Unit)) ⊕ (((Unit × Unit × Bool × Unit) × ((ByteArray × Unit × Unit × Unit × Int × Int × Int × Int × Unit × Unit × Unit) × Unit) × Unit) ⊕ ((Unit × Unit × Unit × Unit) × ((ByteArray × Unit × Unit × Unit × Int × Int × Int × Int × Unit × Unit × Unit) × (ByteArray × Unit × Unit × Unit × Int × Int × Int × Int × Unit × Unit × Unit) × Unit) × (List ByteArray × List Int × List Int × List (List (Int × Int)) × List (Int × Int) × List (Int × Int) × Unit)))) :=
 let x3 : Bool := decide (x.1.2.2.2.2.2.1 < x.1.2.2.2.2.1);
 br x3
 (ck (0 ≤ x.1.2.2.2.2.2.1)
 (ck (x.1.2.2.2.2.2.1.toNat < x.1.2.2.2.1.length)
 (let x4 : ByteArray := x.1.2.2.2.1.getD x.1.2.2.2.2.2.1.toNat ByteArray.empty;
 (impl_KeyText x.2.1.1.1 x.2.2.2.1 x.2.2.2.2.1 x.2.2.2.2.2.1 x.2.1.1.2.2.2.2.1 x.2.1.1.2.2.2.2.2.1 x.2.1.1.2.2.2.2.2.2.1 x.2.1.1.2.2.2.2.2.2.2.1 x.2.2.2.2.2.2.1 x.2.2.2.2.2.2.2.1 x4).bind fun r5 =>
 let x6 : Bool := r5.1.2.1 != (x4.size : Int);
 br x6
 (some (.inr (.inl (((), (), false, ()), ((ByteArray.empty, (), (), (), (0 : Int), (0 : Int), (0 : Int), (0 : Int), (), (), ()), ()), ()))))
 ((impl_CastLine r5.1.1.1 r5.2.2.1 r5.2.2.2.1 r5.2.2.2.2.1 r5.1.1.2.2.2.2.1 r5.1.1.2.2.2.2.2.1 r5.1.1.2.2.2.2.2.2.1 r5.1.1.2.2.2.2.2.2.2.1 r5.2.2.2.2.2.1 r5.2.2.2.2.2.2.1 true).bind fun r7 =>
 br (!r7.1.2.2.2.1)
 (some (.inr (.inl (((), (), false, ()), ((ByteArray.empty, (), (), (), (0 : Int), (0 : Int), (0 : Int), (0 : Int), (), (), ()), ()), ()))))
 (ck ((x.2.2.1.length + [r7.1.2.1].length) * 16 ≤ 140737488355328 ∧ (x.2.2.1.length + [r7.1.2.1].length) ≤ 9223372036854775807)
 (let x8 : List ByteArray := x.2.2.1 ++ [r7.1.2.1];
 (impl_DropWaiting r7.1.1.1 r7.2.2.1 r7.2.2.2.1 r7.2.2.2.2.1 r7.1.1.2.2.2.2.1 r7.1.1.2.2.2.2.2.1 r7.1.1.2.2.2.2.2.2.1 r7.1.1.2.2.2.2.2.2.2.1 [] r7.2.2.2.2.2.1 (240 : Int)).bind fun r9 =>
 let x10 : Int := w64 (x.1.2.2.2.2.2.1 + (1 : Int));
 some (.inl (((), (), (), x.1.2.2.2.1, x.1.2.2.2.2.1, x10, ()), ((r9.1.1.1, (), (), (), r9.1.1.2.2.2.2.1, r9.1.1.2.2.2.2.2.1, r9.1.1.2.2.2.2.2.2.1, r9.1.1.2.2.2.2.2.2.2.1, (), (), ()), (x.2.1.2.1.1, (), (), (), x.2.1.2.1.2.2.2.2.1, x.2.1.2.1.2.2.2.2.2.1, x.2.1.2.1.2.2.2.2.2.2.1, x.2.1.2.1.2.2.2.2.2.2.2.1, (), (), ()), ()), (x8, r9.2.2.1, r9.2.2.2.1, r9.2.2.2.2.1, r9.2.2.2.2.2.1, r9.2.2.2.2.2.2.1, ())))))))))
 (some (.inr (.inr (((), (), (), ()), ((x.2.1.1.1, (), (), (), x.2.1.1.2.2.2.2.1, x.2.1.1.2.2.2.2.2.1, x.2.1.1.2.2.2.2.2.2.1, x.2.1.1.2.2.2.2.2.2.2.1, (), (), ()), (x.2.1.2.1.1, (), (), (), x.2.1.2.1.2.2.2.2.1, x.2.1.2.1.2.2.2.2.2.1, x.2.1.2.1.2.2.2.2.2.2.1, x.2.1.2.1.2.2.2.2.2.2.2.1, (), (), ()), ()), (x.2.2.1, x.2.2.2.1, x.2.2.2.2.1, x.2.2.2.2.2.1, x.2.2.2.2.2.2.1, x.2.2.2.2.2.2.2.1, ())))))
def impl_SetLines_h0 : Sh := ⟨[(2, .c (.box 0 0)), (4, .c (.box 1 0)), (7, .c (.own 0)), (20, .c (.rd [] .str)), (21, .c (.int .i64)), (22, .c (.int .i64))], [(0, .cells [.str, .own 1, .own 2, .own 3, .int .i64, .int .i64, .int .i64, .int .i64, .own 4, .own 5]), (1, .cells [.str, .nil, .nil, .nil, .int .i64, .int .i64, .int .i64, .int .i64, .nil, .nil])], [(0, .str), (1, .i64), (2, .i64), (3, .mats), (4, .mat), (5, .mat)]⟩
def impl_SetLines_r0 : List Sh := [⟨[(4, .c (.box 0 0)), (5, .c (.nil)), (6, .c (.bool))], [(0, .cells [.str, .nil, .nil, .nil, .int .i64, .int .i64, .int .i64, .int .i64, .nil, .nil])], []⟩, ⟨[(2, .c (.box 0 0)), (4, .c (.box 1 0)), (7, .c (.own 0))], [(0, .cells [.str, .own 1, .own 2, .own 3, .int .i64, .int .i64, .int .i64, .int .i64, .own 4, .own 5]), (1, .cells [.str, .nil, .nil, .nil, .int .i64, .int .i64, .int .i64, .int .i64, .nil, .nil])], [(0, .str), (1, .i64), (2, .i64), (3, .mats), (4, .mat), (5, .mat)]⟩]
noncomputable def impl_SetLines_L0 : Lp := ⟨0, [], impl_SetLines_h0, [], [(.ret, []), (.exit 0, [])], impl_SetLines_r0, loopC impl_SetLines_s0⟩
noncomputable def impl_SetLines (a0_0 : ByteArray) (a0_1 : List Int) (a0_2 : List Int) (a0_3 : List (List (Int × Int))) (a0_4 : Int) (a0_5 : Int) (a0_6 : Int) (a0_7 : Int) (a0_8 : List (Int × Int)) (a0_9 : List (Int × Int)) (a1 : List ByteArray) : Option (((ByteArray × Unit × Unit × Unit × Int × Int × Int × Int × Unit × Unit × Unit) × Unit × Bool × Unit) × Unit × (List Int × List Int × List (List (Int × Int)) × List (Int × Int) × List (Int × Int) × List ByteArray × Unit)) :=
 (impl_MachineOk a0_0 a0_1 a0_2 a0_3 a0_4 a0_5 a0_6 a0_7 a0_8 a0_9).bind fun r1 =>
 br (!r1.1.1)
 (some (((ByteArray.empty, (), (), (), (0 : Int), (0 : Int), (0 : Int), (0 : Int), (), (), ()), (), false, ()), (), ([], [], [], [], [], [], ())))
 ((impl_copyMachine a0_0 a0_1 a0_2 a0_3 a0_4 a0_5 a0_6 a0_7 a0_8 a0_9).bind fun r2 =>
 (loopC impl_SetLines_s0 (((), (), (), a1, (a1.length : Int), (0 : Int), ()), ((r2.1.1.1, (), (), (), r2.1.1.2.2.2.2.1, r2.1.1.2.2.2.2.2.1, r2.1.1.2.2.2.2.2.2.1, r2.1.1.2.2.2.2.2.2.2.1, (), (), ()), (ByteArray.empty, (), (), (), (0 : Int), (0 : Int), (0 : Int), (0 : Int), (), (), ()), ()), ([], r2.2.2.1, r2.2.2.2.1, r2.2.2.2.2.1, r2.2.2.2.2.2.1, r2.2.2.2.2.2.2.1, ()))).bind fun r11 =>
 sumK r11 (fun y14 =>
 some (((y14.2.1.1.1, (), (), (), y14.2.1.1.2.2.2.2.1, y14.2.1.1.2.2.2.2.2.1, y14.2.1.1.2.2.2.2.2.2.1, y14.2.1.1.2.2.2.2.2.2.2.1, (), (), ()), (), y14.1.2.2.1, ()), (), ([], [], [], [], [], [], ()))) (fun y15 =>
 some (((y15.2.1.1.1, (), (), (), y15.2.1.1.2.2.2.2.1, y15.2.1.1.2.2.2.2.2.1, y15.2.1.1.2.2.2.2.2.2.1, y15.2.1.1.2.2.2.2.2.2.2.1, (), (), ()), (), true, ()), (), (y15.2.2.2.1, y15.2.2.2.2.1, y15.2.2.2.2.2.1, y15.2.2.2.2.2.2.1, y15.2.2.2.2.2.2.2.1, y15.2.2.1, ()))))
noncomputable def impl_SetLines_C : Ctr := ⟨36, impl_SetLines_arg, impl_SetLines_res, fun x => impl_SetLines x.1.1.1 x.1.1.2.1 x.1.1.2.2.1 x.1.1.2.2.2.1 x.1.1.2.2.2.2.1 x.1.1.2.2.2.2.2.1 x.1.1.2.2.2.2.2.2.1 x.1.1.2.2.2.2.2.2.2.1 x.1.1.2.2.2.2.2.2.2.2.1 x.1.1.2.2.2.2.2.2.2.2.2.1 x.1.2.1, none⟩
def impl_SetLines_H : Hint := ⟨[], [], [], fun _ => []⟩
noncomputable def impl_SetLines_T : List Ctr := [impl_MachineOk_C, impl_copyMachine_C, impl_KeyText_C, impl_CastLine_C, impl_DropWaiting_C]
noncomputable def impl_SetLines_Ls : List Lp := [impl_SetLines_L0]
theorem impl_SetLines_l0 : ∀ x, impl_SetLines_s0 x = stepW E0 impl_SetLines_T impl_SetLines_Ls impl_SetLines_H (loopAt (bodyOf Tryz.f36) 0) 0 impl_SetLines_h0 [] [(.ret, []), (.exit 0, [])] impl_SetLines_r0 x := fun x => by kernel_rfl
theorem impl_SetLines_e : ∀ x, impl_SetLines_C.F x = runBodyW E0 impl_SetLines_T impl_SetLines_Ls impl_SetLines_H 36 Tryz.f36.results.toList (bodyOf Tryz.f36) [(.bx 4 1, 6000000, .i64), (.bx 4 2, 6000001, .i64), (.bx 4 3, 6000002, .mats), (.bx 4 8, 6000003, .mat), (.bx 4 9, 6000004, .mat), (.tm 5, 6000005, .str)] (impl_SetLines_arg.mk' x) impl_SetLines_res := fun x => by kernel_rfl
theorem impl_SetLines_ok : impl_SetLines_C.Ok E0 := fn_ok (T := impl_SetLines_T) (h := impl_SetLines_H) (Ls := impl_SetLines_Ls) E0_mixed (T_cons impl_MachineOk_ok (T_cons impl_copyMachine_ok (T_cons impl_KeyText_ok (T_cons impl_CastLine_ok (T_cons impl_DropWaiting_ok T_nil))))) Tryz.func36 (bodyOf_some (by kernel_rfl)) (by kernel_rfl) (loops_of (ks := [0]) (by kernel_rfl) ⟨(loop_one (h := impl_SetLines_H) (own := []) (head := impl_SetLines_h0) (back := []) (exs := [(.ret, []), (.exit 0, [])]) (res := impl_SetLines_r0) (step := impl_SetLines_s0) (by kernel_rfl) impl_SetLines_l0), trivial⟩) impl_SetLines_e
def impl_CastGalley_arg : Sh := ⟨[(0, .agg [.str, .rd [] .i64, .rd [] .i64, .rd [] .mats, .int .i64, .int .i64, .int .i64, .int .i64, .rd [] .mat, .rd [] .mat]), (1, .c (.rd [] .str))], [], []⟩
def impl_CastGalley_res : List Sh := [⟨[(0, .agg [.str, .own 0, .own 1, .own 2, .int .i64, .int .i64, .int .i64, .int .i64, .own 3, .own 4]), (1, .c (.own 5)), (2, .c (.bool))], [], [(0, .i64), (1, .i64), (2, .mats), (3, .mat), (4, .mat), (5, .i64)]⟩]
noncomputable def impl_CastGalley_s0 (x : (Unit × Unit × Unit × Unit × List ByteArray × Int × Int × Unit) × ((ByteArray × Unit × Unit × Unit × Int × Int × Int × Int × Unit × Unit × Unit) × (ByteArray × Unit × Unit × Unit × Int × Int × Int × Int × Unit × Unit × Unit) × Unit) × (List ByteArray × List Int × List Int × List Int × List (List (Int × Int)) × List (Int × Int) × List (Int × Int) × Unit)) : Option (((Unit × Unit × Unit × Unit × List ByteArray × Int × Int × Unit) × ((ByteArray × Unit × Unit × Unit × Int × Int × Int × Int × Unit × Unit × Unit) × (ByteArray × Unit × Unit × Unit × Int × Int × Int × Int × Unit × Unit × Unit) × Unit) × (List ByteArray × List Int × List Int × List Int × List (List (Int × Int)) × List (Int × Int) × List (Int × Int) × Unit)) ⊕ ((Unit × Unit × Unit × Unit) × ((ByteArray × Unit × Unit × Unit × Int × Int × Int × Int × Unit × Unit × Unit) × (ByteArray × Unit × Unit × Unit × Int × Int × Int × Int × Unit × Unit × Unit) × Unit) × (List Int × List Int × List Int × List (List (Int × Int)) × List (Int × Int) × List (Int × Int) × Unit))) :=
 let x5 : Bool := decide (x.1.2.2.2.2.2.2.1 < x.1.2.2.2.2.2.1);
 br x5
 (ck (0 ≤ x.1.2.2.2.2.2.2.1)
 (ck (x.1.2.2.2.2.2.2.1.toNat < x.1.2.2.2.2.1.length)
 (let x6 : ByteArray := x.1.2.2.2.2.1.getD x.1.2.2.2.2.2.2.1.toNat ByteArray.empty;
 ck (0 ≤ x.1.2.2.2.2.2.2.1)
 (ck (x.1.2.2.2.2.2.2.1.toNat < x.2.2.1.length)
 (ck (x.1.2.2.2.2.2.2.1.toNat < x.2.2.1.length)
 (let x7 : ByteArray := x.2.2.1.getD x.1.2.2.2.2.2.2.1.toNat ByteArray.empty;
 let x8 : Bool := !strEq x7 x6;
 br x8
 (ck ((x.2.2.2.1.length + [x.1.2.2.2.2.2.2.1].length) * 8 ≤ 140737488355328 ∧ (x.2.2.2.1.length + [x.1.2.2.2.2.2.2.1].length) ≤ 9223372036854775807)
 (let x9 : List Int := x.2.2.2.1 ++ [x.1.2.2.2.2.2.2.1];
 let x10 : Int := w64 (x.1.2.2.2.2.2.2.1 + (1 : Int));
 some (.inl (((), (), (), (), x.1.2.2.2.2.1, x.1.2.2.2.2.2.1, x10, ()), ((x.2.1.1.1, (), (), (), x.2.1.1.2.2.2.2.1, x.2.1.1.2.2.2.2.2.1, x.2.1.1.2.2.2.2.2.2.1, x.2.1.1.2.2.2.2.2.2.2.1, (), (), ()), (x.2.1.2.1.1, (), (), (), x.2.1.2.1.2.2.2.2.1, x.2.1.2.1.2.2.2.2.2.1, x.2.1.2.1.2.2.2.2.2.2.1, x.2.1.2.1.2.2.2.2.2.2.2.1, (), (), ()), ()), (x.2.2.1, x9, x.2.2.2.2.1, x.2.2.2.2.2.1, x.2.2.2.2.2.2.1, x.2.2.2.2.2.2.2.1, x.2.2.2.2.2.2.2.2.1, ())))))
 (let x11 : Int := w64 (x.1.2.2.2.2.2.2.1 + (1 : Int));
 some (.inl (((), (), (), (), x.1.2.2.2.2.1, x.1.2.2.2.2.2.1, x11, ()), ((x.2.1.1.1, (), (), (), x.2.1.1.2.2.2.2.1, x.2.1.1.2.2.2.2.2.1, x.2.1.1.2.2.2.2.2.2.1, x.2.1.1.2.2.2.2.2.2.2.1, (), (), ()), (x.2.1.2.1.1, (), (), (), x.2.1.2.1.2.2.2.2.1, x.2.1.2.1.2.2.2.2.2.1, x.2.1.2.1.2.2.2.2.2.2.1, x.2.1.2.1.2.2.2.2.2.2.2.1, (), (), ()), ()), (x.2.2.1, x.2.2.2.1, x.2.2.2.2.1, x.2.2.2.2.2.1, x.2.2.2.2.2.2.1, x.2.2.2.2.2.2.2.1, x.2.2.2.2.2.2.2.2.1, ()))))))))))
 (some (.inr (((), (), (), ()), ((x.2.1.1.1, (), (), (), x.2.1.1.2.2.2.2.1, x.2.1.1.2.2.2.2.2.1, x.2.1.1.2.2.2.2.2.2.1, x.2.1.1.2.2.2.2.2.2.2.1, (), (), ()), (x.2.1.2.1.1, (), (), (), x.2.1.2.1.2.2.2.2.1, x.2.1.2.1.2.2.2.2.2.1, x.2.1.2.1.2.2.2.2.2.2.1, x.2.1.2.1.2.2.2.2.2.2.2.1, (), (), ()), ()), (x.2.2.2.1, x.2.2.2.2.1, x.2.2.2.2.2.1, x.2.2.2.2.2.2.1, x.2.2.2.2.2.2.2.1, x.2.2.2.2.2.2.2.2.1, ()))))
def impl_CastGalley_h0 : Sh := ⟨[(4, .c (.box 0 0)), (7, .c (.box 1 0)), (8, .c (.own 0)), (10, .c (.own 1)), (43, .c (.rd [] .str)), (44, .c (.int .i64)), (45, .c (.int .i64))], [(0, .cells [.str, .nil, .nil, .nil, .int .i64, .int .i64, .int .i64, .int .i64, .nil, .nil]), (1, .cells [.str, .own 2, .own 3, .own 4, .int .i64, .int .i64, .int .i64, .int .i64, .own 5, .own 6])], [(0, .str), (1, .i64), (2, .i64), (3, .i64), (4, .mats), (5, .mat), (6, .mat)]⟩
def impl_CastGalley_r0 : List Sh := [⟨[(4, .c (.box 0 0)), (7, .c (.box 1 0)), (10, .c (.own 0))], [(0, .cells [.str, .nil, .nil, .nil, .int .i64, .int .i64, .int .i64, .int .i64, .nil, .nil]), (1, .cells [.str, .own 1, .own 2, .own 3, .int .i64, .int .i64, .int .i64, .int .i64, .own 4, .own 5])], [(0, .i64), (1, .i64), (2, .i64), (3, .mats), (4, .mat), (5, .mat)]⟩]
noncomputable def impl_CastGalley_L0 : Lp := ⟨0, [], impl_CastGalley_h0, [], [(.exit 0, [])], impl_CastGalley_r0, loopC impl_CastGalley_s0⟩
noncomputable def impl_CastGalley (a0_0 : ByteArray) (a0_1 : List Int) (a0_2 : List Int) (a0_3 : List (List (Int × Int))) (a0_4 : Int) (a0_5 : Int) (a0_6 : Int) (a0_7 : Int) (a0_8 : List (Int × Int)) (a0_9 : List (Int × Int)) (a1 : List ByteArray) : Option (((ByteArray × Unit × Unit × Unit × Int × Int × Int × Int × Unit × Unit × Unit) × Unit × Bool × Unit) × Unit × (List Int × List Int × List (List (Int × Int)) × List (Int × Int) × List (Int × Int) × List Int × Unit)) :=
 (impl_MachineOk a0_0 a0_1 a0_2 a0_3 a0_4 a0_5 a0_6 a0_7 a0_8 a0_9).bind fun r1 =>
 br (!r1.1.1)
 (some (((ByteArray.empty, (), (), (), (0 : Int), (0 : Int), (0 : Int), (0 : Int), (), (), ()), (), false, ()), (), ([], [], [], [], [], [], ())))
 (let x2 : Bool := decide ((a0_8.length : Int) > (0 : Int));
 br x2
 (some (((ByteArray.empty, (), (), (), (0 : Int), (0 : Int), (0 : Int), (0 : Int), (), (), ()), (), false, ()), (), ([], [], [], [], [], [], ())))
 ((impl_GalleyOk a0_0 a0_1 a0_2 a0_5 a0_6 a0_7 a1).bind fun r3 =>
 br (!r3.1.1)
 (some (((ByteArray.empty, (), (), (), (0 : Int), (0 : Int), (0 : Int), (0 : Int), (), (), ()), (), false, ()), (), ([], [], [], [], [], [], ())))
 ((impl_SetLines a0_0 a0_1 a0_2 a0_3 a0_4 a0_5 a0_6 a0_7 a0_8 a0_9 a1).bind fun r4 =>
 br (!r4.1.2.2.1)
 (some (((ByteArray.empty, (), (), (), (0 : Int), (0 : Int), (0 : Int), (0 : Int), (), (), ()), (), false, ()), (), ([], [], [], [], [], [], ())))
 ((loopC impl_CastGalley_s0 (((), (), (), (), a1, (a1.length : Int), (0 : Int), ()), ((ByteArray.empty, (), (), (), (0 : Int), (0 : Int), (0 : Int), (0 : Int), (), (), ()), (r4.1.1.1, (), (), (), r4.1.1.2.2.2.2.1, r4.1.1.2.2.2.2.2.1, r4.1.1.2.2.2.2.2.2.1, r4.1.1.2.2.2.2.2.2.2.1, (), (), ()), ()), (r4.2.2.2.2.2.2.2.1, [], r4.2.2.1, r4.2.2.2.1, r4.2.2.2.2.1, r4.2.2.2.2.2.1, r4.2.2.2.2.2.2.1, ()))).bind fun r12 =>
 some (((r12.2.1.2.1.1, (), (), (), r12.2.1.2.1.2.2.2.2.1, r12.2.1.2.1.2.2.2.2.2.1, r12.2.1.2.1.2.2.2.2.2.2.1, r12.2.1.2.1.2.2.2.2.2.2.2.1, (), (), ()), (), true, ()), (), (r12.2.2.2.1, r12.2.2.2.2.1, r12.2.2.2.2.2.1, r12.2.2.2.2.2.2.1, r12.2.2.2.2.2.2.2.1, r12.2.2.1, ()))))))
noncomputable def impl_CastGalley_C : Ctr := ⟨15, impl_CastGalley_arg, impl_CastGalley_res, fun x => impl_CastGalley x.1.1.1 x.1.1.2.1 x.1.1.2.2.1 x.1.1.2.2.2.1 x.1.1.2.2.2.2.1 x.1.1.2.2.2.2.2.1 x.1.1.2.2.2.2.2.2.1 x.1.1.2.2.2.2.2.2.2.1 x.1.1.2.2.2.2.2.2.2.2.1 x.1.1.2.2.2.2.2.2.2.2.2.1 x.1.2.1, none⟩
def impl_CastGalley_H : Hint := ⟨[], [], [], fun _ => []⟩
noncomputable def impl_CastGalley_T : List Ctr := [impl_MachineOk_C, impl_GalleyOk_C, impl_SetLines_C]
noncomputable def impl_CastGalley_Ls : List Lp := [impl_CastGalley_L0]
theorem impl_CastGalley_l0 : ∀ x, impl_CastGalley_s0 x = stepW E0 impl_CastGalley_T impl_CastGalley_Ls impl_CastGalley_H (loopAt (bodyOf Tryz.f15) 0) 0 impl_CastGalley_h0 [] [(.exit 0, [])] impl_CastGalley_r0 x := fun x => by kernel_rfl
theorem impl_CastGalley_e : ∀ x, impl_CastGalley_C.F x = runBodyW E0 impl_CastGalley_T impl_CastGalley_Ls impl_CastGalley_H 15 Tryz.f15.results.toList (bodyOf Tryz.f15) [(.bx 4 1, 6000000, .i64), (.bx 4 2, 6000001, .i64), (.bx 4 3, 6000002, .mats), (.bx 4 8, 6000003, .mat), (.bx 4 9, 6000004, .mat), (.tm 5, 6000005, .i64)] (impl_CastGalley_arg.mk' x) impl_CastGalley_res := fun x => by kernel_rfl
theorem impl_CastGalley_ok : impl_CastGalley_C.Ok E0 := fn_ok (T := impl_CastGalley_T) (h := impl_CastGalley_H) (Ls := impl_CastGalley_Ls) E0_mixed (T_cons impl_MachineOk_ok (T_cons impl_GalleyOk_ok (T_cons impl_SetLines_ok T_nil))) Tryz.func15 (bodyOf_some (by kernel_rfl)) (by kernel_rfl) (loops_of (ks := [0]) (by kernel_rfl) ⟨(loop_one (h := impl_CastGalley_H) (own := []) (head := impl_CastGalley_h0) (back := []) (exs := [(.exit 0, [])]) (res := impl_CastGalley_r0) (step := impl_CastGalley_s0) (by kernel_rfl) impl_CastGalley_l0), trivial⟩) impl_CastGalley_e
def laws_eqIntS_arg : Sh := ⟨[(0, .c (.rd [] .i64)), (1, .c (.rd [] .i64))], [], []⟩
def laws_eqIntS_res : List Sh := [⟨[(0, .c (.bool))], [], []⟩]
noncomputable def laws_eqIntS_s0 (x : (List Int × List Int × Int × Unit) × Unit × Unit) : Option (((List Int × List Int × Int × Unit) × Unit × Unit) ⊕ (((Bool × Unit) × Unit × Unit) ⊕ (Unit × Unit × Unit))) :=
 let x2 : Bool := decide (x.1.2.2.1 < (x.1.1.length : Int));
 br x2
 (ck (0 ≤ x.1.2.2.1)
 (ck (x.1.2.2.1.toNat < x.1.1.length)
 (let x3 : Int := x.1.1.getD x.1.2.2.1.toNat 0;
 ck (0 ≤ x.1.2.2.1)
 (ck (x.1.2.2.1.toNat < x.1.2.1.length)
 (let x4 : Int := x.1.2.1.getD x.1.2.2.1.toNat 0;
 let x5 : Bool := x3 != x4;
 br x5
 (some (.inr (.inl ((false, ()), (), ()))))
 (let x6 : Int := w64 (x.1.2.2.1 + (1 : Int));
 some (.inl ((x.1.1, x.1.2.1, x6, ()), (), ()))))))))
 (some (.inr (.inr ((), (), ()))))
def laws_eqIntS_h0 : Sh := ⟨[(0, .c (.rd [] .i64)), (1, .c (.rd [] .i64)), (5, .c (.int .i64))], [], []⟩
def laws_eqIntS_r0 : List Sh := [⟨[(4, .c (.bool))], [], []⟩, ⟨[], [], []⟩]
noncomputable def laws_eqIntS_L0 : Lp := ⟨0, [], laws_eqIntS_h0, [], [(.ret, []), (.exit 0, [])], laws_eqIntS_r0, loopC laws_eqIntS_s0⟩
noncomputable def laws_eqIntS (a0 : List Int) (a1 : List Int) : Option ((Bool × Unit) × Unit × Unit) :=
 let x1 : Bool := (a0.length : Int) != (a1.length : Int);
 br x1
 (some ((false, ()), (), ()))
 ((loopC laws_eqIntS_s0 ((a0, a1, (0 : Int), ()), (), ())).bind fun r7 =>
 sumK r7 (fun y10 =>
 some ((y10.1.1, ()), (), ())) (fun y11 =>
 some ((true, ()), (), ())))
noncomputable def laws_eqIntS_C : Ctr := ⟨17, laws_eqIntS_arg, laws_eqIntS_res, fun x => laws_eqIntS x.1.1 x.1.2.1, none⟩
def laws_eqIntS_H : Hint := ⟨[], [], [], fun _ => []⟩
noncomputable def laws_eqIntS_T : List Ctr := []
noncomputable def laws_eqIntS_Ls : List Lp := [laws_eqIntS_L0]
theorem laws_eqIntS_l0 : ∀ x, laws_eqIntS_s0 x = stepW E0 laws_eqIntS_T laws_eqIntS_Ls laws_eqIntS_H (loopAt (bodyOf Tryz.f17) 0) 0 laws_eqIntS_h0 [] [(.ret, []), (.exit 0, [])] laws_eqIntS_r0 x := fun x => by kernel_rfl
theorem laws_eqIntS_e : ∀ x, laws_eqIntS_C.F x = runBodyW E0 laws_eqIntS_T laws_eqIntS_Ls laws_eqIntS_H 17 Tryz.f17.results.toList (bodyOf Tryz.f17) [] (laws_eqIntS_arg.mk' x) laws_eqIntS_res := fun x => by kernel_rfl
theorem laws_eqIntS_ok : laws_eqIntS_C.Ok E0 := fn_ok (T := laws_eqIntS_T) (h := laws_eqIntS_H) (Ls := laws_eqIntS_Ls) E0_mixed T_nil Tryz.func17 (bodyOf_some (by kernel_rfl)) (by kernel_rfl) (loops_of (ks := [0]) (by kernel_rfl) ⟨(loop_one (h := laws_eqIntS_H) (own := []) (head := laws_eqIntS_h0) (back := []) (exs := [(.ret, []), (.exit 0, [])]) (res := laws_eqIntS_r0) (step := laws_eqIntS_s0) (by kernel_rfl) laws_eqIntS_l0), trivial⟩) laws_eqIntS_e
def laws_eqFont_arg : Sh := ⟨[(0, .agg [.str, .rd [] .i64, .rd [] .i64]), (1, .agg [.str, .rd [] .i64, .rd [] .i64])], [], []⟩
def laws_eqFont_res : List Sh := [⟨[(0, .c (.bool))], [], []⟩]
noncomputable def laws_eqFont (a0_0 : ByteArray) (a0_1 : List Int) (a0_2 : List Int) (a1_0 : ByteArray) (a1_1 : List Int) (a1_2 : List Int) : Option ((Bool × Unit) × Unit × Unit) :=
 let x1 : Bool := !strEq a0_0 a1_0;
 br x1
 (some ((false, ()), (), ()))
 ((laws_eqIntS a0_1 a1_1).bind fun r2 =>
 br (!r2.1.1)
 (some ((false, ()), (), ()))
 ((laws_eqIntS a0_2 a1_2).bind fun r3 =>
 br (!r3.1.1)
 (some ((false, ()), (), ()))
 (some ((true, ()), (), ()))))
noncomputable def laws_eqFont_C : Ctr := ⟨37, laws_eqFont_arg, laws_eqFont_res, fun x => laws_eqFont x.1.1.1 x.1.1.2.1 x.1.1.2.2.1 x.1.2.1.1 x.1.2.1.2.1 x.1.2.1.2.2.1, none⟩
def laws_eqFont_H : Hint := ⟨[], [], [], fun _ => []⟩
noncomputable def laws_eqFont_T : List Ctr := [laws_eqIntS_C]
noncomputable def laws_eqFont_Ls : List Lp := []
theorem laws_eqFont_e : ∀ x, laws_eqFont_C.F x = runBodyW E0 laws_eqFont_T laws_eqFont_Ls laws_eqFont_H 37 Tryz.f37.results.toList (bodyOf Tryz.f37) [] (laws_eqFont_arg.mk' x) laws_eqFont_res := fun x => by kernel_rfl
theorem laws_eqFont_ok : laws_eqFont_C.Ok E0 := fn_ok (T := laws_eqFont_T) (h := laws_eqFont_H) (Ls := laws_eqFont_Ls) E0_mixed (T_cons laws_eqIntS_ok T_nil) Tryz.func37 (bodyOf_some (by kernel_rfl)) (by kernel_rfl) (loops_of (ks := []) (by kernel_rfl) trivial) laws_eqFont_e
def laws_eqMatrix_arg : Sh := ⟨[(0, .agg [.int .i64, .int .i64]), (1, .agg [.int .i64, .int .i64])], [], []⟩
def laws_eqMatrix_res : List Sh := [⟨[(0, .c (.bool))], [], []⟩]
noncomputable def laws_eqMatrix (a0_0 : Int) (a0_1 : Int) (a1_0 : Int) (a1_1 : Int) : Option ((Bool × Unit) × Unit × Unit) :=
 let x1 : Bool := a0_0 != a1_0;
 br x1
 (some ((false, ()), (), ()))
 (let x2 : Bool := a0_1 != a1_1;
 br x2
 (some ((false, ()), (), ()))
 (some ((true, ()), (), ())))
noncomputable def laws_eqMatrix_C : Ctr := ⟨82, laws_eqMatrix_arg, laws_eqMatrix_res, fun x => laws_eqMatrix x.1.1.1 x.1.1.2.1 x.1.2.1.1 x.1.2.1.2.1, none⟩
def laws_eqMatrix_H : Hint := ⟨[], [], [], fun _ => []⟩
noncomputable def laws_eqMatrix_T : List Ctr := []
noncomputable def laws_eqMatrix_Ls : List Lp := []
theorem laws_eqMatrix_e : ∀ x, laws_eqMatrix_C.F x = runBodyW E0 laws_eqMatrix_T laws_eqMatrix_Ls laws_eqMatrix_H 82 Tryz.f82.results.toList (bodyOf Tryz.f82) [] (laws_eqMatrix_arg.mk' x) laws_eqMatrix_res := fun x => by kernel_rfl
theorem laws_eqMatrix_ok : laws_eqMatrix_C.Ok E0 := fn_ok (T := laws_eqMatrix_T) (h := laws_eqMatrix_H) (Ls := laws_eqMatrix_Ls) E0_mixed T_nil Tryz.func82 (bodyOf_some (by kernel_rfl)) (by kernel_rfl) (loops_of (ks := []) (by kernel_rfl) trivial) laws_eqMatrix_e
def laws_eqMatrixS_arg : Sh := ⟨[(0, .c (.rd [] .mat)), (1, .c (.rd [] .mat))], [], []⟩
def laws_eqMatrixS_res : List Sh := [⟨[(0, .c (.bool))], [], []⟩]
noncomputable def laws_eqMatrixS_s0 (x : (List (Int × Int) × List (Int × Int) × Int × Unit) × Unit × Unit) : Option (((List (Int × Int) × List (Int × Int) × Int × Unit) × Unit × Unit) ⊕ (((Bool × Unit) × Unit × Unit) ⊕ (Unit × Unit × Unit))) :=
 let x2 : Bool := decide (x.1.2.2.1 < (x.1.1.length : Int));
 br x2
 (ck (0 ≤ x.1.2.2.1)
 (ck (x.1.2.2.1.toNat < x.1.1.length)
 (let x3 : Int × Int := x.1.1.getD x.1.2.2.1.toNat (0, 0);
 ck (0 ≤ x.1.2.2.1)
 (ck (x.1.2.2.1.toNat < x.1.2.1.length)
 (let x4 : Int × Int := x.1.2.1.getD x.1.2.2.1.toNat (0, 0);
 (laws_eqMatrix x3.1 x3.2 x4.1 x4.2).bind fun r5 =>
 br (!r5.1.1)
 (some (.inr (.inl ((false, ()), (), ()))))
 (let x6 : Int := w64 (x.1.2.2.1 + (1 : Int));
 some (.inl ((x.1.1, x.1.2.1, x6, ()), (), ()))))))))
 (some (.inr (.inr ((), (), ()))))
def laws_eqMatrixS_h0 : Sh := ⟨[(0, .c (.rd [] .mat)), (1, .c (.rd [] .mat)), (5, .c (.int .i64))], [], []⟩
def laws_eqMatrixS_r0 : List Sh := [⟨[(4, .c (.bool))], [], []⟩, ⟨[], [], []⟩]
noncomputable def laws_eqMatrixS_L0 : Lp := ⟨0, [], laws_eqMatrixS_h0, [], [(.ret, []), (.exit 0, [])], laws_eqMatrixS_r0, loopC laws_eqMatrixS_s0⟩
noncomputable def laws_eqMatrixS (a0 : List (Int × Int)) (a1 : List (Int × Int)) : Option ((Bool × Unit) × Unit × Unit) :=
 let x1 : Bool := (a0.length : Int) != (a1.length : Int);
 br x1
 (some ((false, ()), (), ()))
 ((loopC laws_eqMatrixS_s0 ((a0, a1, (0 : Int), ()), (), ())).bind fun r7 =>
 sumK r7 (fun y10 =>
 some ((y10.1.1, ()), (), ())) (fun y11 =>
 some ((true, ()), (), ())))
noncomputable def laws_eqMatrixS_C : Ctr := ⟨40, laws_eqMatrixS_arg, laws_eqMatrixS_res, fun x => laws_eqMatrixS x.1.1 x.1.2.1, none⟩
def laws_eqMatrixS_H : Hint := ⟨[], [], [], fun _ => []⟩
noncomputable def laws_eqMatrixS_T : List Ctr := [laws_eqMatrix_C]
noncomputable def laws_eqMatrixS_Ls : List Lp := [laws_eqMatrixS_L0]
theorem laws_eqMatrixS_l0 : ∀ x, laws_eqMatrixS_s0 x = stepW E0 laws_eqMatrixS_T laws_eqMatrixS_Ls laws_eqMatrixS_H (loopAt (bodyOf Tryz.f40) 0) 0 laws_eqMatrixS_h0 [] [(.ret, []), (.exit 0, [])] laws_eqMatrixS_r0 x := fun x => by kernel_rfl
theorem laws_eqMatrixS_e : ∀ x, laws_eqMatrixS_C.F x = runBodyW E0 laws_eqMatrixS_T laws_eqMatrixS_Ls laws_eqMatrixS_H 40 Tryz.f40.results.toList (bodyOf Tryz.f40) [] (laws_eqMatrixS_arg.mk' x) laws_eqMatrixS_res := fun x => by kernel_rfl
theorem laws_eqMatrixS_ok : laws_eqMatrixS_C.Ok E0 := fn_ok (T := laws_eqMatrixS_T) (h := laws_eqMatrixS_H) (Ls := laws_eqMatrixS_Ls) E0_mixed (T_cons laws_eqMatrix_ok T_nil) Tryz.func40 (bodyOf_some (by kernel_rfl)) (by kernel_rfl) (loops_of (ks := [0]) (by kernel_rfl) ⟨(loop_one (h := laws_eqMatrixS_H) (own := []) (head := laws_eqMatrixS_h0) (back := []) (exs := [(.ret, []), (.exit 0, [])]) (res := laws_eqMatrixS_r0) (step := laws_eqMatrixS_s0) (by kernel_rfl) laws_eqMatrixS_l0), trivial⟩) laws_eqMatrixS_e
def laws_eqMatrixSS_arg : Sh := ⟨[(0, .c (.rd [] .mats)), (1, .c (.rd [] .mats))], [], []⟩
def laws_eqMatrixSS_res : List Sh := [⟨[(0, .c (.bool))], [], []⟩]
noncomputable def laws_eqMatrixSS_s0 (x : (List (List (Int × Int)) × List (List (Int × Int)) × Int × Unit) × Unit × Unit) : Option (((List (List (Int × Int)) × List (List (Int × Int)) × Int × Unit) × Unit × Unit) ⊕ (((Bool × Unit) × Unit × Unit) ⊕ (Unit × Unit × Unit))) :=
 let x2 : Bool := decide (x.1.2.2.1 < (x.1.1.length : Int));
 br x2
 (ck (0 ≤ x.1.2.2.1)
 (ck (x.1.2.2.1.toNat < x.1.1.length)
 (let x3 : List (Int × Int) := x.1.1.getD x.1.2.2.1.toNat [];
 ck (0 ≤ x.1.2.2.1)
 (ck (x.1.2.2.1.toNat < x.1.2.1.length)
 (let x4 : List (Int × Int) := x.1.2.1.getD x.1.2.2.1.toNat [];
 (laws_eqMatrixS x3 x4).bind fun r5 =>
 br (!r5.1.1)
 (some (.inr (.inl ((false, ()), (), ()))))
 (let x6 : Int := w64 (x.1.2.2.1 + (1 : Int));
 some (.inl ((x.1.1, x.1.2.1, x6, ()), (), ()))))))))
 (some (.inr (.inr ((), (), ()))))
def laws_eqMatrixSS_h0 : Sh := ⟨[(0, .c (.rd [] .mats)), (1, .c (.rd [] .mats)), (5, .c (.int .i64))], [], []⟩
def laws_eqMatrixSS_r0 : List Sh := [⟨[(4, .c (.bool))], [], []⟩, ⟨[], [], []⟩]
noncomputable def laws_eqMatrixSS_L0 : Lp := ⟨0, [], laws_eqMatrixSS_h0, [], [(.ret, []), (.exit 0, [])], laws_eqMatrixSS_r0, loopC laws_eqMatrixSS_s0⟩
noncomputable def laws_eqMatrixSS (a0 : List (List (Int × Int))) (a1 : List (List (Int × Int))) : Option ((Bool × Unit) × Unit × Unit) :=
 let x1 : Bool := (a0.length : Int) != (a1.length : Int);
 br x1
 (some ((false, ()), (), ()))
 ((loopC laws_eqMatrixSS_s0 ((a0, a1, (0 : Int), ()), (), ())).bind fun r7 =>
 sumK r7 (fun y10 =>
 some ((y10.1.1, ()), (), ())) (fun y11 =>
 some ((true, ()), (), ())))
noncomputable def laws_eqMatrixSS_C : Ctr := ⟨38, laws_eqMatrixSS_arg, laws_eqMatrixSS_res, fun x => laws_eqMatrixSS x.1.1 x.1.2.1, none⟩
def laws_eqMatrixSS_H : Hint := ⟨[], [], [], fun _ => []⟩
noncomputable def laws_eqMatrixSS_T : List Ctr := [laws_eqMatrixS_C]
noncomputable def laws_eqMatrixSS_Ls : List Lp := [laws_eqMatrixSS_L0]
theorem laws_eqMatrixSS_l0 : ∀ x, laws_eqMatrixSS_s0 x = stepW E0 laws_eqMatrixSS_T laws_eqMatrixSS_Ls laws_eqMatrixSS_H (loopAt (bodyOf Tryz.f38) 0) 0 laws_eqMatrixSS_h0 [] [(.ret, []), (.exit 0, [])] laws_eqMatrixSS_r0 x := fun x => by kernel_rfl
theorem laws_eqMatrixSS_e : ∀ x, laws_eqMatrixSS_C.F x = runBodyW E0 laws_eqMatrixSS_T laws_eqMatrixSS_Ls laws_eqMatrixSS_H 38 Tryz.f38.results.toList (bodyOf Tryz.f38) [] (laws_eqMatrixSS_arg.mk' x) laws_eqMatrixSS_res := fun x => by kernel_rfl
theorem laws_eqMatrixSS_ok : laws_eqMatrixSS_C.Ok E0 := fn_ok (T := laws_eqMatrixSS_T) (h := laws_eqMatrixSS_H) (Ls := laws_eqMatrixSS_Ls) E0_mixed (T_cons laws_eqMatrixS_ok T_nil) Tryz.func38 (bodyOf_some (by kernel_rfl)) (by kernel_rfl) (loops_of (ks := [0]) (by kernel_rfl) ⟨(loop_one (h := laws_eqMatrixSS_H) (own := []) (head := laws_eqMatrixSS_h0) (back := []) (exs := [(.ret, []), (.exit 0, [])]) (res := laws_eqMatrixSS_r0) (step := laws_eqMatrixSS_s0) (by kernel_rfl) laws_eqMatrixSS_l0), trivial⟩) laws_eqMatrixSS_e
def laws_eqMeasure_arg : Sh := ⟨[(0, .agg [.int .i64, .int .i64, .int .i64]), (1, .agg [.int .i64, .int .i64, .int .i64])], [], []⟩
def laws_eqMeasure_res : List Sh := [⟨[(0, .c (.bool))], [], []⟩]
noncomputable def laws_eqMeasure (a0_0 : Int) (a0_1 : Int) (a0_2 : Int) (a1_0 : Int) (a1_1 : Int) (a1_2 : Int) : Option ((Bool × Unit) × Unit × Unit) :=
 let x1 : Bool := a0_0 != a1_0;
 br x1
 (some ((false, ()), (), ()))
 (let x2 : Bool := a0_1 != a1_1;
 br x2
 (some ((false, ()), (), ()))
 (let x3 : Bool := a0_2 != a1_2;
 br x3
 (some ((false, ()), (), ()))
 (some ((true, ()), (), ()))))
noncomputable def laws_eqMeasure_C : Ctr := ⟨39, laws_eqMeasure_arg, laws_eqMeasure_res, fun x => laws_eqMeasure x.1.1.1 x.1.1.2.1 x.1.1.2.2.1 x.1.2.1.1 x.1.2.1.2.1 x.1.2.1.2.2.1, none⟩
def laws_eqMeasure_H : Hint := ⟨[], [], [], fun _ => []⟩
noncomputable def laws_eqMeasure_T : List Ctr := []
noncomputable def laws_eqMeasure_Ls : List Lp := []
theorem laws_eqMeasure_e : ∀ x, laws_eqMeasure_C.F x = runBodyW E0 laws_eqMeasure_T laws_eqMeasure_Ls laws_eqMeasure_H 39 Tryz.f39.results.toList (bodyOf Tryz.f39) [] (laws_eqMeasure_arg.mk' x) laws_eqMeasure_res := fun x => by kernel_rfl
theorem laws_eqMeasure_ok : laws_eqMeasure_C.Ok E0 := fn_ok (T := laws_eqMeasure_T) (h := laws_eqMeasure_H) (Ls := laws_eqMeasure_Ls) E0_mixed T_nil Tryz.func39 (bodyOf_some (by kernel_rfl)) (by kernel_rfl) (loops_of (ks := []) (by kernel_rfl) trivial) laws_eqMeasure_e
def laws_eqMachine_arg : Sh := ⟨[(0, .agg [.str, .rd [] .i64, .rd [] .i64, .rd [] .mats, .int .i64, .int .i64, .int .i64, .int .i64, .rd [] .mat, .rd [] .mat]), (1, .agg [.str, .rd [] .i64, .rd [] .i64, .rd [] .mats, .int .i64, .int .i64, .int .i64, .int .i64, .rd [] .mat, .rd [] .mat])], [], []⟩
def laws_eqMachine_res : List Sh := [⟨[(0, .c (.bool))], [], []⟩]
noncomputable def laws_eqMachine (a0_0 : ByteArray) (a0_1 : List Int) (a0_2 : List Int) (a0_3 : List (List (Int × Int))) (a0_4 : Int) (a0_5 : Int) (a0_6 : Int) (a0_7 : Int) (a0_8 : List (Int × Int)) (a0_9 : List (Int × Int)) (a1_0 : ByteArray) (a1_1 : List Int) (a1_2 : List Int) (a1_3 : List (List (Int × Int))) (a1_4 : Int) (a1_5 : Int) (a1_6 : Int) (a1_7 : Int) (a1_8 : List (Int × Int)) (a1_9 : List (Int × Int)) : Option ((Bool × Unit) × Unit × Unit) :=
 (laws_eqFont a0_0 a0_1 a0_2 a1_0 a1_1 a1_2).bind fun r1 =>
 br (!r1.1.1)
 (some ((false, ()), (), ()))
 ((laws_eqMatrixSS a0_3 a1_3).bind fun r2 =>
 br (!r2.1.1)
 (some ((false, ()), (), ()))
 (let x3 : Bool := a0_4 != a1_4;
 br x3
 (some ((false, ()), (), ()))
 ((laws_eqMeasure a0_5 a0_6 a0_7 a1_5 a1_6 a1_7).bind fun r4 =>
 br (!r4.1.1)
 (some ((false, ()), (), ()))
 ((laws_eqMatrixS a0_8 a1_8).bind fun r5 =>
 br (!r5.1.1)
 (some ((false, ()), (), ()))
 ((laws_eqMatrixS a0_9 a1_9).bind fun r6 =>
 br (!r6.1.1)
 (some ((false, ()), (), ()))
 (some ((true, ()), (), ())))))))
noncomputable def laws_eqMachine_C : Ctr := ⟨16, laws_eqMachine_arg, laws_eqMachine_res, fun x => laws_eqMachine x.1.1.1 x.1.1.2.1 x.1.1.2.2.1 x.1.1.2.2.2.1 x.1.1.2.2.2.2.1 x.1.1.2.2.2.2.2.1 x.1.1.2.2.2.2.2.2.1 x.1.1.2.2.2.2.2.2.2.1 x.1.1.2.2.2.2.2.2.2.2.1 x.1.1.2.2.2.2.2.2.2.2.2.1 x.1.2.1.1 x.1.2.1.2.1 x.1.2.1.2.2.1 x.1.2.1.2.2.2.1 x.1.2.1.2.2.2.2.1 x.1.2.1.2.2.2.2.2.1 x.1.2.1.2.2.2.2.2.2.1 x.1.2.1.2.2.2.2.2.2.2.1 x.1.2.1.2.2.2.2.2.2.2.2.1 x.1.2.1.2.2.2.2.2.2.2.2.2.1, none⟩
def laws_eqMachine_H : Hint := ⟨[], [], [], fun _ => []⟩
noncomputable def laws_eqMachine_T : List Ctr := [laws_eqFont_C, laws_eqMatrixSS_C, laws_eqMeasure_C, laws_eqMatrixS_C]
noncomputable def laws_eqMachine_Ls : List Lp := []
theorem laws_eqMachine_e : ∀ x, laws_eqMachine_C.F x = runBodyW E0 laws_eqMachine_T laws_eqMachine_Ls laws_eqMachine_H 16 Tryz.f16.results.toList (bodyOf Tryz.f16) [] (laws_eqMachine_arg.mk' x) laws_eqMachine_res := fun x => by kernel_rfl
theorem laws_eqMachine_ok : laws_eqMachine_C.Ok E0 := fn_ok (T := laws_eqMachine_T) (h := laws_eqMachine_H) (Ls := laws_eqMachine_Ls) E0_mixed (T_cons laws_eqFont_ok (T_cons laws_eqMatrixSS_ok (T_cons laws_eqMeasure_ok (T_cons laws_eqMatrixS_ok T_nil)))) Tryz.func16 (bodyOf_some (by kernel_rfl)) (by kernel_rfl) (loops_of (ks := []) (by kernel_rfl) trivial) laws_eqMachine_e
def laws_eqStringS_arg : Sh := ⟨[(0, .c (.rd [] .str)), (1, .c (.rd [] .str))], [], []⟩
def laws_eqStringS_res : List Sh := [⟨[(0, .c (.bool))], [], []⟩]
noncomputable def laws_eqStringS_s0 (x : (List ByteArray × List ByteArray × Int × Unit) × Unit × Unit) : Option (((List ByteArray × List ByteArray × Int × Unit) × Unit × Unit) ⊕ (((Bool × Unit) × Unit × Unit) ⊕ (Unit × Unit × Unit))) :=
 let x2 : Bool := decide (x.1.2.2.1 < (x.1.1.length : Int));
 br x2
 (ck (0 ≤ x.1.2.2.1)
 (ck (x.1.2.2.1.toNat < x.1.1.length)
 (let x3 : ByteArray := x.1.1.getD x.1.2.2.1.toNat ByteArray.empty;
 ck (0 ≤ x.1.2.2.1)
 (ck (x.1.2.2.1.toNat < x.1.2.1.length)
 (let x4 : ByteArray := x.1.2.1.getD x.1.2.2.1.toNat ByteArray.empty;
 let x5 : Bool := !strEq x3 x4;
 br x5
 (some (.inr (.inl ((false, ()), (), ()))))
 (let x6 : Int := w64 (x.1.2.2.1 + (1 : Int));
 some (.inl ((x.1.1, x.1.2.1, x6, ()), (), ()))))))))
 (some (.inr (.inr ((), (), ()))))
def laws_eqStringS_h0 : Sh := ⟨[(0, .c (.rd [] .str)), (1, .c (.rd [] .str)), (5, .c (.int .i64))], [], []⟩
def laws_eqStringS_r0 : List Sh := [⟨[(4, .c (.bool))], [], []⟩, ⟨[], [], []⟩]
noncomputable def laws_eqStringS_L0 : Lp := ⟨0, [], laws_eqStringS_h0, [], [(.ret, []), (.exit 0, [])], laws_eqStringS_r0, loopC laws_eqStringS_s0⟩
noncomputable def laws_eqStringS (a0 : List ByteArray) (a1 : List ByteArray) : Option ((Bool × Unit) × Unit × Unit) :=
 let x1 : Bool := (a0.length : Int) != (a1.length : Int);
 br x1
 (some ((false, ()), (), ()))
 ((loopC laws_eqStringS_s0 ((a0, a1, (0 : Int), ()), (), ())).bind fun r7 =>
 sumK r7 (fun y10 =>
 some ((y10.1.1, ()), (), ())) (fun y11 =>
 some ((true, ()), (), ())))
noncomputable def laws_eqStringS_C : Ctr := ⟨18, laws_eqStringS_arg, laws_eqStringS_res, fun x => laws_eqStringS x.1.1 x.1.2.1, none⟩
def laws_eqStringS_H : Hint := ⟨[], [], [], fun _ => []⟩
noncomputable def laws_eqStringS_T : List Ctr := []
noncomputable def laws_eqStringS_Ls : List Lp := [laws_eqStringS_L0]
theorem laws_eqStringS_l0 : ∀ x, laws_eqStringS_s0 x = stepW E0 laws_eqStringS_T laws_eqStringS_Ls laws_eqStringS_H (loopAt (bodyOf Tryz.f18) 0) 0 laws_eqStringS_h0 [] [(.ret, []), (.exit 0, [])] laws_eqStringS_r0 x := fun x => by kernel_rfl
theorem laws_eqStringS_e : ∀ x, laws_eqStringS_C.F x = runBodyW E0 laws_eqStringS_T laws_eqStringS_Ls laws_eqStringS_H 18 Tryz.f18.results.toList (bodyOf Tryz.f18) [] (laws_eqStringS_arg.mk' x) laws_eqStringS_res := fun x => by kernel_rfl
theorem laws_eqStringS_ok : laws_eqStringS_C.Ok E0 := fn_ok (T := laws_eqStringS_T) (h := laws_eqStringS_H) (Ls := laws_eqStringS_Ls) E0_mixed T_nil Tryz.func18 (bodyOf_some (by kernel_rfl)) (by kernel_rfl) (loops_of (ks := [0]) (by kernel_rfl) ⟨(loop_one (h := laws_eqStringS_H) (own := []) (head := laws_eqStringS_h0) (back := []) (exs := [(.ret, []), (.exit 0, [])]) (res := laws_eqStringS_r0) (step := laws_eqStringS_s0) (by kernel_rfl) laws_eqStringS_l0), trivial⟩) laws_eqStringS_e
def laws_markIntS_arg : Sh := ⟨[(0, .c (.own 0)), (1, .c (.int .i64))], [], [(0, .i64)]⟩
def laws_markIntS_res : List Sh := [⟨[(0, .c (.int .i64)), (1, .c (.own 0))], [], [(0, .i64)]⟩]
noncomputable def laws_markIntS_s0 (x : (Unit × Int × Int × Unit) × Unit × (List Int × Unit)) : Option (((Unit × Int × Int × Unit) × Unit × (List Int × Unit)) ⊕ ((Unit × Int × Unit) × Unit × (List Int × Unit))) :=
 let x1 : Bool := decide (x.1.2.2.1 < (x.2.2.1.length : Int));
 br x1
 (ck (0 ≤ x.1.2.2.1)
 (ck (x.1.2.2.1.toNat < x.2.2.1.length)
 (ck (x.1.2.2.1.toNat < x.2.2.1.length)
 (let x2 : List Int := x.2.2.1.set x.1.2.2.1.toNat x.1.2.1;
 let x3 : Int := w64 (x.1.2.1 + (1 : Int));
 let x4 : Int := w64 (x.1.2.2.1 + (1 : Int));
 some (.inl (((), x3, x4, ()), (), (x2, ())))))))
 (some (.inr (((), x.1.2.1, ()), (), (x.2.2.1, ()))))
def laws_markIntS_h0 : Sh := ⟨[(0, .c (.own 0)), (1, .c (.int .i64)), (5, .c (.int .i64))], [], [(0, .i64)]⟩
def laws_markIntS_r0 : List Sh := [⟨[(0, .c (.own 0)), (1, .c (.int .i64))], [], [(0, .i64)]⟩]
noncomputable def laws_markIntS_L0 : Lp := ⟨0, [], laws_markIntS_h0, [], [(.exit 0, [])], laws_markIntS_r0, loopC laws_markIntS_s0⟩
noncomputable def laws_markIntS (a1 : Int) (o0 : List Int) : Option ((Int × Unit × Unit) × Unit × (List Int × Unit)) :=
 (loopC laws_markIntS_s0 (((), a1, (0 : Int), ()), (), (o0, ()))).bind fun r5 =>
 some ((r5.1.2.1, (), ()), (), (r5.2.2.1, ()))
noncomputable def laws_markIntS_C : Ctr := ⟨21, laws_markIntS_arg, laws_markIntS_res, fun x => laws_markIntS x.1.2.1 x.2.2.1, none⟩
def laws_markIntS_H : Hint := ⟨[], [], [], fun _ => []⟩
noncomputable def laws_markIntS_T : List Ctr := []
noncomputable def laws_markIntS_Ls : List Lp := [laws_markIntS_L0]
theorem laws_markIntS_l0 : ∀ x, laws_markIntS_s0 x = stepW E0 laws_markIntS_T laws_markIntS_Ls laws_markIntS_H (loopAt (bodyOf Tryz.f21) 0) 0 laws_markIntS_h0 [] [(.exit 0, [])] laws_markIntS_r0 x := fun x => by kernel_rfl
theorem laws_markIntS_e : ∀ x, laws_markIntS_C.F x = runBodyW E0 laws_markIntS_T laws_markIntS_Ls laws_markIntS_H 21 Tryz.f21.results.toList (bodyOf Tryz.f21) [] (laws_markIntS_arg.mk' x) laws_markIntS_res := fun x => by kernel_rfl
theorem laws_markIntS_ok : laws_markIntS_C.Ok E0 := fn_ok (T := laws_markIntS_T) (h := laws_markIntS_H) (Ls := laws_markIntS_Ls) E0_mixed T_nil Tryz.func21 (bodyOf_some (by kernel_rfl)) (by kernel_rfl) (loops_of (ks := [0]) (by kernel_rfl) ⟨(loop_one (h := laws_markIntS_H) (own := []) (head := laws_markIntS_h0) (back := []) (exs := [(.exit 0, [])]) (res := laws_markIntS_r0) (step := laws_markIntS_s0) (by kernel_rfl) laws_markIntS_l0), trivial⟩) laws_markIntS_e
def laws_markFont_arg : Sh := ⟨[(0, .agg [.str, .own 0, .own 1]), (1, .c (.int .i64))], [], [(0, .i64), (1, .i64)]⟩
def laws_markFont_res : List Sh := [⟨[(0, .c (.int .i64)), (1, .agg [.str, .own 0, .own 1])], [], [(0, .i64), (1, .i64)]⟩]
noncomputable def laws_markFont (a0_0 : ByteArray) (a1 : Int) (o0 : List Int) (o1 : List Int) : Option ((Int × (ByteArray × Unit × Unit × Unit) × Unit) × Unit × (List Int × List Int × Unit)) :=
 (laws_markIntS a1 o0).bind fun r1 =>
 (laws_markIntS r1.1.1 o1).bind fun r2 =>
 some ((r2.1.1, (a0_0, (), (), ()), ()), (), (r1.2.2.1, r2.2.2.1, ()))
noncomputable def laws_markFont_C : Ctr := ⟨41, laws_markFont_arg, laws_markFont_res, fun x => laws_markFont x.1.1.1 x.1.2.1 x.2.2.1 x.2.2.2.1, none⟩
def laws_markFont_H : Hint := ⟨[], [], [], fun _ => []⟩
noncomputable def laws_markFont_T : List Ctr := [laws_markIntS_C]
noncomputable def laws_markFont_Ls : List Lp := []
theorem laws_markFont_e : ∀ x, laws_markFont_C.F x = runBodyW E0 laws_markFont_T laws_markFont_Ls laws_markFont_H 41 Tryz.f41.results.toList (bodyOf Tryz.f41) [] (laws_markFont_arg.mk' x) laws_markFont_res := fun x => by kernel_rfl
theorem laws_markFont_ok : laws_markFont_C.Ok E0 := fn_ok (T := laws_markFont_T) (h := laws_markFont_H) (Ls := laws_markFont_Ls) E0_mixed (T_cons laws_markIntS_ok T_nil) Tryz.func41 (bodyOf_some (by kernel_rfl)) (by kernel_rfl) (loops_of (ks := []) (by kernel_rfl) trivial) laws_markFont_e
def laws_markMatrixS_arg : Sh := ⟨[(0, .c (.own 0)), (1, .c (.int .i64))], [], [(0, .mat)]⟩
def laws_markMatrixS_res : List Sh := [⟨[(0, .c (.int .i64)), (1, .c (.own 0))], [], [(0, .mat)]⟩]
noncomputable def laws_markMatrixS_s0 (x : (Unit × Int × Int × Unit) × Unit × (List (Int × Int) × Unit)) : Option (((Unit × Int × Int × Unit) × Unit × (List (Int × Int) × Unit)) ⊕ ((Unit × Int × Unit) × Unit × (List (Int × Int) × Unit))) :=
 let x1 : Bool := decide (x.1.2.2.1 < (x.2.2.1.length : Int));
 br x1
 (ck (0 ≤ x.1.2.2.1)
 (ck (x.1.2.2.1.toNat < x.2.2.1.length)
 (ck (x.1.2.2.1.toNat < x.2.2.1.length)
 (let x2 : List (Int × Int) := x.2.2.1.set x.1.2.2.1.toNat (x.1.2.1, (x.2.2.1.getD x.1.2.2.1.toNat (0, 0)).2);
 let x3 : Int := w64 (x.1.2.1 + (1 : Int));
 ck (0 ≤ x.1.2.2.1)
 (ck (x.1.2.2.1.toNat < x2.length)
 (ck (x.1.2.2.1.toNat < x2.length)
 (let x4 : List (Int × Int) := x2.set x.1.2.2.1.toNat ((x2.getD x.1.2.2.1.toNat (0, 0)).1, x3);
 let x5 : Int := w64 (x3 + (1 : Int));
 let x6 : Int := w64 (x.1.2.2.1 + (1 : Int));
 some (.inl (((), x5, x6, ()), (), (x4, ()))))))))))
 (some (.inr (((), x.1.2.1, ()), (), (x.2.2.1, ()))))
def laws_markMatrixS_h0 : Sh := ⟨[(0, .c (.own 0)), (1, .c (.int .i64)), (5, .c (.int .i64))], [], [(0, .mat)]⟩
def laws_markMatrixS_r0 : List Sh := [⟨[(0, .c (.own 0)), (1, .c (.int .i64))], [], [(0, .mat)]⟩]
noncomputable def laws_markMatrixS_L0 : Lp := ⟨0, [], laws_markMatrixS_h0, [], [(.exit 0, [])], laws_markMatrixS_r0, loopC laws_markMatrixS_s0⟩
noncomputable def laws_markMatrixS (a1 : Int) (o0 : List (Int × Int)) : Option ((Int × Unit × Unit) × Unit × (List (Int × Int) × Unit)) :=
 (loopC laws_markMatrixS_s0 (((), a1, (0 : Int), ()), (), (o0, ()))).bind fun r7 =>
 some ((r7.1.2.1, (), ()), (), (r7.2.2.1, ()))
noncomputable def laws_markMatrixS_C : Ctr := ⟨43, laws_markMatrixS_arg, laws_markMatrixS_res, fun x => laws_markMatrixS x.1.2.1 x.2.2.1, none⟩
def laws_markMatrixS_H : Hint := ⟨[], [], [], fun _ => []⟩
noncomputable def laws_markMatrixS_T : List Ctr := []
noncomputable def laws_markMatrixS_Ls : List Lp := [laws_markMatrixS_L0]
theorem laws_markMatrixS_l0 : ∀ x, laws_markMatrixS_s0 x = stepW E0 laws_markMatrixS_T laws_markMatrixS_Ls laws_markMatrixS_H (loopAt (bodyOf Tryz.f43) 0) 0 laws_markMatrixS_h0 [] [(.exit 0, [])] laws_markMatrixS_r0 x := fun x => by kernel_rfl
theorem laws_markMatrixS_e : ∀ x, laws_markMatrixS_C.F x = runBodyW E0 laws_markMatrixS_T laws_markMatrixS_Ls laws_markMatrixS_H 43 Tryz.f43.results.toList (bodyOf Tryz.f43) [] (laws_markMatrixS_arg.mk' x) laws_markMatrixS_res := fun x => by kernel_rfl
theorem laws_markMatrixS_ok : laws_markMatrixS_C.Ok E0 := fn_ok (T := laws_markMatrixS_T) (h := laws_markMatrixS_H) (Ls := laws_markMatrixS_Ls) E0_mixed T_nil Tryz.func43 (bodyOf_some (by kernel_rfl)) (by kernel_rfl) (loops_of (ks := [0]) (by kernel_rfl) ⟨(loop_one (h := laws_markMatrixS_H) (own := []) (head := laws_markMatrixS_h0) (back := []) (exs := [(.exit 0, [])]) (res := laws_markMatrixS_r0) (step := laws_markMatrixS_s0) (by kernel_rfl) laws_markMatrixS_l0), trivial⟩) laws_markMatrixS_e
def laws_markMatrixSS_arg : Sh := ⟨[(0, .c (.own 0)), (1, .c (.int .i64))], [], [(0, .mats)]⟩
def laws_markMatrixSS_res : List Sh := [⟨[(0, .c (.int .i64)), (1, .c (.own 0))], [], [(0, .mats)]⟩]
noncomputable def laws_markMatrixSS_s0 (x : (Unit × Int × Int × Unit) × Unit × (List (List (Int × Int)) × Unit)) : Option (((Unit × Int × Int × Unit) × Unit × (List (List (Int × Int)) × Unit)) ⊕ ((Unit × Int × Unit) × Unit × (List (List (Int × Int)) × Unit))) :=
 let x1 : Bool := decide (x.1.2.2.1 < (x.2.2.1.length : Int));
 br x1
 (ck (0 ≤ x.1.2.2.1)
 (ck (x.1.2.2.1.toNat < x.2.2.1.length)
 (ck (x.1.2.2.1.toNat < x.2.2.1.length)
 (ck (x.1.2.2.1.toNat = x.1.2.2.1.toNat)
 (ck (x.1.2.2.1.toNat < x.2.2.1.length)
 (let x2 : List (Int × Int) := x.2.2.1.getD x.1.2.2.1.toNat [];
 ck (x.1.2.2.1.toNat = x.1.2.2.1.toNat ∧ x.1.2.2.1.toNat < x.2.2.1.length)
 ((laws_markMatrixS x.1.2.1 x2).bind fun r3 =>
 ck (x.1.2.2.1.toNat = x.1.2.2.1.toNat ∧ x.1.2.2.1.toNat < x.2.2.1.length)
 (let x4 : List (List (Int × Int)) := x.2.2.1.set x.1.2.2.1.toNat r3.2.2.1;
 let x5 : Int := w64 (x.1.2.2.1 + (1 : Int));
 some (.inl (((), r3.1.1, x5, ()), (), (x4, ())))))))))))
 (some (.inr (((), x.1.2.1, ()), (), (x.2.2.1, ()))))
def laws_markMatrixSS_h0 : Sh := ⟨[(0, .c (.own 0)), (1, .c (.int .i64)), (5, .c (.int .i64))], [], [(0, .mats)]⟩
def laws_markMatrixSS_r0 : List Sh := [⟨[(0, .c (.own 0)), (1, .c (.int .i64))], [], [(0, .mats)]⟩]
noncomputable def laws_markMatrixSS_L0 : Lp := ⟨0, [], laws_markMatrixSS_h0, [], [(.exit 0, [])], laws_markMatrixSS_r0, loopC laws_markMatrixSS_s0⟩
noncomputable def laws_markMatrixSS (a1 : Int) (o0 : List (List (Int × Int))) : Option ((Int × Unit × Unit) × Unit × (List (List (Int × Int)) × Unit)) :=
 (loopC laws_markMatrixSS_s0 (((), a1, (0 : Int), ()), (), (o0, ()))).bind fun r6 =>
 some ((r6.1.2.1, (), ()), (), (r6.2.2.1, ()))
noncomputable def laws_markMatrixSS_C : Ctr := ⟨42, laws_markMatrixSS_arg, laws_markMatrixSS_res, fun x => laws_markMatrixSS x.1.2.1 x.2.2.1, none⟩
def laws_markMatrixSS_H : Hint := ⟨[], [], [], fun _ => []⟩
noncomputable def laws_markMatrixSS_T : List Ctr := [laws_markMatrixS_C]
noncomputable def laws_markMatrixSS_Ls : List Lp := [laws_markMatrixSS_L0]
theorem laws_markMatrixSS_l0 : ∀ x, laws_markMatrixSS_s0 x = stepW E0 laws_markMatrixSS_T laws_markMatrixSS_Ls laws_markMatrixSS_H (loopAt (bodyOf Tryz.f42) 0) 0 laws_markMatrixSS_h0 [] [(.exit 0, [])] laws_markMatrixSS_r0 x := fun x => by kernel_rfl
theorem laws_markMatrixSS_e : ∀ x, laws_markMatrixSS_C.F x = runBodyW E0 laws_markMatrixSS_T laws_markMatrixSS_Ls laws_markMatrixSS_H 42 Tryz.f42.results.toList (bodyOf Tryz.f42) [] (laws_markMatrixSS_arg.mk' x) laws_markMatrixSS_res := fun x => by kernel_rfl
theorem laws_markMatrixSS_ok : laws_markMatrixSS_C.Ok E0 := fn_ok (T := laws_markMatrixSS_T) (h := laws_markMatrixSS_H) (Ls := laws_markMatrixSS_Ls) E0_mixed (T_cons laws_markMatrixS_ok T_nil) Tryz.func42 (bodyOf_some (by kernel_rfl)) (by kernel_rfl) (loops_of (ks := [0]) (by kernel_rfl) ⟨(loop_one (h := laws_markMatrixSS_H) (own := []) (head := laws_markMatrixSS_h0) (back := []) (exs := [(.exit 0, [])]) (res := laws_markMatrixSS_r0) (step := laws_markMatrixSS_s0) (by kernel_rfl) laws_markMatrixSS_l0), trivial⟩) laws_markMatrixSS_e
def laws_markMachine_arg : Sh := ⟨[(0, .agg [.str, .own 0, .own 1, .own 2, .int .i64, .int .i64, .int .i64, .int .i64, .own 3, .own 4]), (1, .c (.int .i64))], [], [(0, .i64), (1, .i64), (2, .mats), (3, .mat), (4, .mat)]⟩
def laws_markMachine_res : List Sh := [⟨[(0, .c (.int .i64)), (1, .agg [.str, .own 0, .own 1, .own 2, .int .i64, .int .i64, .int .i64, .int .i64, .own 3, .own 4])], [], [(0, .i64), (1, .i64), (2, .mats), (3, .mat), (4, .mat)]⟩]
noncomputable def laws_markMachine (a0_0 : ByteArray) (a0_4 : Int) (a0_5 : Int) (a0_6 : Int) (a0_7 : Int) (a1 : Int) (o0 : List Int) (o1 : List Int) (o2 : List (List (Int × Int))) (o3 : List (Int × Int)) (o4 : List (Int × Int)) : Option ((Int × (ByteArray × Unit × Unit × Unit × Int × Int × Int × Int × Unit × Unit × Unit) × Unit) × Unit × (List Int × List Int × List (List (Int × Int)) × List (Int × Int) × List (Int × Int) × Unit)) :=
 (laws_markFont a0_0 a1 o0 o1).bind fun r1 =>
 (laws_markMatrixSS r1.1.1 o2).bind fun r2 =>
 (laws_markMatrixS r2.1.1 o3).bind fun r3 =>
 (laws_markMatrixS r3.1.1 o4).bind fun r4 =>
 some ((r4.1.1, (a0_0, (), (), (), a0_4, a0_5, a0_6, a0_7, (), (), ()), ()), (), (r1.2.2.1, r1.2.2.2.1, r2.2.2.1, r3.2.2.1, r4.2.2.1, ()))
noncomputable def laws_markMachine_C : Ctr := ⟨19, laws_markMachine_arg, laws_markMachine_res, fun x => laws_markMachine x.1.1.1 x.1.1.2.2.2.2.1 x.1.1.2.2.2.2.2.1 x.1.1.2.2.2.2.2.2.1 x.1.1.2.2.2.2.2.2.2.1 x.1.2.1 x.2.2.1 x.2.2.2.1 x.2.2.2.2.1 x.2.2.2.2.2.1 x.2.2.2.2.2.2.1, none⟩
def laws_markMachine_H : Hint := ⟨[], [], [], fun _ => []⟩
noncomputable def laws_markMachine_T : List Ctr := [laws_markFont_C, laws_markMatrixSS_C, laws_markMatrixS_C]
noncomputable def laws_markMachine_Ls : List Lp := []
theorem laws_markMachine_e : ∀ x, laws_markMachine_C.F x = runBodyW E0 laws_markMachine_T laws_markMachine_Ls laws_markMachine_H 19 Tryz.f19.results.toList (bodyOf Tryz.f19) [] (laws_markMachine_arg.mk' x) laws_markMachine_res := fun x => by kernel_rfl
theorem laws_markMachine_ok : laws_markMachine_C.Ok E0 := fn_ok (T := laws_markMachine_T) (h := laws_markMachine_H) (Ls := laws_markMachine_Ls) E0_mixed (T_cons laws_markFont_ok (T_cons laws_markMatrixSS_ok (T_cons laws_markMatrixS_ok T_nil))) Tryz.func19 (bodyOf_some (by kernel_rfl)) (by kernel_rfl) (loops_of (ks := []) (by kernel_rfl) trivial) laws_markMachine_e
def laws_markText_arg : Sh := ⟨[(0, .c (.int .i64))], [], []⟩
def laws_markText_res : List Sh := [⟨[(0, .c (.str))], [], []⟩]
noncomputable def laws_markText_s0 (x : (Int × ByteArray × Unit) × Unit × Unit) : Option (((Int × ByteArray × Unit) × Unit × Unit) ⊕ ((ByteArray × Unit) × Unit × Unit)) :=
 let x2 : Bool := decide (x.1.1 > (0 : Int));
 br x2
 (let x3 : Int := x.1.1.tmod (10 : Int);
 let x4 : Int := w64 ((48 : Int) + x3);
 let x5 : Int := IntKind.u8.wrap x4;
 let x6 : ByteArray := ofBytes [x5];
 ck (((x6.size + x.1.2.1.size : Nat) : Int) ≤ IntKind.i64.max)
 (let x7 : ByteArray := x6 ++ x.1.2.1;
 let x8 : Int := w64 (x.1.1.tdiv (10 : Int));
 some (.inl ((x8, x7, ()), (), ()))))
 (some (.inr ((x.1.2.1, ()), (), ())))
def laws_markText_h0 : Sh := ⟨[(0, .c (.int .i64)), (3, .c (.str))], [], []⟩
def laws_markText_r0 : List Sh := [⟨[(3, .c (.str))], [], []⟩]
noncomputable def laws_markText_L0 : Lp := ⟨0, [], laws_markText_h0, [], [(.exit 0, [])], laws_markText_r0, loopC laws_markText_s0⟩
noncomputable def laws_markText (a0 : Int) : Option ((ByteArray × Unit) × Unit × Unit) :=
 let x1 : Bool := decide (a0 ≤ (0 : Int));
 br x1
 (some (((ByteArray.mk #[109, 48]), ()), (), ()))
 ((loopC laws_markText_s0 ((a0, ByteArray.empty, ()), (), ())).bind fun r9 =>
 ck ((((ByteArray.mk #[109]).size + r9.1.1.size : Nat) : Int) ≤ IntKind.i64.max)
 (let x10 : ByteArray := (ByteArray.mk #[109]) ++ r9.1.1;
 some ((x10, ()), (), ())))
noncomputable def laws_markText_C : Ctr := ⟨44, laws_markText_arg, laws_markText_res, fun x => laws_markText x.1.1, none⟩
def laws_markText_H : Hint := ⟨[], [], [], fun _ => []⟩
noncomputable def laws_markText_T : List Ctr := []
noncomputable def laws_markText_Ls : List Lp := [laws_markText_L0]
theorem laws_markText_l0 : ∀ x, laws_markText_s0 x = stepW E0 laws_markText_T laws_markText_Ls laws_markText_H (loopAt (bodyOf Tryz.f44) 0) 0 laws_markText_h0 [] [(.exit 0, [])] laws_markText_r0 x := fun x => by kernel_rfl
theorem laws_markText_e : ∀ x, laws_markText_C.F x = runBodyW E0 laws_markText_T laws_markText_Ls laws_markText_H 44 Tryz.f44.results.toList (bodyOf Tryz.f44) [] (laws_markText_arg.mk' x) laws_markText_res := fun x => by kernel_rfl
theorem laws_markText_ok : laws_markText_C.Ok E0 := fn_ok (T := laws_markText_T) (h := laws_markText_H) (Ls := laws_markText_Ls) E0_mixed T_nil Tryz.func44 (bodyOf_some (by kernel_rfl)) (by kernel_rfl) (loops_of (ks := [0]) (by kernel_rfl) ⟨(loop_one (h := laws_markText_H) (own := []) (head := laws_markText_h0) (back := []) (exs := [(.exit 0, [])]) (res := laws_markText_r0) (step := laws_markText_s0) (by kernel_rfl) laws_markText_l0), trivial⟩) laws_markText_e
def laws_markStringS_arg : Sh := ⟨[(0, .c (.own 0)), (1, .c (.int .i64))], [], [(0, .str)]⟩
def laws_markStringS_res : List Sh := [⟨[(0, .c (.int .i64)), (1, .c (.own 0))], [], [(0, .str)]⟩]
noncomputable def laws_markStringS_s0 (x : (Unit × Int × Int × Unit) × Unit × (List ByteArray × Unit)) : Option (((Unit × Int × Int × Unit) × Unit × (List ByteArray × Unit)) ⊕ ((Unit × Int × Unit) × Unit × (List ByteArray × Unit))) :=
 let x1 : Bool := decide (x.1.2.2.1 < (x.2.2.1.length : Int));
 br x1
 ((laws_markText x.1.2.1).bind fun r2 =>
 ck (0 ≤ x.1.2.2.1)
 (ck (x.1.2.2.1.toNat < x.2.2.1.length)
 (ck (x.1.2.2.1.toNat < x.2.2.1.length)
 (let x3 : List ByteArray := x.2.2.1.set x.1.2.2.1.toNat r2.1.1;
 let x4 : Int := w64 (x.1.2.1 + (1 : Int));
 let x5 : Int := w64 (x.1.2.2.1 + (1 : Int));
 some (.inl (((), x4, x5, ()), (), (x3, ())))))))
 (some (.inr (((), x.1.2.1, ()), (), (x.2.2.1, ()))))
def laws_markStringS_h0 : Sh := ⟨[(0, .c (.own 0)), (1, .c (.int .i64)), (5, .c (.int .i64))], [], [(0, .str)]⟩
def laws_markStringS_r0 : List Sh := [⟨[(0, .c (.own 0)), (1, .c (.int .i64))], [], [(0, .str)]⟩]
noncomputable def laws_markStringS_L0 : Lp := ⟨0, [], laws_markStringS_h0, [], [(.exit 0, [])], laws_markStringS_r0, loopC laws_markStringS_s0⟩
noncomputable def laws_markStringS (a1 : Int) (o0 : List ByteArray) : Option ((Int × Unit × Unit) × Unit × (List ByteArray × Unit)) :=
 (loopC laws_markStringS_s0 (((), a1, (0 : Int), ()), (), (o0, ()))).bind fun r6 =>
 some ((r6.1.2.1, (), ()), (), (r6.2.2.1, ()))
noncomputable def laws_markStringS_C : Ctr := ⟨20, laws_markStringS_arg, laws_markStringS_res, fun x => laws_markStringS x.1.2.1 x.2.2.1, none⟩
def laws_markStringS_H : Hint := ⟨[], [], [], fun _ => []⟩
noncomputable def laws_markStringS_T : List Ctr := [laws_markText_C]
noncomputable def laws_markStringS_Ls : List Lp := [laws_markStringS_L0]
theorem laws_markStringS_l0 : ∀ x, laws_markStringS_s0 x = stepW E0 laws_markStringS_T laws_markStringS_Ls laws_markStringS_H (loopAt (bodyOf Tryz.f20) 0) 0 laws_markStringS_h0 [] [(.exit 0, [])] laws_markStringS_r0 x := fun x => by kernel_rfl
theorem laws_markStringS_e : ∀ x, laws_markStringS_C.F x = runBodyW E0 laws_markStringS_T laws_markStringS_Ls laws_markStringS_H 20 Tryz.f20.results.toList (bodyOf Tryz.f20) [] (laws_markStringS_arg.mk' x) laws_markStringS_res := fun x => by kernel_rfl
theorem laws_markStringS_ok : laws_markStringS_C.Ok E0 := fn_ok (T := laws_markStringS_T) (h := laws_markStringS_H) (Ls := laws_markStringS_Ls) E0_mixed (T_cons laws_markText_ok T_nil) Tryz.func20 (bodyOf_some (by kernel_rfl)) (by kernel_rfl) (loops_of (ks := [0]) (by kernel_rfl) ⟨(loop_one (h := laws_markStringS_H) (own := []) (head := laws_markStringS_h0) (back := []) (exs := [(.exit 0, [])]) (res := laws_markStringS_r0) (step := laws_markStringS_s0) (by kernel_rfl) laws_markStringS_l0), trivial⟩) laws_markStringS_e
def laws_heldIntS_arg : Sh := ⟨[(0, .c (.rd [] .i64)), (1, .c (.int .i64))], [], []⟩
def laws_heldIntS_res : List Sh := [⟨[(0, .c (.int .i64))], [], []⟩]
noncomputable def laws_heldIntS_s0 (x : (List Int × Int × Int × Unit) × Unit × Unit) : Option (((List Int × Int × Int × Unit) × Unit × Unit) ⊕ (((Int × Unit) × Unit × Unit) ⊕ ((Int × Unit) × Unit × Unit))) :=
 let x1 : Bool := decide (x.1.2.2.1 < (x.1.1.length : Int));
 br x1
 (ck (0 ≤ x.1.2.2.1)
 (ck (x.1.2.2.1.toNat < x.1.1.length)
 (let x2 : Int := x.1.1.getD x.1.2.2.1.toNat 0;
 let x3 : Bool := x2 != x.1.2.1;
 br x3
 (some (.inr (.inl (((-1 : Int), ()), (), ()))))
 (let x4 : Int := w64 (x.1.2.1 + (1 : Int));
 let x5 : Int := w64 (x.1.2.2.1 + (1 : Int));
 some (.inl ((x.1.1, x4, x5, ()), (), ()))))))
 (some (.inr (.inr ((x.1.2.1, ()), (), ()))))
def laws_heldIntS_h0 : Sh := ⟨[(0, .c (.rd [] .i64)), (1, .c (.int .i64)), (5, .c (.int .i64))], [], []⟩
def laws_heldIntS_r0 : List Sh := [⟨[(4, .c (.int .i64))], [], []⟩, ⟨[(1, .c (.int .i64))], [], []⟩]
noncomputable def laws_heldIntS_L0 : Lp := ⟨0, [], laws_heldIntS_h0, [], [(.ret, []), (.exit 0, [])], laws_heldIntS_r0, loopC laws_heldIntS_s0⟩
noncomputable def laws_heldIntS (a0 : List Int) (a1 : Int) : Option ((Int × Unit) × Unit × Unit) :=
 (loopC laws_heldIntS_s0 ((a0, a1, (0 : Int), ()), (), ())).bind fun r6 =>
 sumK r6 (fun y9 =>
 some ((y9.1.1, ()), (), ())) (fun y10 =>
 some ((y10.1.1, ()), (), ()))
noncomputable def laws_heldIntS_C : Ctr := ⟨23, laws_heldIntS_arg, laws_heldIntS_res, fun x => laws_heldIntS x.1.1 x.1.2.1, none⟩
def laws_heldIntS_H : Hint := ⟨[], [], [], fun _ => []⟩
noncomputable def laws_heldIntS_T : List Ctr := []
noncomputable def laws_heldIntS_Ls : List Lp := [laws_heldIntS_L0]
theorem laws_heldIntS_l0 : ∀ x, laws_heldIntS_s0 x = stepW E0 laws_heldIntS_T laws_heldIntS_Ls laws_heldIntS_H (loopAt (bodyOf Tryz.f23) 0) 0 laws_heldIntS_h0 [] [(.ret, []), (.exit 0, [])] laws_heldIntS_r0 x := fun x => by kernel_rfl
theorem laws_heldIntS_e : ∀ x, laws_heldIntS_C.F x = runBodyW E0 laws_heldIntS_T laws_heldIntS_Ls laws_heldIntS_H 23 Tryz.f23.results.toList (bodyOf Tryz.f23) [] (laws_heldIntS_arg.mk' x) laws_heldIntS_res := fun x => by kernel_rfl
theorem laws_heldIntS_ok : laws_heldIntS_C.Ok E0 := fn_ok (T := laws_heldIntS_T) (h := laws_heldIntS_H) (Ls := laws_heldIntS_Ls) E0_mixed T_nil Tryz.func23 (bodyOf_some (by kernel_rfl)) (by kernel_rfl) (loops_of (ks := [0]) (by kernel_rfl) ⟨(loop_one (h := laws_heldIntS_H) (own := []) (head := laws_heldIntS_h0) (back := []) (exs := [(.ret, []), (.exit 0, [])]) (res := laws_heldIntS_r0) (step := laws_heldIntS_s0) (by kernel_rfl) laws_heldIntS_l0), trivial⟩) laws_heldIntS_e
def laws_heldFont_arg : Sh := ⟨[(0, .agg [.str, .rd [] .i64, .rd [] .i64]), (1, .c (.int .i64))], [], []⟩
def laws_heldFont_res : List Sh := [⟨[(0, .c (.int .i64))], [], []⟩]
noncomputable def laws_heldFont (a0_0 : ByteArray) (a0_1 : List Int) (a0_2 : List Int) (a1 : Int) : Option ((Int × Unit) × Unit × Unit) :=
 (laws_heldIntS a0_1 a1).bind fun r1 =>
 let x2 : Bool := decide (r1.1.1 < (0 : Int));
 br x2
 (some (((-1 : Int), ()), (), ()))
 ((laws_heldIntS a0_2 r1.1.1).bind fun r3 =>
 let x4 : Bool := decide (r3.1.1 < (0 : Int));
 br x4
 (some (((-1 : Int), ()), (), ()))
 (some ((r3.1.1, ()), (), ())))
noncomputable def laws_heldFont_C : Ctr := ⟨45, laws_heldFont_arg, laws_heldFont_res, fun x => laws_heldFont x.1.1.1 x.1.1.2.1 x.1.1.2.2.1 x.1.2.1, none⟩
def laws_heldFont_H : Hint := ⟨[], [], [], fun _ => []⟩
noncomputable def laws_heldFont_T : List Ctr := [laws_heldIntS_C]
noncomputable def laws_heldFont_Ls : List Lp := []
theorem laws_heldFont_e : ∀ x, laws_heldFont_C.F x = runBodyW E0 laws_heldFont_T laws_heldFont_Ls laws_heldFont_H 45 Tryz.f45.results.toList (bodyOf Tryz.f45) [] (laws_heldFont_arg.mk' x) laws_heldFont_res := fun x => by kernel_rfl
theorem laws_heldFont_ok : laws_heldFont_C.Ok E0 := fn_ok (T := laws_heldFont_T) (h := laws_heldFont_H) (Ls := laws_heldFont_Ls) E0_mixed (T_cons laws_heldIntS_ok T_nil) Tryz.func45 (bodyOf_some (by kernel_rfl)) (by kernel_rfl) (loops_of (ks := []) (by kernel_rfl) trivial) laws_heldFont_e
def laws_heldMatrixS_arg : Sh := ⟨[(0, .c (.rd [] .mat)), (1, .c (.int .i64))], [], []⟩
def laws_heldMatrixS_res : List Sh := [⟨[(0, .c (.int .i64))], [], []⟩]
noncomputable def laws_heldMatrixS_s0 (x : (List (Int × Int) × Int × Int × Unit) × Unit × Unit) : Option (((List (Int × Int) × Int × Int × Unit) × Unit × Unit) ⊕ (((Int × Unit) × Unit × Unit) ⊕ ((Int × Unit) × Unit × Unit))) :=
 let x1 : Bool := decide (x.1.2.2.1 < (x.1.1.length : Int));
 br x1
 (ck (0 ≤ x.1.2.2.1)
 (ck (x.1.2.2.1.toNat < x.1.1.length)
 (let x2 : Int × Int := x.1.1.getD x.1.2.2.1.toNat (0, 0);
 let x3 : Bool := x2.1 != x.1.2.1;
 br x3
 (some (.inr (.inl (((-1 : Int), ()), (), ()))))
 (let x4 : Int := w64 (x.1.2.1 + (1 : Int));
 ck (0 ≤ x.1.2.2.1)
 (ck (x.1.2.2.1.toNat < x.1.1.length)
 (let x5 : Bool := x2.2 != x4;
 br x5
 (some (.inr (.inl (((-1 : Int), ()), (), ()))))
 (let x6 : Int := w64 (x4 + (1 : Int));
 let x7 : Int := w64 (x.1.2.2.1 + (1 : Int));
 some (.inl ((x.1.1, x6, x7, ()), (), ())))))))))
 (some (.inr (.inr ((x.1.2.1, ()), (), ()))))
def laws_heldMatrixS_h0 : Sh := ⟨[(0, .c (.rd [] .mat)), (1, .c (.int .i64)), (5, .c (.int .i64))], [], []⟩
def laws_heldMatrixS_r0 : List Sh := [⟨[(4, .c (.int .i64))], [], []⟩, ⟨[(1, .c (.int .i64))], [], []⟩]
noncomputable def laws_heldMatrixS_L0 : Lp := ⟨0, [], laws_heldMatrixS_h0, [], [(.ret, []), (.exit 0, [])], laws_heldMatrixS_r0, loopC laws_heldMatrixS_s0⟩
noncomputable def laws_heldMatrixS (a0 : List (Int × Int)) (a1 : Int) : Option ((Int × Unit) × Unit × Unit) :=
 (loopC laws_heldMatrixS_s0 ((a0, a1, (0 : Int), ()), (), ())).bind fun r8 =>
 sumK r8 (fun y11 =>
 some ((y11.1.1, ()), (), ())) (fun y12 =>
 some ((y12.1.1, ()), (), ()))
noncomputable def laws_heldMatrixS_C : Ctr := ⟨47, laws_heldMatrixS_arg, laws_heldMatrixS_res, fun x => laws_heldMatrixS x.1.1 x.1.2.1, none⟩
def laws_heldMatrixS_H : Hint := ⟨[], [], [], fun _ => []⟩
noncomputable def laws_heldMatrixS_T : List Ctr := []
noncomputable def laws_heldMatrixS_Ls : List Lp := [laws_heldMatrixS_L0]
theorem laws_heldMatrixS_l0 : ∀ x, laws_heldMatrixS_s0 x = stepW E0 laws_heldMatrixS_T laws_heldMatrixS_Ls laws_heldMatrixS_H (loopAt (bodyOf Tryz.f47) 0) 0 laws_heldMatrixS_h0 [] [(.ret, []), (.exit 0, [])] laws_heldMatrixS_r0 x := fun x => by kernel_rfl
theorem laws_heldMatrixS_e : ∀ x, laws_heldMatrixS_C.F x = runBodyW E0 laws_heldMatrixS_T laws_heldMatrixS_Ls laws_heldMatrixS_H 47 Tryz.f47.results.toList (bodyOf Tryz.f47) [] (laws_heldMatrixS_arg.mk' x) laws_heldMatrixS_res := fun x => by kernel_rfl
theorem laws_heldMatrixS_ok : laws_heldMatrixS_C.Ok E0 := fn_ok (T := laws_heldMatrixS_T) (h := laws_heldMatrixS_H) (Ls := laws_heldMatrixS_Ls) E0_mixed T_nil Tryz.func47 (bodyOf_some (by kernel_rfl)) (by kernel_rfl) (loops_of (ks := [0]) (by kernel_rfl) ⟨(loop_one (h := laws_heldMatrixS_H) (own := []) (head := laws_heldMatrixS_h0) (back := []) (exs := [(.ret, []), (.exit 0, [])]) (res := laws_heldMatrixS_r0) (step := laws_heldMatrixS_s0) (by kernel_rfl) laws_heldMatrixS_l0), trivial⟩) laws_heldMatrixS_e
def laws_heldMatrixSS_arg : Sh := ⟨[(0, .c (.rd [] .mats)), (1, .c (.int .i64))], [], []⟩
def laws_heldMatrixSS_res : List Sh := [⟨[(0, .c (.int .i64))], [], []⟩]
noncomputable def laws_heldMatrixSS_s0 (x : (List (List (Int × Int)) × Int × Int × Unit) × Unit × Unit) : Option (((List (List (Int × Int)) × Int × Int × Unit) × Unit × Unit) ⊕ (((Int × Unit) × Unit × Unit) ⊕ ((Int × Unit) × Unit × Unit))) :=
 let x1 : Bool := decide (x.1.2.2.1 < (x.1.1.length : Int));
 br x1
 (ck (0 ≤ x.1.2.2.1)
 (ck (x.1.2.2.1.toNat < x.1.1.length)
 (let x2 : List (Int × Int) := x.1.1.getD x.1.2.2.1.toNat [];
 (laws_heldMatrixS x2 x.1.2.1).bind fun r3 =>
 let x4 : Bool := decide (r3.1.1 < (0 : Int));
 br x4
 (some (.inr (.inl (((-1 : Int), ()), (), ()))))
 (let x5 : Int := w64 (x.1.2.2.1 + (1 : Int));
 some (.inl ((x.1.1, r3.1.1, x5, ()), (), ()))))))
 (some (.inr (.inr ((x.1.2.1, ()), (), ()))))
def laws_heldMatrixSS_h0 : Sh := ⟨[(0, .c (.rd [] .mats)), (1, .c (.int .i64)), (5, .c (.int .i64))], [], []⟩
def laws_heldMatrixSS_r0 : List Sh := [⟨[(4, .c (.int .i64))], [], []⟩, ⟨[(1, .c (.int .i64))], [], []⟩]
noncomputable def laws_heldMatrixSS_L0 : Lp := ⟨0, [], laws_heldMatrixSS_h0, [], [(.ret, []), (.exit 0, [])], laws_heldMatrixSS_r0, loopC laws_heldMatrixSS_s0⟩
noncomputable def laws_heldMatrixSS (a0 : List (List (Int × Int))) (a1 : Int) : Option ((Int × Unit) × Unit × Unit) :=
 (loopC laws_heldMatrixSS_s0 ((a0, a1, (0 : Int), ()), (), ())).bind fun r6 =>
 sumK r6 (fun y9 =>
 some ((y9.1.1, ()), (), ())) (fun y10 =>
 some ((y10.1.1, ()), (), ()))
noncomputable def laws_heldMatrixSS_C : Ctr := ⟨46, laws_heldMatrixSS_arg, laws_heldMatrixSS_res, fun x => laws_heldMatrixSS x.1.1 x.1.2.1, none⟩
def laws_heldMatrixSS_H : Hint := ⟨[], [], [], fun _ => []⟩
noncomputable def laws_heldMatrixSS_T : List Ctr := [laws_heldMatrixS_C]
noncomputable def laws_heldMatrixSS_Ls : List Lp := [laws_heldMatrixSS_L0]
theorem laws_heldMatrixSS_l0 : ∀ x, laws_heldMatrixSS_s0 x = stepW E0 laws_heldMatrixSS_T laws_heldMatrixSS_Ls laws_heldMatrixSS_H (loopAt (bodyOf Tryz.f46) 0) 0 laws_heldMatrixSS_h0 [] [(.ret, []), (.exit 0, [])] laws_heldMatrixSS_r0 x := fun x => by kernel_rfl
theorem laws_heldMatrixSS_e : ∀ x, laws_heldMatrixSS_C.F x = runBodyW E0 laws_heldMatrixSS_T laws_heldMatrixSS_Ls laws_heldMatrixSS_H 46 Tryz.f46.results.toList (bodyOf Tryz.f46) [] (laws_heldMatrixSS_arg.mk' x) laws_heldMatrixSS_res := fun x => by kernel_rfl
theorem laws_heldMatrixSS_ok : laws_heldMatrixSS_C.Ok E0 := fn_ok (T := laws_heldMatrixSS_T) (h := laws_heldMatrixSS_H) (Ls := laws_heldMatrixSS_Ls) E0_mixed (T_cons laws_heldMatrixS_ok T_nil) Tryz.func46 (bodyOf_some (by kernel_rfl)) (by kernel_rfl) (loops_of (ks := [0]) (by kernel_rfl) ⟨(loop_one (h := laws_heldMatrixSS_H) (own := []) (head := laws_heldMatrixSS_h0) (back := []) (exs := [(.ret, []), (.exit 0, [])]) (res := laws_heldMatrixSS_r0) (step := laws_heldMatrixSS_s0) (by kernel_rfl) laws_heldMatrixSS_l0), trivial⟩) laws_heldMatrixSS_e
def laws_heldMachine_arg : Sh := ⟨[(0, .agg [.str, .rd [] .i64, .rd [] .i64, .rd [] .mats, .int .i64, .int .i64, .int .i64, .int .i64, .rd [] .mat, .rd [] .mat]), (1, .c (.int .i64))], [], []⟩
def laws_heldMachine_res : List Sh := [⟨[(0, .c (.int .i64))], [], []⟩]
noncomputable def laws_heldMachine (a0_0 : ByteArray) (a0_1 : List Int) (a0_2 : List Int) (a0_3 : List (List (Int × Int))) (a0_4 : Int) (a0_5 : Int) (a0_6 : Int) (a0_7 : Int) (a0_8 : List (Int × Int)) (a0_9 : List (Int × Int)) (a1 : Int) : Option ((Int × Unit) × Unit × Unit) :=
 (laws_heldFont a0_0 a0_1 a0_2 a1).bind fun r1 =>
 let x2 : Bool := decide (r1.1.1 < (0 : Int));
 br x2
 (some (((-1 : Int), ()), (), ()))
 ((laws_heldMatrixSS a0_3 r1.1.1).bind fun r3 =>
 let x4 : Bool := decide (r3.1.1 < (0 : Int));
 br x4
 (some (((-1 : Int), ()), (), ()))
 ((laws_heldMatrixS a0_8 r3.1.1).bind fun r5 =>
 let x6 : Bool := decide (r5.1.1 < (0 : Int));
 br x6
 (some (((-1 : Int), ()), (), ()))
 ((laws_heldMatrixS a0_9 r5.1.1).bind fun r7 =>
 let x8 : Bool := decide (r7.1.1 < (0 : Int));
 br x8
 (some (((-1 : Int), ()), (), ()))
 (some ((r7.1.1, ()), (), ())))))
noncomputable def laws_heldMachine_C : Ctr := ⟨22, laws_heldMachine_arg, laws_heldMachine_res, fun x => laws_heldMachine x.1.1.1 x.1.1.2.1 x.1.1.2.2.1 x.1.1.2.2.2.1 x.1.1.2.2.2.2.1 x.1.1.2.2.2.2.2.1 x.1.1.2.2.2.2.2.2.1 x.1.1.2.2.2.2.2.2.2.1 x.1.1.2.2.2.2.2.2.2.2.1 x.1.1.2.2.2.2.2.2.2.2.2.1 x.1.2.1, none⟩
def laws_heldMachine_H : Hint := ⟨[], [], [], fun _ => []⟩
noncomputable def laws_heldMachine_T : List Ctr := [laws_heldFont_C, laws_heldMatrixSS_C, laws_heldMatrixS_C]
noncomputable def laws_heldMachine_Ls : List Lp := []
theorem laws_heldMachine_e : ∀ x, laws_heldMachine_C.F x = runBodyW E0 laws_heldMachine_T laws_heldMachine_Ls laws_heldMachine_H 22 Tryz.f22.results.toList (bodyOf Tryz.f22) [] (laws_heldMachine_arg.mk' x) laws_heldMachine_res := fun x => by kernel_rfl
theorem laws_heldMachine_ok : laws_heldMachine_C.Ok E0 := fn_ok (T := laws_heldMachine_T) (h := laws_heldMachine_H) (Ls := laws_heldMachine_Ls) E0_mixed (T_cons laws_heldFont_ok (T_cons laws_heldMatrixSS_ok (T_cons laws_heldMatrixS_ok T_nil))) Tryz.func22 (bodyOf_some (by kernel_rfl)) (by kernel_rfl) (loops_of (ks := []) (by kernel_rfl) trivial) laws_heldMachine_e
def laws_FnExactCastGalley_arg : Sh := ⟨[(0, .agg [.str, .rd [] .i64, .rd [] .i64, .rd [] .mats, .int .i64, .int .i64, .int .i64, .int .i64, .rd [] .mat, .rd [] .mat]), (1, .c (.rd [] .str))], [], []⟩
def laws_FnExactCastGalley_res : List Sh := [⟨[(0, .c (.bool))], [], []⟩]
noncomputable def laws_FnExactCastGalley (a0_0 : ByteArray) (a0_1 : List Int) (a0_2 : List Int) (a0_3 : List (List (Int × Int))) (a0_4 : Int) (a0_5 : Int) (a0_6 : Int) (a0_7 : Int) (a0_8 : List (Int × Int)) (a0_9 : List (Int × Int)) (a1 : List ByteArray) : Option ((Bool × Unit) × Unit × Unit) :=
 (laws_szMachine a0_0 a0_1 a0_2 a0_3 a0_4 a0_5 a0_6 a0_7 a0_8 a0_9 (1048576 : Int)).bind fun r1 =>
 let x2 : Bool := decide (r1.1.1 < (0 : Int));
 br x2
 (some ((true, ()), (), ()))
 ((laws_szStringS a1 r1.1.1).bind fun r3 =>
 let x4 : Bool := decide (r3.1.1 < (0 : Int));
 br x4
 (some ((true, ()), (), ()))
 ((laws_toMachine a0_0 a0_1 a0_2 a0_3 a0_4 a0_5 a0_6 a0_7 a0_8 a0_9).bind fun r5 =>
 (laws_toStringS a1).bind fun r6 =>
 (spec_CastGalley r5.1.1.1 r5.2.2.1 r5.2.2.2.1 r5.2.2.2.2.1 r5.1.1.2.2.2.2.1 r5.1.1.2.2.2.2.2.1 r5.1.1.2.2.2.2.2.2.1 r5.1.1.2.2.2.2.2.2.2.1 r5.2.2.2.2.2.1 r5.2.2.2.2.2.2.1 r6.2.2.1).bind fun r7 =>
 (laws_toMachine a0_0 a0_1 a0_2 a0_3 a0_4 a0_5 a0_6 a0_7 a0_8 a0_9).bind fun r8 =>
 (laws_toStringS a1).bind fun r9 =>
 (impl_CastGalley r8.1.1.1 r8.2.2.1 r8.2.2.2.1 r8.2.2.2.2.1 r8.1.1.2.2.2.2.1 r8.1.1.2.2.2.2.2.1 r8.1.1.2.2.2.2.2.2.1 r8.1.1.2.2.2.2.2.2.2.1 r8.2.2.2.2.2.1 r8.2.2.2.2.2.2.1 r9.2.2.1).bind fun r10 =>
 (laws_eqMachine r10.1.1.1 r10.2.2.1 r10.2.2.2.1 r10.2.2.2.2.1 r10.1.1.2.2.2.2.1 r10.1.1.2.2.2.2.2.1 r10.1.1.2.2.2.2.2.2.1 r10.1.1.2.2.2.2.2.2.2.1 r10.2.2.2.2.2.1 r10.2.2.2.2.2.2.1 r7.1.1.1 r7.2.2.1 r7.2.2.2.1 r7.2.2.2.2.1 r7.1.1.2.2.2.2.1 r7.1.1.2.2.2.2.2.1 r7.1.1.2.2.2.2.2.2.1 r7.1.1.2.2.2.2.2.2.2.1 r7.2.2.2.2.2.1 r7.2.2.2.2.2.2.1).bind fun r11 =>
 br (!r11.1.1)
 (some ((false, ()), (), ()))
 ((laws_eqIntS r10.2.2.2.2.2.2.2.1 r7.2.2.2.2.2.2.2.1).bind fun r12 =>
 br (!r12.1.1)
 (some ((false, ()), (), ()))
 (let x13 : Bool := r10.1.2.2.1 != r7.1.2.2.1;
 br x13
 (some ((false, ()), (), ()))
 ((laws_toMachine a0_0 a0_1 a0_2 a0_3 a0_4 a0_5 a0_6 a0_7 a0_8 a0_9).bind fun r14 =>
 (laws_eqMachine r8.1.1.1 r8.2.2.1 r8.2.2.2.1 r8.2.2.2.2.1 r8.1.1.2.2.2.2.1 r8.1.1.2.2.2.2.2.1 r8.1.1.2.2.2.2.2.2.1 r8.1.1.2.2.2.2.2.2.2.1 r8.2.2.2.2.2.1 r8.2.2.2.2.2.2.1 r14.1.1.1 r14.2.2.1 r14.2.2.2.1 r14.2.2.2.2.1 r14.1.1.2.2.2.2.1 r14.1.1.2.2.2.2.2.1 r14.1.1.2.2.2.2.2.2.1 r14.1.1.2.2.2.2.2.2.2.1 r14.2.2.2.2.2.1 r14.2.2.2.2.2.2.1).bind fun r15 =>
 br (!r15.1.1)
 (some ((false, ()), (), ()))
 ((laws_toStringS a1).bind fun r16 =>
 (laws_eqStringS r9.2.2.1 r16.2.2.1).bind fun r17 =>
 br (!r17.1.1)
 (some ((false, ()), (), ()))
 ((laws_markMachine r8.1.1.1 r8.1.1.2.2.2.2.1 r8.1.1.2.2.2.2.2.1 r8.1.1.2.2.2.2.2.2.1 r8.1.1.2.2.2.2.2.2.2.1 (1 : Int) r8.2.2.1 r8.2.2.2.1 r8.2.2.2.2.1 r8.2.2.2.2.2.1 r8.2.2.2.2.2.2.1).bind fun r18 =>
 (laws_markStringS r18.1.1 r9.2.2.1).bind fun r19 =>
 let x20 : Bool := decide (r19.1.1 < (0 : Int));
 br x20
 (some ((false, ()), (), ()))
 ((laws_eqMachine r10.1.1.1 r10.2.2.1 r10.2.2.2.1 r10.2.2.2.2.1 r10.1.1.2.2.2.2.1 r10.1.1.2.2.2.2.2.1 r10.1.1.2.2.2.2.2.2.1 r10.1.1.2.2.2.2.2.2.2.1 r10.2.2.2.2.2.1 r10.2.2.2.2.2.2.1 r7.1.1.1 r7.2.2.1 r7.2.2.2.1 r7.2.2.2.2.1 r7.1.1.2.2.2.2.1 r7.1.1.2.2.2.2.2.1 r7.1.1.2.2.2.2.2.2.1 r7.1.1.2.2.2.2.2.2.2.1 r7.2.2.2.2.2.1 r7.2.2.2.2.2.2.1).bind fun r21 =>
 br (!r21.1.1)
 (some ((false, ()), (), ()))
 ((laws_eqIntS r10.2.2.2.2.2.2.2.1 r7.2.2.2.2.2.2.2.1).bind fun r22 =>
 br (!r22.1.1)
 (some ((false, ()), (), ()))
 (br x13
 (some ((false, ()), (), ()))
 ((laws_markMachine r10.1.1.1 r10.1.1.2.2.2.2.1 r10.1.1.2.2.2.2.2.1 r10.1.1.2.2.2.2.2.2.1 r10.1.1.2.2.2.2.2.2.2.1 (1 : Int) r10.2.2.1 r10.2.2.2.1 r10.2.2.2.2.1 r10.2.2.2.2.2.1 r10.2.2.2.2.2.2.1).bind fun r23 =>
 (laws_markIntS r23.1.1 r10.2.2.2.2.2.2.2.1).bind fun r24 =>
 (laws_heldMachine r10.1.1.1 r23.2.2.1 r23.2.2.2.1 r23.2.2.2.2.1 r10.1.1.2.2.2.2.1 r10.1.1.2.2.2.2.2.1 r10.1.1.2.2.2.2.2.2.1 r10.1.1.2.2.2.2.2.2.2.1 r23.2.2.2.2.2.1 r23.2.2.2.2.2.2.1 (1 : Int)).bind fun r25 =>
 let x26 : Bool := decide (r25.1.1 < (0 : Int));
 br x26
 (some ((false, ()), (), ()))
 ((laws_heldIntS r24.2.2.1 r25.1.1).bind fun r27 =>
 let x28 : Bool := decide (r27.1.1 < (0 : Int));
 br x28
 (some ((false, ()), (), ()))
 (let x29 : Bool := r27.1.1 != r24.1.1;
 br x29
 (some ((false, ()), (), ()))
 ((laws_toMachine a0_0 a0_1 a0_2 a0_3 a0_4 a0_5 a0_6 a0_7 a0_8 a0_9).bind fun r30 =>
 (laws_toStringS a1).bind fun r31 =>
 (impl_CastGalley r30.1.1.1 r30.2.2.1 r30.2.2.2.1 r30.2.2.2.2.1 r30.1.1.2.2.2.2.1 r30.1.1.2.2.2.2.2.1 r30.1.1.2.2.2.2.2.2.1 r30.1.1.2.2.2.2.2.2.2.1 r30.2.2.2.2.2.1 r30.2.2.2.2.2.2.1 r31.2.2.1).bind fun r32 =>
 (laws_eqMachine r32.1.1.1 r32.2.2.1 r32.2.2.2.1 r32.2.2.2.2.1 r32.1.1.2.2.2.2.1 r32.1.1.2.2.2.2.2.1 r32.1.1.2.2.2.2.2.2.1 r32.1.1.2.2.2.2.2.2.2.1 r32.2.2.2.2.2.1 r32.2.2.2.2.2.2.1 r7.1.1.1 r7.2.2.1 r7.2.2.2.1 r7.2.2.2.2.1 r7.1.1.2.2.2.2.1 r7.1.1.2.2.2.2.2.1 r7.1.1.2.2.2.2.2.2.1 r7.1.1.2.2.2.2.2.2.2.1 r7.2.2.2.2.2.1 r7.2.2.2.2.2.2.1).bind fun r33 =>
 br (!r33.1.1)
 (some ((false, ()), (), ()))
 ((laws_eqIntS r32.2.2.2.2.2.2.2.1 r7.2.2.2.2.2.2.2.1).bind fun r34 =>
 br (!r34.1.1)
 (some ((false, ()), (), ()))
 (let x35 : Bool := r32.1.2.2.1 != r7.1.2.2.1;
 br x35
 (some ((false, ()), (), ()))
 ((laws_heldMachine r10.1.1.1 r23.2.2.1 r23.2.2.2.1 r23.2.2.2.2.1 r10.1.1.2.2.2.2.1 r10.1.1.2.2.2.2.2.1 r10.1.1.2.2.2.2.2.2.1 r10.1.1.2.2.2.2.2.2.2.1 r23.2.2.2.2.2.1 r23.2.2.2.2.2.2.1 (1 : Int)).bind fun r36 =>
 let x37 : Bool := decide (r36.1.1 < (0 : Int));
 br x37
 (some ((false, ()), (), ()))
 ((laws_heldIntS r24.2.2.1 r36.1.1).bind fun r38 =>
 let x39 : Bool := decide (r38.1.1 < (0 : Int));
 br x39
 (some ((false, ()), (), ()))
 (let x40 : Bool := r38.1.1 != r24.1.1;
 br x40
 (some ((false, ()), (), ()))
 (some ((true, ()), (), ())))))))))))))))))))))
noncomputable def laws_FnExactCastGalley_C : Ctr := ⟨4, laws_FnExactCastGalley_arg, laws_FnExactCastGalley_res, fun x => laws_FnExactCastGalley x.1.1.1 x.1.1.2.1 x.1.1.2.2.1 x.1.1.2.2.2.1 x.1.1.2.2.2.2.1 x.1.1.2.2.2.2.2.1 x.1.1.2.2.2.2.2.2.1 x.1.1.2.2.2.2.2.2.2.1 x.1.1.2.2.2.2.2.2.2.2.1 x.1.1.2.2.2.2.2.2.2.2.2.1 x.1.2.1, none⟩
def laws_FnExactCastGalley_H : Hint := ⟨[], [], [], fun _ => []⟩
noncomputable def laws_FnExactCastGalley_T : List Ctr := [laws_szMachine_C, laws_szStringS_C, laws_toMachine_C, laws_toStringS_C, spec_CastGalley_C, impl_CastGalley_C, laws_eqMachine_C, laws_eqIntS_C, laws_eqStringS_C, laws_markMachine_C, laws_markStringS_C, laws_markIntS_C, laws_heldMachine_C, laws_heldIntS_C]
noncomputable def laws_FnExactCastGalley_Ls : List Lp := []
theorem laws_FnExactCastGalley_e : ∀ x, laws_FnExactCastGalley_C.F x = runBodyW E0 laws_FnExactCastGalley_T laws_FnExactCastGalley_Ls laws_FnExactCastGalley_H 4 Tryz.f4.results.toList (bodyOf Tryz.f4) [] (laws_FnExactCastGalley_arg.mk' x) laws_FnExactCastGalley_res := fun x => by kernel_rfl
theorem laws_FnExactCastGalley_ok : laws_FnExactCastGalley_C.Ok E0 := fn_ok (T := laws_FnExactCastGalley_T) (h := laws_FnExactCastGalley_H) (Ls := laws_FnExactCastGalley_Ls) E0_mixed (T_cons laws_szMachine_ok (T_cons laws_szStringS_ok (T_cons laws_toMachine_ok (T_cons laws_toStringS_ok (T_cons spec_CastGalley_ok (T_cons impl_CastGalley_ok (T_cons laws_eqMachine_ok (T_cons laws_eqIntS_ok (T_cons laws_eqStringS_ok (T_cons laws_markMachine_ok (T_cons laws_markStringS_ok (T_cons laws_markIntS_ok (T_cons laws_heldMachine_ok (T_cons laws_heldIntS_ok T_nil)))))))))))))) Tryz.func4 (bodyOf_some (by kernel_rfl)) (by kernel_rfl) (loops_of (ks := []) (by kernel_rfl) trivial) laws_FnExactCastGalley_e
end Go.Tree
