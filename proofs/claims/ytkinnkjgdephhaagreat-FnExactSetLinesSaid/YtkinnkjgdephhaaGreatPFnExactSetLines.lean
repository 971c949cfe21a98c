/- What each function that the law FnExactSetLines reaches computes, as a plain function, and the proof that the program's code computes it. No condition but the function's own answer. -/
import Derived.Test.YtkinnkjgdephhaaGreatPFnExactSetLinesa
namespace Go.Tree
open Go Go.Proofs
set_option linter.unusedVariables false
set_option maxRecDepth 100000
def impl_IsFull_arg : Sh := ⟨[(0, .agg [.int .i64, .int .i64, .int .i64]), (1, .c (.rd [] .i64))], [], []⟩
def impl_IsFull_res : List Sh := [⟨[(0, .c (.bool))], [], []⟩]
noncomputable def impl_IsFull (a0_0 : Int) (a0_1 : Int) (a0_2 : Int) (a1 : List Int) : Option ((Bool × Unit) × Unit × Unit) :=
 (impl_lettersAndBands a1).bind fun r1 =>
 (impl_MeasureOk a0_0 a0_1 a0_2).bind fun r2 =>
 br r2.1.1
 ((impl_LineOk a1).bind fun r3 =>
 br r3.1.1
 ((impl_full a0_0 a0_1 a0_2 r1.1.1 r1.1.2.1).bind fun r4 =>
 some ((r4.1.1, ()), (), ()))
 (some ((false, ()), (), ())))
 (some ((false, ()), (), ()))
noncomputable def impl_IsFull_C : Ctr := ⟨71, impl_IsFull_arg, impl_IsFull_res, fun x => impl_IsFull x.1.1.1 x.1.1.2.1 x.1.1.2.2.1 x.1.2.1, none⟩
def impl_IsFull_H : Hint := ⟨[], [], [], fun _ => []⟩
noncomputable def impl_IsFull_T : List Ctr := [impl_lettersAndBands_C, impl_MeasureOk_C, impl_LineOk_C, impl_full_C]
noncomputable def impl_IsFull_Ls : List Lp := []
theorem impl_IsFull_e : ∀ x, impl_IsFull_C.F x = runBodyW E0 impl_IsFull_T impl_IsFull_Ls impl_IsFull_H 71 Tryz.f71.results.toList (bodyOf Tryz.f71) [] (impl_IsFull_arg.mk' x) impl_IsFull_res := fun x => by kernel_rfl
theorem impl_IsFull_ok : impl_IsFull_C.Ok E0 := fn_ok (T := impl_IsFull_T) (h := impl_IsFull_H) (Ls := impl_IsFull_Ls) E0_mixed (T_cons impl_lettersAndBands_ok (T_cons impl_MeasureOk_ok (T_cons impl_LineOk_ok (T_cons impl_full_ok T_nil)))) Tryz.func71 (bodyOf_some (by kernel_rfl)) (by kernel_rfl) (loops_of (ks := []) (by kernel_rfl) trivial) impl_IsFull_e
def impl_LineText_arg : Sh := ⟨[(0, .agg [.str, .rd [] .i64, .rd [] .i64, .rd [] .mats, .int .i64, .int .i64, .int .i64, .int .i64, .rd [] .mat, .rd [] .mat])], [], []⟩
def impl_LineText_res : List Sh := [⟨[(0, .c (.str))], [], []⟩]
noncomputable def impl_LineText_s0 (x : (Unit × Unit × List (Int × Int) × Int × Int × Unit) × ((ByteArray × List Int × List Int × List (List (Int × Int)) × Int × Int × Int × Int × List (Int × Int) × List (Int × Int) × Unit) × Unit) × (List Int × Unit)) : Option (((Unit × Unit × List (Int × Int) × Int × Int × Unit) × ((ByteArray × List Int × List Int × List (List (Int × Int)) × Int × Int × Int × Int × List (Int × Int) × List (Int × Int) × Unit) × Unit) × (List Int × Unit)) ⊕ ((Unit × Unit) × Unit × (List Int × Unit))) :=
 let x2 : Bool := decide (x.1.2.2.2.2.1 < x.1.2.2.2.1);
 br x2
 (ck (0 ≤ x.1.2.2.2.2.1)
 (ck (x.1.2.2.2.2.1.toNat < x.1.2.2.1.length)
 (let x3 : Int × Int := x.1.2.2.1.getD x.1.2.2.2.2.1.toNat (0, 0);
 (impl_isBand x3.1 x3.2).bind fun r4 =>
 br r4.1.1
 (ck ((x.2.2.1.length + [(32 : Int)].length) * 1 ≤ 140737488355328 ∧ (x.2.2.1.length + [(32 : Int)].length) ≤ 9223372036854775807)
 (let x5 : List Int := x.2.2.1 ++ [(32 : Int)];
 let x6 : Int := w64 (x.1.2.2.2.2.1 + (1 : Int));
 some (.inl (((), (), x.1.2.2.1, x.1.2.2.2.1, x6, ()), ((x.2.1.1.1, x.2.1.1.2.1, x.2.1.1.2.2.1, x.2.1.1.2.2.2.1, x.2.1.1.2.2.2.2.1, x.2.1.1.2.2.2.2.2.1, x.2.1.1.2.2.2.2.2.2.1, x.2.1.1.2.2.2.2.2.2.2.1, x.2.1.1.2.2.2.2.2.2.2.2.1, x.2.1.1.2.2.2.2.2.2.2.2.2.1, ()), ()), (x5, ())))))
 (ck (0 ≤ x3.1 ∧ x3.1.toNat < x.2.1.1.1.size)
 (let x7 : Int := byteAt x.2.1.1.1 x3.1.toNat;
 ck ((x.2.2.1.length + [x7].length) * 1 ≤ 140737488355328 ∧ (x.2.2.1.length + [x7].length) ≤ 9223372036854775807)
 (let x8 : List Int := x.2.2.1 ++ [x7];
 let x9 : Int := w64 (x.1.2.2.2.2.1 + (1 : Int));
 some (.inl (((), (), x.1.2.2.1, x.1.2.2.2.1, x9, ()), ((x.2.1.1.1, x.2.1.1.2.1, x.2.1.1.2.2.1, x.2.1.1.2.2.2.1, x.2.1.1.2.2.2.2.1, x.2.1.1.2.2.2.2.2.1, x.2.1.1.2.2.2.2.2.2.1, x.2.1.1.2.2.2.2.2.2.2.1, x.2.1.1.2.2.2.2.2.2.2.2.1, x.2.1.1.2.2.2.2.2.2.2.2.2.1, ()), ()), (x8, ())))))))))
 (some (.inr (((), ()), (), (x.2.2.1, ()))))
def impl_LineText_h0 : Sh := ⟨[(1, .c (.box 0 0)), (3, .c (.own 0)), (11, .c (.rd [] .mat)), (12, .c (.int .i64)), (13, .c (.int .i64))], [(0, .cells [.str, .rd [] .i64, .rd [] .i64, .rd [] .mats, .int .i64, .int .i64, .int .i64, .int .i64, .rd [] .mat, .rd [] .mat])], [(0, .u8)]⟩
def impl_LineText_r0 : List Sh := [⟨[(3, .c (.own 0))], [], [(0, .u8)]⟩]
noncomputable def impl_LineText_L0 : Lp := ⟨0, [], impl_LineText_h0, [], [(.exit 0, [])], impl_LineText_r0, loopC impl_LineText_s0⟩
noncomputable def impl_LineText (a0_0 : ByteArray) (a0_1 : List Int) (a0_2 : List Int) (a0_3 : List (List (Int × Int))) (a0_4 : Int) (a0_5 : Int) (a0_6 : Int) (a0_7 : Int) (a0_8 : List (Int × Int)) (a0_9 : List (Int × Int)) : Option ((ByteArray × Unit) × Unit × Unit) :=
 (impl_MachineOk a0_0 a0_1 a0_2 a0_3 a0_4 a0_5 a0_6 a0_7 a0_8 a0_9).bind fun r1 =>
 br (!r1.1.1)
 (some ((ByteArray.empty, ()), (), ()))
 ((loopC impl_LineText_s0 (((), (), a0_8, (a0_8.length : Int), (0 : Int), ()), ((a0_0, a0_1, a0_2, a0_3, a0_4, a0_5, a0_6, a0_7, a0_8, a0_9, ()), ()), ([], ()))).bind fun r10 =>
 let x11 : ByteArray := ofBytes r10.2.2.1;
 some ((x11, ()), (), ()))
noncomputable def impl_LineText_C : Ctr := ⟨73, impl_LineText_arg, impl_LineText_res, fun x => impl_LineText x.1.1.1 x.1.1.2.1 x.1.1.2.2.1 x.1.1.2.2.2.1 x.1.1.2.2.2.2.1 x.1.1.2.2.2.2.2.1 x.1.1.2.2.2.2.2.2.1 x.1.1.2.2.2.2.2.2.2.1 x.1.1.2.2.2.2.2.2.2.2.1 x.1.1.2.2.2.2.2.2.2.2.2.1, none⟩
def impl_LineText_H : Hint := ⟨[], [], [], fun _ => []⟩
noncomputable def impl_LineText_T : List Ctr := [impl_MachineOk_C, impl_isBand_C]
noncomputable def impl_LineText_Ls : List Lp := [impl_LineText_L0]
theorem impl_LineText_l0 : ∀ x, impl_LineText_s0 x = stepW E0 impl_LineText_T impl_LineText_Ls impl_LineText_H (loopAt (bodyOf Tryz.f73) 0) 0 impl_LineText_h0 [] [(.exit 0, [])] impl_LineText_r0 x := fun x => by kernel_rfl
theorem impl_LineText_e : ∀ x, impl_LineText_C.F x = runBodyW E0 impl_LineText_T impl_LineText_Ls impl_LineText_H 73 Tryz.f73.results.toList (bodyOf Tryz.f73) [] (impl_LineText_arg.mk' x) impl_LineText_res := fun x => by kernel_rfl
theorem impl_LineText_ok : impl_LineText_C.Ok E0 := fn_ok (T := impl_LineText_T) (h := impl_LineText_H) (Ls := impl_LineText_Ls) E0_mixed (T_cons impl_MachineOk_ok (T_cons impl_isBand_ok T_nil)) Tryz.func73 (bodyOf_some (by kernel_rfl)) (by kernel_rfl) (loops_of (ks := [0]) (by kernel_rfl) ⟨(loop_one (h := impl_LineText_H) (own := []) (head := impl_LineText_h0) (back := []) (exs := [(.exit 0, [])]) (res := impl_LineText_r0) (step := impl_LineText_s0) (by kernel_rfl) impl_LineText_l0), trivial⟩) impl_LineText_e
def impl_BandWidths_arg : Sh := ⟨[(0, .agg [.int .i64, .int .i64, .int .i64]), (1, .c (.rd [] .i64))], [], []⟩
def impl_BandWidths_res : List Sh := [⟨[(0, .c (.own 0))], [], [(0, .i64)]⟩]
noncomputable def impl_BandWidths_s0 (x : (Unit × Int × Int × Unit × List Int × Int × Int × Unit) × ((Int × Int × Int × Unit) × Unit) × (List Int × Unit)) : Option (((Unit × Int × Int × Unit × List Int × Int × Int × Unit) × ((Int × Int × Int × Unit) × Unit) × (List Int × Unit)) ⊕ ((Unit × Unit) × Unit × (List Int × Unit))) :=
 let x3 : Bool := decide (x.1.2.2.2.2.2.2.1 < x.1.2.2.2.2.2.1);
 br x3
 (ck (0 ≤ x.1.2.2.2.2.2.2.1)
 (ck (x.1.2.2.2.2.2.2.1.toNat < x.1.2.2.2.2.1.length)
 (let x4 : Int := x.1.2.2.2.2.1.getD x.1.2.2.2.2.2.2.1.toNat 0;
 let x5 : Bool := decide (x4 > (0 : Int));
 br x5
 (let x6 : Int := w64 (x.1.2.2.2.2.2.2.1 + (1 : Int));
 some (.inl (((), x.1.2.1, x.1.2.2.1, (), x.1.2.2.2.2.1, x.1.2.2.2.2.2.1, x6, ()), ((x.2.1.1.1, x.2.1.1.2.1, x.2.1.1.2.2.1, ()), ()), (x.2.2.1, ()))))
 (let x7 : Int := w64 (x.2.1.1.2.1 + x.1.2.1);
 let x8 : Bool := decide ((x.2.2.1.length : Int) < x.1.2.2.1);
 br x8
 (let x9 : Int := w64 (x7 + (1 : Int));
 ck ((x.2.2.1.length + [x9].length) * 8 ≤ 140737488355328 ∧ (x.2.2.1.length + [x9].length) ≤ 9223372036854775807)
 (let x10 : List Int := x.2.2.1 ++ [x9];
 let x11 : Int := w64 (x.1.2.2.2.2.2.2.1 + (1 : Int));
 some (.inl (((), x.1.2.1, x.1.2.2.1, (), x.1.2.2.2.2.1, x.1.2.2.2.2.2.1, x11, ()), ((x.2.1.1.1, x.2.1.1.2.1, x.2.1.1.2.2.1, ()), ()), (x10, ())))))
 (ck ((x.2.2.1.length + [x7].length) * 8 ≤ 140737488355328 ∧ (x.2.2.1.length + [x7].length) ≤ 9223372036854775807)
 (let x12 : List Int := x.2.2.1 ++ [x7];
 let x13 : Int := w64 (x.1.2.2.2.2.2.2.1 + (1 : Int));
 some (.inl (((), x.1.2.1, x.1.2.2.1, (), x.1.2.2.2.2.1, x.1.2.2.2.2.2.1, x13, ()), ((x.2.1.1.1, x.2.1.1.2.1, x.2.1.1.2.2.1, ()), ()), (x12, ())))))))))
 (some (.inr (((), ()), (), (x.2.2.1, ()))))
def impl_BandWidths_h0 : Sh := ⟨[(2, .c (.box 0 0)), (5, .c (.int .i64)), (8, .c (.int .i64)), (9, .c (.own 0)), (27, .c (.rd [] .i64)), (28, .c (.int .i64)), (29, .c (.int .i64))], [(0, .cells [.int .i64, .int .i64, .int .i64])], [(0, .i64)]⟩
def impl_BandWidths_r0 : List Sh := [⟨[(9, .c (.own 0))], [], [(0, .i64)]⟩]
noncomputable def impl_BandWidths_L0 : Lp := ⟨0, [], impl_BandWidths_h0, [], [(.exit 0, [])], impl_BandWidths_r0, loopC impl_BandWidths_s0⟩
noncomputable def impl_BandWidths (a0_0 : Int) (a0_1 : Int) (a0_2 : Int) (a1 : List Int) : Option ((Unit × Unit) × Unit × (List Int × Unit)) :=
 (impl_SpreadLine a0_0 a0_1 a0_2 a1).bind fun r1 =>
 br (!r1.1.2.2.1)
 (some (((), ()), (), ([], ())))
 ((impl_IsFull a0_0 a0_1 a0_2 a1).bind fun r2 =>
 br r2.1.1
 ((loopC impl_BandWidths_s0 (((), r1.1.1, r1.1.2.1, (), a1, (a1.length : Int), (0 : Int), ()), ((a0_0, a0_1, a0_2, ()), ()), ([], ()))).bind fun r14 =>
 some (((), ()), (), (r14.2.2.1, ())))
 ((loopC impl_BandWidths_s0 (((), r1.1.1, (0 : Int), (), a1, (a1.length : Int), (0 : Int), ()), ((a0_0, a0_1, a0_2, ()), ()), ([], ()))).bind fun r15 =>
 some (((), ()), (), (r15.2.2.1, ()))))
noncomputable def impl_BandWidths_C : Ctr := ⟨100, impl_BandWidths_arg, impl_BandWidths_res, fun x => impl_BandWidths x.1.1.1 x.1.1.2.1 x.1.1.2.2.1 x.1.2.1, none⟩
def impl_BandWidths_H : Hint := ⟨[], [], [], fun _ => []⟩
noncomputable def impl_BandWidths_T : List Ctr := [impl_SpreadLine_C, impl_IsFull_C]
noncomputable def impl_BandWidths_Ls : List Lp := [impl_BandWidths_L0]
theorem impl_BandWidths_l0 : ∀ x, impl_BandWidths_s0 x = stepW E0 impl_BandWidths_T impl_BandWidths_Ls impl_BandWidths_H (loopAt (bodyOf Tryz.f100) 0) 0 impl_BandWidths_h0 [] [(.exit 0, [])] impl_BandWidths_r0 x := fun x => by kernel_rfl
theorem impl_BandWidths_e : ∀ x, impl_BandWidths_C.F x = runBodyW E0 impl_BandWidths_T impl_BandWidths_Ls impl_BandWidths_H 100 Tryz.f100.results.toList (bodyOf Tryz.f100) [(.tm 4, 6000000, .i64)] (impl_BandWidths_arg.mk' x) impl_BandWidths_res := fun x => by kernel_rfl
theorem impl_BandWidths_ok : impl_BandWidths_C.Ok E0 := fn_ok (T := impl_BandWidths_T) (h := impl_BandWidths_H) (Ls := impl_BandWidths_Ls) E0_mixed (T_cons impl_SpreadLine_ok (T_cons impl_IsFull_ok T_nil)) Tryz.func100 (bodyOf_some (by kernel_rfl)) (by kernel_rfl) (loops_of (ks := [0]) (by kernel_rfl) ⟨(loop_one (h := impl_BandWidths_H) (own := []) (head := impl_BandWidths_h0) (back := []) (exs := [(.exit 0, [])]) (res := impl_BandWidths_r0) (step := impl_BandWidths_s0) (by kernel_rfl) impl_BandWidths_l0), trivial⟩) impl_BandWidths_e
def impl_PlacesOf_arg : Sh := ⟨[(0, .agg [.int .i64, .int .i64, .int .i64]), (1, .c (.rd [] .i64))], [], []⟩
def impl_PlacesOf_res : List Sh := [⟨[(0, .c (.own 0))], [], [(0, .i64)]⟩]
noncomputable def impl_PlacesOf_s0 (x : (List Int × Unit × Int × List Int × Int × Int × Unit) × Unit × (List Int × List Int × Unit)) : Option (((List Int × Unit × Int × List Int × Int × Int × Unit) × Unit × (List Int × List Int × Unit)) ⊕ ((Unit × Unit) × Unit × (List Int × Unit))) :=
 let x3 : Bool := decide (x.1.2.2.2.2.2.1 < x.1.2.2.2.2.1);
 br x3
 (ck (0 ≤ x.1.2.2.2.2.2.1)
 (ck (x.1.2.2.2.2.2.1.toNat < x.1.2.2.2.1.length)
 (let x4 : Int := x.1.2.2.2.1.getD x.1.2.2.2.2.2.1.toNat 0;
 ck ((x.2.2.2.1.length + [x.1.2.2.1].length) * 8 ≤ 140737488355328 ∧ (x.2.2.2.1.length + [x.1.2.2.1].length) ≤ 9223372036854775807)
 (let x5 : List Int := x.2.2.2.1 ++ [x.1.2.2.1];
 let x6 : Bool := x4 == (0 : Int);
 br x6
 (ck (0 < x.1.1.length)
 (let x7 : Int := x.1.1.getD 0 0;
 ck (1 ≤ x.1.1.length ∧ x.1.1.length ≤ x.1.1.length)
 (let x8 : List Int := cut x.1.1 1 x.1.1.length;
 let x9 : Int := w64 (x.1.2.2.1 + x7);
 let x10 : Int := w64 (x.1.2.2.2.2.2.1 + (1 : Int));
 some (.inl ((x8, (), x9, x.1.2.2.2.1, x.1.2.2.2.2.1, x10, ()), (), (x.2.2.1, x5, ()))))))
 (let x11 : Int := w64 (x.1.2.2.1 + x4);
 let x12 : Int := w64 (x.1.2.2.2.2.2.1 + (1 : Int));
 some (.inl ((x.1.1, (), x11, x.1.2.2.2.1, x.1.2.2.2.2.1, x12, ()), (), (x.2.2.1, x5, ()))))))))
 (some (.inr (((), ()), (), (x.2.2.2.1, ()))))
def impl_PlacesOf_h0 : Sh := ⟨[(5, .c (.rd [0] .i64)), (6, .c (.own 1)), (7, .c (.int .i64)), (18, .c (.rd [] .i64)), (19, .c (.int .i64)), (20, .c (.int .i64))], [], [(0, .i64), (1, .i64)]⟩
def impl_PlacesOf_r0 : List Sh := [⟨[(6, .c (.own 0))], [], [(0, .i64)]⟩]
noncomputable def impl_PlacesOf_L0 : Lp := ⟨0, [], impl_PlacesOf_h0, [], [(.exit 0, [])], impl_PlacesOf_r0, loopC impl_PlacesOf_s0⟩
noncomputable def impl_PlacesOf (a0_0 : Int) (a0_1 : Int) (a0_2 : Int) (a1 : List Int) : Option ((Unit × Unit) × Unit × (List Int × Unit)) :=
 (impl_fits a0_0 a0_1 a0_2 a1).bind fun r1 =>
 br (!r1.1.1)
 (some (((), ()), (), ([], ())))
 ((impl_BandWidths a0_0 a0_1 a0_2 a1).bind fun r2 =>
 (loopC impl_PlacesOf_s0 ((r2.2.2.1, (), (0 : Int), a1, (a1.length : Int), (0 : Int), ()), (), (r2.2.2.1, [], ()))).bind fun r13 =>
 some (((), ()), (), (r13.2.2.1, ())))
noncomputable def impl_PlacesOf_C : Ctr := ⟨74, impl_PlacesOf_arg, impl_PlacesOf_res, fun x => impl_PlacesOf x.1.1.1 x.1.1.2.1 x.1.1.2.2.1 x.1.2.1, none⟩
def impl_PlacesOf_H : Hint := ⟨[], [], [], fun _ => []⟩
noncomputable def impl_PlacesOf_T : List Ctr := [impl_fits_C, impl_BandWidths_C]
noncomputable def impl_PlacesOf_Ls : List Lp := [impl_PlacesOf_L0]
theorem impl_PlacesOf_l0 : ∀ x, impl_PlacesOf_s0 x = stepW E0 impl_PlacesOf_T impl_PlacesOf_Ls impl_PlacesOf_H (loopAt (bodyOf Tryz.f74) 0) 0 impl_PlacesOf_h0 [] [(.exit 0, [])] impl_PlacesOf_r0 x := fun x => by kernel_rfl
theorem impl_PlacesOf_e : ∀ x, impl_PlacesOf_C.F x = runBodyW E0 impl_PlacesOf_T impl_PlacesOf_Ls impl_PlacesOf_H 74 Tryz.f74.results.toList (bodyOf Tryz.f74) [(.tm 4, 6000000, .i64)] (impl_PlacesOf_arg.mk' x) impl_PlacesOf_res := fun x => by kernel_rfl
theorem impl_PlacesOf_ok : impl_PlacesOf_C.Ok E0 := fn_ok (T := impl_PlacesOf_T) (h := impl_PlacesOf_H) (Ls := impl_PlacesOf_Ls) E0_mixed (T_cons impl_fits_ok (T_cons impl_BandWidths_ok T_nil)) Tryz.func74 (bodyOf_some (by kernel_rfl)) (by kernel_rfl) (loops_of (ks := [0]) (by kernel_rfl) ⟨(loop_one (h := impl_PlacesOf_H) (own := []) (head := impl_PlacesOf_h0) (back := []) (exs := [(.exit 0, [])]) (res := impl_PlacesOf_r0) (step := impl_PlacesOf_s0) (by kernel_rfl) impl_PlacesOf_l0), trivial⟩) impl_PlacesOf_e
def impl_CastLine_arg : Sh := ⟨[(0, .agg [.str, .rd [] .i64, .rd [] .i64, .rd [] .mats, .int .i64, .int .i64, .int .i64, .int .i64, .rd [] .mat, .rd [] .mat]), (1, .c (.bool))], [], []⟩
def impl_CastLine_res : List Sh := [⟨[(0, .agg [.str, .own 0, .own 1, .own 2, .int .i64, .int .i64, .int .i64, .int .i64, .nil, .own 3]), (1, .c (.str)), (2, .c (.own 4)), (3, .c (.bool))], [], [(0, .i64), (1, .i64), (2, .mats), (3, .mat), (4, .i64)]⟩]
noncomputable def impl_CastLine_s0 (x : (Unit × Unit × ByteArray × Unit × Unit × Int × Int × Unit) × ((ByteArray × Unit × Unit × Unit × Int × Int × Int × Int × Unit × Unit × Unit) × (ByteArray × Unit × Unit × Unit × Int × Int × Int × Int × Unit × Unit × Unit) × Unit) × (List Int × List (Int × Int) × List Int × List Int × List (List (Int × Int)) × List (Int × Int) × Unit)) : Option (((Unit × Unit × ByteArray × Unit × Unit × Int × Int × Unit) × ((ByteArray × Unit × Unit × Unit × Int × Int × Int × Int × Unit × Unit × Unit) × (ByteArray × Unit × Unit × Unit × Int × Int × Int × Int × Unit × Unit × Unit) × Unit) × (List Int × List (Int × Int) × List Int × List Int × List (List (Int × Int)) × List (Int × Int) × Unit)) ⊕ ((Unit × Unit × ByteArray × Unit × Unit) × ((ByteArray × Unit × Unit × Unit × Int × Int × Int × Int × Unit × Unit × Unit) × (ByteArray × Unit × Unit × Unit × Int × Int × Int × Int × Unit × Unit × Unit) × Unit) × (List Int × List Int × List Int × List (List (Int × Int)) × List (Int × Int) × List (Int × Int) × Unit))) :=
 let x9 : Bool := decide (x.1.2.2.2.2.2.2.1 < x.1.2.2.2.2.2.1);
 br x9
 (ck (0 ≤ x.1.2.2.2.2.2.2.1)
 (ck (x.1.2.2.2.2.2.2.1.toNat < x.2.2.2.1.length)
 (ck (x.1.2.2.2.2.2.2.1.toNat < x.2.2.2.1.length)
 (let x10 : Int := (x.2.2.2.1.getD x.1.2.2.2.2.2.2.1.toNat (0, 0)).1;
 let x11 : Int := (x.2.2.2.1.getD x.1.2.2.2.2.2.2.1.toNat (0, 0)).2;
 (impl_isBand x10 x11).bind fun r12 =>
 br r12.1.1
 (let x13 : Int := w64 (x.2.1.1.2.2.2.2.1 + (1 : Int));
 let x14 : Int := w64 (x.1.2.2.2.2.2.2.1 + (1 : Int));
 some (.inl (((), (), x.1.2.2.1, (), (), x.1.2.2.2.2.2.1, x14, ()), ((x.2.1.1.1, (), (), (), x13, x.2.1.1.2.2.2.2.2.1, x.2.1.1.2.2.2.2.2.2.1, x.2.1.1.2.2.2.2.2.2.2.1, (), (), ()), (x.2.1.2.1.1, (), (), (), x.2.1.2.1.2.2.2.2.1, x.2.1.2.1.2.2.2.2.2.1, x.2.1.2.1.2.2.2.2.2.2.1, x.2.1.2.1.2.2.2.2.2.2.2.1, (), (), ()), ()), (x.2.2.1, x.2.2.2.1, x.2.2.2.2.1, x.2.2.2.2.2.1, x.2.2.2.2.2.2.1, x.2.2.2.2.2.2.2.1, ()))))
 (ck ((x.2.2.2.2.2.2.2.1.length + [(x10, x11)].length) * 16 ≤ 140737488355328 ∧ (x.2.2.2.2.2.2.2.1.length + [(x10, x11)].length) ≤ 9223372036854775807)
 (let x15 : List (Int × Int) := x.2.2.2.2.2.2.2.1 ++ [(x10, x11)];
 let x16 : Int := w64 (x.1.2.2.2.2.2.2.1 + (1 : Int));
 some (.inl (((), (), x.1.2.2.1, (), (), x.1.2.2.2.2.2.1, x16, ()), ((x.2.1.1.1, (), (), (), x.2.1.1.2.2.2.2.1, x.2.1.1.2.2.2.2.2.1, x.2.1.1.2.2.2.2.2.2.1, x.2.1.1.2.2.2.2.2.2.2.1, (), (), ()), (x.2.1.2.1.1, (), (), (), x.2.1.2.1.2.2.2.2.1, x.2.1.2.1.2.2.2.2.2.1, x.2.1.2.1.2.2.2.2.2.2.1, x.2.1.2.1.2.2.2.2.2.2.2.1, (), (), ()), ()), (x.2.2.1, x.2.2.2.1, x.2.2.2.2.1, x.2.2.2.2.2.1, x.2.2.2.2.2.2.1, x15, ())))))))))
 (some (.inr (((), (), x.1.2.2.1, (), ()), ((x.2.1.1.1, (), (), (), x.2.1.1.2.2.2.2.1, x.2.1.1.2.2.2.2.2.1, x.2.1.1.2.2.2.2.2.2.1, x.2.1.1.2.2.2.2.2.2.2.1, (), (), ()), (x.2.1.2.1.1, (), (), (), x.2.1.2.1.2.2.2.2.1, x.2.1.2.1.2.2.2.2.2.1, x.2.1.2.1.2.2.2.2.2.2.1, x.2.1.2.1.2.2.2.2.2.2.2.1, (), (), ()), ()), (x.2.2.1, x.2.2.2.2.1, x.2.2.2.2.2.1, x.2.2.2.2.2.2.1, x.2.2.2.1, x.2.2.2.2.2.2.2.1, ()))))
def impl_CastLine_h0 : Sh := ⟨[(2, .c (.box 0 0)), (4, .c (.box 1 0)), (8, .c (.str)), (9, .c (.own 0)), (44, .c (.own 1)), (45, .c (.int .i64)), (46, .c (.int .i64))], [(0, .cells [.str, .own 2, .own 3, .own 4, .int .i64, .int .i64, .int .i64, .int .i64, .own 1, .own 5]), (1, .cells [.str, .nil, .nil, .nil, .int .i64, .int .i64, .int .i64, .int .i64, .nil, .nil])], [(0, .i64), (1, .mat), (2, .i64), (3, .i64), (4, .mats), (5, .mat)]⟩
def impl_CastLine_r0 : List Sh := [⟨[(2, .c (.box 0 0)), (4, .c (.box 1 0)), (8, .c (.str)), (9, .c (.own 0))], [(0, .cells [.str, .own 1, .own 2, .own 3, .int .i64, .int .i64, .int .i64, .int .i64, .own 4, .own 5]), (1, .cells [.str, .nil, .nil, .nil, .int .i64, .int .i64, .int .i64, .int .i64, .nil, .nil])], [(0, .i64), (1, .i64), (2, .i64), (3, .mats), (4, .mat), (5, .mat)]⟩]
noncomputable def impl_CastLine_L0 : Lp := ⟨0, [], impl_CastLine_h0, [], [(.exit 0, [])], impl_CastLine_r0, loopC impl_CastLine_s0⟩
noncomputable def impl_CastLine (a0_0 : ByteArray) (a0_1 : List Int) (a0_2 : List Int) (a0_3 : List (List (Int × Int))) (a0_4 : Int) (a0_5 : Int) (a0_6 : Int) (a0_7 : Int) (a0_8 : List (Int × Int)) (a0_9 : List (Int × Int)) (a1 : Bool) : Option (((ByteArray × Unit × Unit × Unit × Int × Int × Int × Int × Unit × Unit × Unit) × ByteArray × Unit × Bool × Unit) × Unit × (List Int × List Int × List (List (Int × Int)) × List (Int × Int) × List Int × Unit)) :=
 (impl_MachineOk a0_0 a0_1 a0_2 a0_3 a0_4 a0_5 a0_6 a0_7 a0_8 a0_9).bind fun r1 =>
 br (!r1.1.1)
 (some (((ByteArray.empty, (), (), (), (0 : Int), (0 : Int), (0 : Int), (0 : Int), (), (), ()), ByteArray.empty, (), false, ()), (), ([], [], [], [], [], ())))
 (let x2 : Bool := (a0_8.length : Int) == (0 : Int);
 br x2
 (some (((ByteArray.empty, (), (), (), (0 : Int), (0 : Int), (0 : Int), (0 : Int), (), (), ()), ByteArray.empty, (), false, ()), (), ([], [], [], [], [], ())))
 (br (!a1)
 ((impl_ItemsOf a0_0 a0_1 a0_2 a0_3 a0_4 a0_5 a0_6 a0_7 a0_8 a0_9).bind fun r3 =>
 (impl_IsFull a0_5 a0_6 a0_7 r3.2.2.1).bind fun r4 =>
 br (!r4.1.1)
 (some (((ByteArray.empty, (), (), (), (0 : Int), (0 : Int), (0 : Int), (0 : Int), (), (), ()), ByteArray.empty, (), false, ()), (), ([], [], [], [], [], ())))
 ((impl_LineText a0_0 a0_1 a0_2 a0_3 a0_4 a0_5 a0_6 a0_7 a0_8 a0_9).bind fun r5 =>
 (impl_ItemsOf a0_0 a0_1 a0_2 a0_3 a0_4 a0_5 a0_6 a0_7 a0_8 a0_9).bind fun r6 =>
 (impl_PlacesOf a0_5 a0_6 a0_7 r6.2.2.1).bind fun r7 =>
 (impl_copyMachine a0_0 a0_1 a0_2 a0_3 a0_4 a0_5 a0_6 a0_7 a0_8 a0_9).bind fun r8 =>
 (loopC impl_CastLine_s0 (((), (), r5.1.1, (), (), (r8.2.2.2.2.2.1.length : Int), (0 : Int), ()), ((r8.1.1.1, (), (), (), r8.1.1.2.2.2.2.1, r8.1.1.2.2.2.2.2.1, r8.1.1.2.2.2.2.2.2.1, r8.1.1.2.2.2.2.2.2.2.1, (), (), ()), (ByteArray.empty, (), (), (), (0 : Int), (0 : Int), (0 : Int), (0 : Int), (), (), ()), ()), (r7.2.2.1, r8.2.2.2.2.2.1, r8.2.2.1, r8.2.2.2.1, r8.2.2.2.2.1, r8.2.2.2.2.2.2.1, ()))).bind fun r17 =>
 (impl_MachineOk r17.2.1.1.1 r17.2.2.2.1 r17.2.2.2.2.1 r17.2.2.2.2.2.1 r17.2.1.1.2.2.2.2.1 r17.2.1.1.2.2.2.2.2.1 r17.2.1.1.2.2.2.2.2.2.1 r17.2.1.1.2.2.2.2.2.2.2.1 [] r17.2.2.2.2.2.2.2.1).bind fun r18 =>
 br (!r18.1.1)
 (some (((ByteArray.empty, (), (), (), (0 : Int), (0 : Int), (0 : Int), (0 : Int), (), (), ()), ByteArray.empty, (), false, ()), (), ([], [], [], [], [], ())))
 (some (((r17.2.1.1.1, (), (), (), r17.2.1.1.2.2.2.2.1, r17.2.1.1.2.2.2.2.2.1, r17.2.1.1.2.2.2.2.2.2.1, r17.2.1.1.2.2.2.2.2.2.2.1, (), (), ()), r17.1.2.2.1, (), true, ()), (), (r17.2.2.2.1, r17.2.2.2.2.1, r17.2.2.2.2.2.1, r17.2.2.2.2.2.2.2.1, r17.2.2.1, ())))))
 ((impl_LineText a0_0 a0_1 a0_2 a0_3 a0_4 a0_5 a0_6 a0_7 a0_8 a0_9).bind fun r19 =>
 (impl_ItemsOf a0_0 a0_1 a0_2 a0_3 a0_4 a0_5 a0_6 a0_7 a0_8 a0_9).bind fun r20 =>
 (impl_PlacesOf a0_5 a0_6 a0_7 r20.2.2.1).bind fun r21 =>
 (impl_copyMachine a0_0 a0_1 a0_2 a0_3 a0_4 a0_5 a0_6 a0_7 a0_8 a0_9).bind fun r22 =>
 (loopC impl_CastLine_s0 (((), (), r19.1.1, (), (), (r22.2.2.2.2.2.1.length : Int), (0 : Int), ()), ((r22.1.1.1, (), (), (), r22.1.1.2.2.2.2.1, r22.1.1.2.2.2.2.2.1, r22.1.1.2.2.2.2.2.2.1, r22.1.1.2.2.2.2.2.2.2.1, (), (), ()), (ByteArray.empty, (), (), (), (0 : Int), (0 : Int), (0 : Int), (0 : Int), (), (), ()), ()), (r21.2.2.1, r22.2.2.2.2.2.1, r22.2.2.1, r22.2.2.2.1, r22.2.2.2.2.1, r22.2.2.2.2.2.2.1, ()))).bind fun r23 =>
 (impl_MachineOk r23.2.1.1.1 r23.2.2.2.1 r23.2.2.2.2.1 r23.2.2.2.2.2.1 r23.2.1.1.2.2.2.2.1 r23.2.1.1.2.2.2.2.2.1 r23.2.1.1.2.2.2.2.2.2.1 r23.2.1.1.2.2.2.2.2.2.2.1 [] r23.2.2.2.2.2.2.2.1).bind fun r24 =>
 br (!r24.1.1)
 (some (((ByteArray.empty, (), (), (), (0 : Int), (0 : Int), (0 : Int), (0 : Int), (), (), ()), ByteArray.empty, (), false, ()), (), ([], [], [], [], [], ())))
 (some (((r23.2.1.1.1, (), (), (), r23.2.1.1.2.2.2.2.1, r23.2.1.1.2.2.2.2.2.1, r23.2.1.1.2.2.2.2.2.2.1, r23.2.1.1.2.2.2.2.2.2.2.1, (), (), ()), r23.1.2.2.1, (), true, ()), (), (r23.2.2.2.1, r23.2.2.2.2.1, r23.2.2.2.2.2.1, r23.2.2.2.2.2.2.2.1, r23.2.2.1, ()))))))
noncomputable def impl_CastLine_C : Ctr := ⟨31, impl_CastLine_arg, impl_CastLine_res, fun x => impl_CastLine x.1.1.1 x.1.1.2.1 x.1.1.2.2.1 x.1.1.2.2.2.1 x.1.1.2.2.2.2.1 x.1.1.2.2.2.2.2.1 x.1.1.2.2.2.2.2.2.1 x.1.1.2.2.2.2.2.2.2.1 x.1.1.2.2.2.2.2.2.2.2.1 x.1.1.2.2.2.2.2.2.2.2.2.1 x.1.2.1, none⟩
def impl_CastLine_H : Hint := ⟨[], [], [], fun _ => []⟩
noncomputable def impl_CastLine_T : List Ctr := [impl_MachineOk_C, impl_ItemsOf_C, impl_IsFull_C, impl_LineText_C, impl_PlacesOf_C, impl_copyMachine_C, impl_isBand_C]
noncomputable def impl_CastLine_Ls : List Lp := [impl_CastLine_L0]
theorem impl_CastLine_l0 : ∀ x, impl_CastLine_s0 x = stepW E0 impl_CastLine_T impl_CastLine_Ls impl_CastLine_H (loopAt (bodyOf Tryz.f31) 0) 0 impl_CastLine_h0 [] [(.exit 0, [])] impl_CastLine_r0 x := fun x => by kernel_rfl
theorem impl_CastLine_e : ∀ x, impl_CastLine_C.F x = runBodyW E0 impl_CastLine_T impl_CastLine_Ls impl_CastLine_H 31 Tryz.f31.results.toList (bodyOf Tryz.f31) [(.bx 4 1, 6000000, .i64), (.bx 4 2, 6000001, .i64), (.bx 4 3, 6000002, .mats), (.bx 4 9, 6000003, .mat), (.tm 6, 6000004, .i64)] (impl_CastLine_arg.mk' x) impl_CastLine_res := fun x => by kernel_rfl
theorem impl_CastLine_ok : impl_CastLine_C.Ok E0 := fn_ok (T := impl_CastLine_T) (h := impl_CastLine_H) (Ls := impl_CastLine_Ls) E0_mixed (T_cons impl_MachineOk_ok (T_cons impl_ItemsOf_ok (T_cons impl_IsFull_ok (T_cons impl_LineText_ok (T_cons impl_PlacesOf_ok (T_cons impl_copyMachine_ok (T_cons impl_isBand_ok T_nil))))))) Tryz.func31 (bodyOf_some (by kernel_rfl)) (by kernel_rfl) (loops_of (ks := [0]) (by kernel_rfl) ⟨(loop_one (h := impl_CastLine_H) (own := []) (head := impl_CastLine_h0) (back := []) (exs := [(.exit 0, [])]) (res := impl_CastLine_r0) (step := impl_CastLine_s0) (by kernel_rfl) impl_CastLine_l0), trivial⟩) impl_CastLine_e
def impl_DropMatrix_arg : Sh := ⟨[(0, .agg [.str, .rd [] .i64, .rd [] .i64]), (1, .c (.rd [] .mats)), (2, .agg [.int .i64, .int .i64])], [], []⟩
def impl_DropMatrix_res : List Sh := [⟨[(0, .c (.own 0)), (1, .c (.int .i64)), (2, .c (.bool))], [], [(0, .mats)]⟩]
noncomputable def impl_DropMatrix (a0_0 : ByteArray) (a0_1 : List Int) (a0_2 : List Int) (a1 : List (List (Int × Int))) (a2_0 : Int) (a2_1 : Int) : Option ((Unit × Int × Bool × Unit) × Unit × (List (List (Int × Int)) × Unit)) :=
 (impl_MagazineOk a0_0 a0_1 a0_2 a1).bind fun r1 =>
 br (!r1.1.1)
 (some (((), (0 : Int), false, ()), (), ([], ())))
 ((impl_ofFont a0_0 a0_1 a0_2 a2_0 a2_1).bind fun r2 =>
 br (!r2.1.1)
 (some (((), (0 : Int), false, ()), (), ([], ())))
 ((impl_fall a0_2 a2_1).bind fun r3 =>
 ck (0 ≤ r3.1.1)
 (ck (r3.1.1.toNat < a1.length)
 (let x4 : List (Int × Int) := a1.getD r3.1.1.toNat [];
 let x5 : Bool := (x4.length : Int) == (20 : Int);
 br x5
 (some (((), (0 : Int), false, ()), (), ([], ())))
 ((impl_copyMagazine a1).bind fun r6 =>
 ck (0 ≤ r3.1.1)
 (ck (r3.1.1.toNat < r6.2.2.1.length)
 (ck (r3.1.1.toNat < r6.2.2.1.length)
 (ck (r3.1.1.toNat < r6.2.2.1.length)
 (ck (r3.1.1.toNat < r6.2.2.1.length)
 (let x7 : List (Int × Int) := r6.2.2.1.getD r3.1.1.toNat [];
 ck ((x7.length + [(a2_0, a2_1)].length) * 16 ≤ 140737488355328 ∧ (x7.length + [(a2_0, a2_1)].length) ≤ 9223372036854775807)
 (let x8 : List (Int × Int) := x7 ++ [(a2_0, a2_1)];
 ck (0 ≤ r3.1.1)
 (ck (r3.1.1.toNat < r6.2.2.1.length)
 (ck (r3.1.1.toNat = r3.1.1.toNat ∧ r3.1.1.toNat < r6.2.2.1.length)
 (let x9 : List (List (Int × Int)) := r6.2.2.1.set r3.1.1.toNat x8;
 some (((), r3.1.1, true, ()), (), (x9, ()))))))))))))))))
noncomputable def impl_DropMatrix_C : Ctr := ⟨75, impl_DropMatrix_arg, impl_DropMatrix_res, fun x => impl_DropMatrix x.1.1.1 x.1.1.2.1 x.1.1.2.2.1 x.1.2.1 x.1.2.2.1.1 x.1.2.2.1.2.1, none⟩
def impl_DropMatrix_H : Hint := ⟨[], [], [], fun _ => []⟩
noncomputable def impl_DropMatrix_T : List Ctr := [impl_MagazineOk_C, impl_ofFont_C, impl_fall_C, impl_copyMagazine_C]
noncomputable def impl_DropMatrix_Ls : List Lp := []
theorem impl_DropMatrix_e : ∀ x, impl_DropMatrix_C.F x = runBodyW E0 impl_DropMatrix_T impl_DropMatrix_Ls impl_DropMatrix_H 75 Tryz.f75.results.toList (bodyOf Tryz.f75) [(.tm 6, 6000000, .mats)] (impl_DropMatrix_arg.mk' x) impl_DropMatrix_res := fun x => by kernel_rfl
theorem impl_DropMatrix_ok : impl_DropMatrix_C.Ok E0 := fn_ok (T := impl_DropMatrix_T) (h := impl_DropMatrix_H) (Ls := impl_DropMatrix_Ls) E0_mixed (T_cons impl_MagazineOk_ok (T_cons impl_ofFont_ok (T_cons impl_fall_ok (T_cons impl_copyMagazine_ok T_nil)))) Tryz.func75 (bodyOf_some (by kernel_rfl)) (by kernel_rfl) (loops_of (ks := []) (by kernel_rfl) trivial) impl_DropMatrix_e
def impl_DropWaiting_arg : Sh := ⟨[(0, .agg [.str, .rd [] .i64, .rd [] .i64, .rd [] .mats, .int .i64, .int .i64, .int .i64, .int .i64, .rd [] .mat, .rd [] .mat]), (1, .c (.int .i64))], [], []⟩
def impl_DropWaiting_res : List Sh := [⟨[(0, .agg [.str, .own 0, .own 1, .own 2, .int .i64, .int .i64, .int .i64, .int .i64, .own 3, .own 4]), (1, .c (.int .i64))], [], [(0, .i64), (1, .i64), (2, .mats), (3, .mat), (4, .mat)]⟩]
noncomputable def impl_DropWaiting_s0 (x : (Int × Unit × Unit × Int × Unit) × ((ByteArray × Unit × Unit × Unit × Int × Int × Int × Int × Unit × Unit × Unit) × (ByteArray × Unit × Unit × Unit × Int × Int × Int × Int × Unit × Unit × Unit) × Unit) × (List Int × List Int × List (List (Int × Int)) × List (Int × Int) × List (Int × Int) × Unit)) : Option (((Int × Unit × Unit × Int × Unit) × ((ByteArray × Unit × Unit × Unit × Int × Int × Int × Int × Unit × Unit × Unit) × (ByteArray × Unit × Unit × Unit × Int × Int × Int × Int × Unit × Unit × Unit) × Unit) × (List Int × List Int × List (List (Int × Int)) × List (Int × Int) × List (Int × Int) × Unit)) ⊕ ((Unit × Unit × Int × Unit) × ((ByteArray × Unit × Unit × Unit × Int × Int × Int × Int × Unit × Unit × Unit) × (ByteArray × Unit × Unit × Unit × Int × Int × Int × Int × Unit × Unit × Unit) × Unit) × (List Int × List Int × List (List (Int × Int)) × List (Int × Int) × List (Int × Int) × Unit))) :=
 let x4 : Bool := decide (x.1.2.2.2.1 < x.1.1);
 br x4
 (let x5 : Bool := decide ((x.2.2.2.2.2.2.1.length : Int) > (0 : Int));
 br x5
 (ck (0 < x.2.2.2.2.2.2.1.length)
 (ck (0 < x.2.2.2.2.2.2.1.length)
 (let x6 : Int := (x.2.2.2.2.2.2.1.getD 0 (0, 0)).1;
 let x7 : Int := (x.2.2.2.2.2.2.1.getD 0 (0, 0)).2;
 (impl_DropMatrix x.2.1.1.1 x.2.2.1 x.2.2.2.1 x.2.2.2.2.1 x6 x7).bind fun r8 =>
 br (!r8.1.2.2.1)
 (some (.inr (((), (), x.1.2.2.2.1, ()), ((x.2.1.1.1, (), (), (), x.2.1.1.2.2.2.2.1, x.2.1.1.2.2.2.2.2.1, x.2.1.1.2.2.2.2.2.2.1, x.2.1.1.2.2.2.2.2.2.2.1, (), (), ()), (x.2.1.2.1.1, (), (), (), x.2.1.2.1.2.2.2.2.1, x.2.1.2.1.2.2.2.2.2.1, x.2.1.2.1.2.2.2.2.2.2.1, x.2.1.2.1.2.2.2.2.2.2.2.1, (), (), ()), ()), (x.2.2.1, x.2.2.2.1, x.2.2.2.2.1, x.2.2.2.2.2.1, x.2.2.2.2.2.2.1, ()))))
 (ck (1 ≤ x.2.2.2.2.2.2.1.length ∧ x.2.2.2.2.2.2.1.length ≤ x.2.2.2.2.2.2.1.length)
 (let x9 : List (Int × Int) := cut x.2.2.2.2.2.2.1 1 x.2.2.2.2.2.2.1.length;
 let x10 : Int := w64 (x.1.2.2.2.1 + (1 : Int));
 some (.inl ((x.1.1, (), (), x10, ()), ((x.2.1.1.1, (), (), (), x.2.1.1.2.2.2.2.1, x.2.1.1.2.2.2.2.2.1, x.2.1.1.2.2.2.2.2.2.1, x.2.1.1.2.2.2.2.2.2.2.1, (), (), ()), (x.2.1.2.1.1, (), (), (), x.2.1.2.1.2.2.2.2.1, x.2.1.2.1.2.2.2.2.2.1, x.2.1.2.1.2.2.2.2.2.2.1, x.2.1.2.1.2.2.2.2.2.2.2.1, (), (), ()), ()), (x.2.2.1, x.2.2.2.1, r8.2.2.1, x.2.2.2.2.2.1, x9, ()))))))))
 (some (.inr (((), (), x.1.2.2.2.1, ()), ((x.2.1.1.1, (), (), (), x.2.1.1.2.2.2.2.1, x.2.1.1.2.2.2.2.2.1, x.2.1.1.2.2.2.2.2.2.1, x.2.1.1.2.2.2.2.2.2.2.1, (), (), ()), (x.2.1.2.1.1, (), (), (), x.2.1.2.1.2.2.2.2.1, x.2.1.2.1.2.2.2.2.2.1, x.2.1.2.1.2.2.2.2.2.2.1, x.2.1.2.1.2.2.2.2.2.2.2.1, (), (), ()), ()), (x.2.2.1, x.2.2.2.1, x.2.2.2.2.1, x.2.2.2.2.2.1, x.2.2.2.2.2.2.1, ())))))
 (some (.inr (((), (), x.1.2.2.2.1, ()), ((x.2.1.1.1, (), (), (), x.2.1.1.2.2.2.2.1, x.2.1.1.2.2.2.2.2.1, x.2.1.1.2.2.2.2.2.2.1, x.2.1.1.2.2.2.2.2.2.2.1, (), (), ()), (x.2.1.2.1.1, (), (), (), x.2.1.2.1.2.2.2.2.1, x.2.1.2.1.2.2.2.2.2.1, x.2.1.2.1.2.2.2.2.2.2.1, x.2.1.2.1.2.2.2.2.2.2.2.1, (), (), ()), ()), (x.2.2.1, x.2.2.2.1, x.2.2.2.2.1, x.2.2.2.2.2.1, x.2.2.2.2.2.2.1, ()))))
def impl_DropWaiting_h0 : Sh := ⟨[(1, .c (.int .i64)), (2, .c (.box 0 0)), (4, .c (.box 1 0)), (6, .c (.int .i64))], [(0, .cells [.str, .own 0, .own 1, .own 2, .int .i64, .int .i64, .int .i64, .int .i64, .own 3, .own 4]), (1, .cells [.str, .nil, .nil, .nil, .int .i64, .int .i64, .int .i64, .int .i64, .nil, .nil])], [(0, .i64), (1, .i64), (2, .mats), (3, .mat), (4, .mat)]⟩
def impl_DropWaiting_r0 : List Sh := [⟨[(2, .c (.box 0 0)), (4, .c (.box 1 0)), (6, .c (.int .i64))], [(0, .cells [.str, .own 0, .own 1, .own 2, .int .i64, .int .i64, .int .i64, .int .i64, .own 3, .own 4]), (1, .cells [.str, .nil, .nil, .nil, .int .i64, .int .i64, .int .i64, .int .i64, .nil, .nil])], [(0, .i64), (1, .i64), (2, .mats), (3, .mat), (4, .mat)]⟩]
noncomputable def impl_DropWaiting_L0 : Lp := ⟨0, [], impl_DropWaiting_h0, [], [(.exit 0, [])], impl_DropWaiting_r0, loopC impl_DropWaiting_s0⟩
noncomputable def impl_DropWaiting (a0_0 : ByteArray) (a0_1 : List Int) (a0_2 : List Int) (a0_3 : List (List (Int × Int))) (a0_4 : Int) (a0_5 : Int) (a0_6 : Int) (a0_7 : Int) (a0_8 : List (Int × Int)) (a0_9 : List (Int × Int)) (a1 : Int) : Option (((ByteArray × Unit × Unit × Unit × Int × Int × Int × Int × Unit × Unit × Unit) × Int × Unit) × Unit × (List Int × List Int × List (List (Int × Int)) × List (Int × Int) × List (Int × Int) × Unit)) :=
 (impl_MachineOk a0_0 a0_1 a0_2 a0_3 a0_4 a0_5 a0_6 a0_7 a0_8 a0_9).bind fun r1 =>
 br (!r1.1.1)
 (some (((ByteArray.empty, (), (), (), (0 : Int), (0 : Int), (0 : Int), (0 : Int), (), (), ()), (-1 : Int), ()), (), ([], [], [], [], [], ())))
 (let x2 : Bool := decide (a1 < (0 : Int));
 br x2
 (some (((ByteArray.empty, (), (), (), (0 : Int), (0 : Int), (0 : Int), (0 : Int), (), (), ()), (-1 : Int), ()), (), ([], [], [], [], [], ())))
 ((impl_copyMachine a0_0 a0_1 a0_2 a0_3 a0_4 a0_5 a0_6 a0_7 a0_8 a0_9).bind fun r3 =>
 (loopC impl_DropWaiting_s0 ((a1, (), (), (0 : Int), ()), ((r3.1.1.1, (), (), (), r3.1.1.2.2.2.2.1, r3.1.1.2.2.2.2.2.1, r3.1.1.2.2.2.2.2.2.1, r3.1.1.2.2.2.2.2.2.2.1, (), (), ()), (ByteArray.empty, (), (), (), (0 : Int), (0 : Int), (0 : Int), (0 : Int), (), (), ()), ()), (r3.2.2.1, r3.2.2.2.1, r3.2.2.2.2.1, r3.2.2.2.2.2.1, r3.2.2.2.2.2.2.1, ()))).bind fun r11 =>
 some (((r11.2.1.1.1, (), (), (), r11.2.1.1.2.2.2.2.1, r11.2.1.1.2.2.2.2.2.1, r11.2.1.1.2.2.2.2.2.2.1, r11.2.1.1.2.2.2.2.2.2.2.1, (), (), ()), r11.1.2.2.1, ()), (), (r11.2.2.1, r11.2.2.2.1, r11.2.2.2.2.1, r11.2.2.2.2.2.1, r11.2.2.2.2.2.2.1, ()))))
noncomputable def impl_DropWaiting_C : Ctr := ⟨32, impl_DropWaiting_arg, impl_DropWaiting_res, fun x => impl_DropWaiting x.1.1.1 x.1.1.2.1 x.1.1.2.2.1 x.1.1.2.2.2.1 x.1.1.2.2.2.2.1 x.1.1.2.2.2.2.2.1 x.1.1.2.2.2.2.2.2.1 x.1.1.2.2.2.2.2.2.2.1 x.1.1.2.2.2.2.2.2.2.2.1 x.1.1.2.2.2.2.2.2.2.2.2.1 x.1.2.1, none⟩
def impl_DropWaiting_H : Hint := ⟨[47], [], [], fun _ => []⟩
noncomputable def impl_DropWaiting_T : List Ctr := [impl_MachineOk_C, impl_copyMachine_C, impl_DropMatrix_C]
noncomputable def impl_DropWaiting_Ls : List Lp := [impl_DropWaiting_L0]
theorem impl_DropWaiting_l0 : ∀ x, impl_DropWaiting_s0 x = stepW E0 impl_DropWaiting_T impl_DropWaiting_Ls impl_DropWaiting_H (loopAt (bodyOf Tryz.f32) 0) 0 impl_DropWaiting_h0 [] [(.exit 0, [])] impl_DropWaiting_r0 x := fun x => by kernel_rfl
theorem impl_DropWaiting_e : ∀ x, impl_DropWaiting_C.F x = runBodyW E0 impl_DropWaiting_T impl_DropWaiting_Ls impl_DropWaiting_H 32 Tryz.f32.results.toList (bodyOf Tryz.f32) [(.bx 4 1, 6000000, .i64), (.bx 4 2, 6000001, .i64), (.bx 4 3, 6000002, .mats), (.bx 4 8, 6000003, .mat), (.bx 4 9, 6000004, .mat)] (impl_DropWaiting_arg.mk' x) impl_DropWaiting_res := fun x => by kernel_rfl
theorem impl_DropWaiting_ok : impl_DropWaiting_C.Ok E0 := fn_ok (T := impl_DropWaiting_T) (h := impl_DropWaiting_H) (Ls := impl_DropWaiting_Ls) E0_mixed (T_cons impl_MachineOk_ok (T_cons impl_copyMachine_ok (T_cons impl_DropMatrix_ok T_nil))) Tryz.func32 (bodyOf_some (by kernel_rfl)) (by kernel_rfl) (loops_of (ks := [0]) (by kernel_rfl) ⟨(loop_one (h := impl_DropWaiting_H) (own := []) (head := impl_DropWaiting_h0) (back := []) (exs := [(.exit 0, [])]) (res := impl_DropWaiting_r0) (step := impl_DropWaiting_s0) (by kernel_rfl) impl_DropWaiting_l0), trivial⟩) impl_DropWaiting_e
def impl_SetLines_arg : Sh := ⟨[(0, .agg [.str, .rd [] .i64, .rd [] .i64, .rd [] .mats, .int .i64, .int .i64, .int .i64, .int .i64, .rd [] .mat, .rd [] .mat]), (1, .c (.rd [] .str))], [], []⟩
def impl_SetLines_res : List Sh := [⟨[(0, .agg [.str, .own 0, .own 1, .own 2, .int .i64, .int .i64, .int .i64, .int .i64, .own 3, .own 4]), (1, .c (.own 5)), (2, .c (.bool))], [], [(0, .i64), (1, .i64), (2, .mats), (3, .mat), (4, .mat), (5, .str)]⟩]
noncomputable def impl_SetLines_s0 (x : (Unit × Unit × Unit × List ByteArray × Int × Int × Unit) × ((ByteArray × Unit × Unit × Unit × Int × Int × Int × Int × Unit × Unit × Unit) × (ByteArray × Unit × Unit × Unit × Int × Int × Int × Int × Unit × Unit × Unit) × Unit) × (List ByteArray × List Int × List Int × List (List (Int × Int)) × List (Int × Int) × List (Int × Int) × Unit)) : Option (((Unit × Unit × Unit × List ByteArray × Int × Int × Unit) × ((ByteArray × Unit × Unit × Unit × Int × Int × Int × Int × Unit × Unit × Unit) × (ByteArray × Unit × Unit × Unit × Int × Int × Int × Int × Unit × Unit × Unit) × Unit) × (List ByteArray × List Int × List Int × List (List (Int × Int)) × List (Int × Int) × List (Int × Int) × Unit)) ⊕ (((Unit × Unit × Bool × Unit) × ((ByteArray × Unit × Unit × Unit × Int × Int × Int × Int × Unit × Unit × Unit) × Unit) × Unit) ⊕ ((Unit × Unit × Unit × Unit) × ((ByteArray × Unit × Unit × Unit × Int × Int × Int × Int × Unit × Unit × Unit) × (ByteArray × Unit × Unit × Unit × Int × Int × Int × Int × Unit × Unit × Unit) × Unit) × (List ByteArray × List Int × List Int × List (List (Int × Int)) × List (Int × Int) × List (Int × Int) × Unit)))) :=
 let x3 : Bool := decide (x.1.2.2.2.2.2.1 < x.1.2.2.2.2.1);
 br x3
 (ck (0 ≤ x.1.2.2.2.2.2.1)
 (ck (x.1.2.2.2.2.2.1.toNat < x.1.2.2.2.1.length)
 (let x4 : ByteArray := x.1.2.2.2.1.getD x.1.2.2.2.2.2.1.toNat ByteArray.empty;
 (impl_KeyText x.2.1.1.1 x.2.2.2.1 x.2.2.2.2.1 x.2.2.2.2.2.1 x.2.1.1.2.2.2.2.1 x.2.1.1.2.2.2.2.2.1 x.2.1.1.2.2.2.2.2.2.1 x.2.1.1.2.2.2.2.2.2.2.1 x.2.2.2.2.2.2.1 x.2.2.2.2.2.2.2.1 x4).bind fun r5 =>
 let x6 : Bool := r5.1.2.1 != (x4.size : Int);
 br x6
 (some (.inr (.inl (((), (), false, ()), ((ByteArray.empty, (), (), (), (0 : Int), (0 : Int), (0 : Int), (0 : Int), (), (), ()), ()), ()))))
 ((impl_CastLine r5.1.1.1 r5.2.2.1 r5.2.2.2.1 r5.2.2.2.2.1 r5.1.1.2.2.2.2.1 r5.1.1.2.2.2.2.2.1 r5.1.1.2.2.2.2.2.2.1 r5.1.1.2.2.2.2.2.2.2.1 r5.2.2.2.2.2.1 r5.2.2.2.2.2.2.1 true).bind fun r7 =>
 br (!r7.1.2.2.2.1)
 (some (.inr (.inl (((), (), false, ()), ((ByteArray.empty, (), (), (), (0 : Int), (0 : Int), (0 : Int), (0 : Int), (), (), ()), ()), ()))))
 (ck ((x.2.2.1.length + [r7.1.2.1].length) * 16 ≤ 140737488355328 ∧ (x.2.2.1.length + [r7.1.2.1].length) ≤ 9223372036854775807)
 (let x8 : List ByteArray := x.2.2.1 ++ [r7.1.2.1];
 (impl_DropWaiting r7.1.1.1 r7.2.2.1 r7.2.2.2.1 r7.2.2.2.2.1 r7.1.1.2.2.2.2.1 r7.1.1.2.2.2.2.2.1 r7.1.1.2.2.2.2.2.2.1 r7.1.1.2.2.2.2.2.2.2.1 [] r7.2.2.2.2.2.1 (240 : Int)).bind fun r9 =>
 let x10 : Int := w64 (x.1.2.2.2.2.2.1 + (1 : Int));
 some (.inl (((), (), (), x.1.2.2.2.1, x.1.2.2.2.2.1, x10, ()), ((r9.1.1.1, (), (), (), r9.1.1.2.2.2.2.1, r9.1.1.2.2.2.2.2.1, r9.1.1.2.2.2.2.2.2.1, r9.1.1.2.2.2.2.2.2.2.1, (), (), ()), (x.2.1.2.1.1, (), (), (), x.2.1.2.1.2.2.2.2.1, x.2.1.2.1.2.2.2.2.2.1, x.2.1.2.1.2.2.2.2.2.2.1, x.2.1.2.1.2.2.2.2.2.2.2.1, (), (), ()), ()), (x8, r9.2.2.1, r9.2.2.2.1, r9.2.2.2.2.1, r9.2.2.2.2.2.1, r9.2.2.2.2.2.2.1, ())))))))))
 (some (.inr (.inr (((), (), (), ()), ((x.2.1.1.1, (), (), (), x.2.1.1.2.2.2.2.1, x.2.1.1.2.2.2.2.2.1, x.2.1.1.2.2.2.2.2.2.1, x.2.1.1.2.2.2.2.2.2.2.1, (), (), ()), (x.2.1.2.1.1, (), (), (), x.2.1.2.1.2.2.2.2.1, x.2.1.2.1.2.2.2.2.2.1, x.2.1.2.1.2.2.2.2.2.2.1, x.2.1.2.1.2.2.2.2.2.2.2.1, (), (), ()), ()), (x.2.2.1, x.2.2.2.1, x.2.2.2.2.1, x.2.2.2.2.2.1, x.2.2.2.2.2.2.1, x.2.2.2.2.2.2.2.1, ())))))
def impl_SetLines_h0 : Sh := ⟨[(2, .c (.box 0 0)), (4, .c (.box 1 0)), (7, .c (.own 0)), (20, .c (.rd [] .str)), (21, .c (.int .i64)), (22, .c (.int .i64))], [(0, .cells [.str, .own 1, .own 2, .own 3, .int .i64, .int .i64, .int .i64, .int .i64, .own 4, .own 5]), (1, .cells [.str, .nil, .nil, .nil, .int .i64, .int .i64, .int .i64, .int .i64, .nil, .nil])], [(0, .str), (1, .i64), (2, .i64), (3, .mats), (4, .mat), (5, .mat)]⟩
def impl_SetLines_r0 : List Sh := [⟨[(4, .c (.box 0 0)), (5, .c (.nil)), (6, .c (.bool))], [(0, .cells [.str, .nil, .nil, .nil, .int .i64, .int .i64, .int .i64, .int .i64, .nil, .nil])], []⟩, ⟨[(2, .c (.box 0 0)), (4, .c (.box 1 0)), (7, .c (.own 0))], [(0, .cells [.str, .own 1, .own 2, .own 3, .int .i64, .int .i64, .int .i64, .int .i64, .own 4, .own 5]), (1, .cells [.str, .nil, .nil, .nil, .int .i64, .int .i64, .int .i64, .int .i64, .nil, .nil])], [(0, .str), (1, .i64), (2, .i64), (3, .mats), (4, .mat), (5, .mat)]⟩]
noncomputable def impl_SetLines_L0 : Lp := ⟨0, [], impl_SetLines_h0, [], [(.ret, []), (.exit 0, [])], impl_SetLines_r0, loopC impl_SetLines_s0⟩
noncomputable def impl_SetLines (a0_0 : ByteArray) (a0_1 : List Int) (a0_2 : List Int) (a0_3 : List (List (Int × Int))) (a0_4 : Int) (a0_5 : Int) (a0_6 : Int) (a0_7 : Int) (a0_8 : List (Int × Int)) (a0_9 : List (Int × Int)) (a1 : List ByteArray) : Option (((ByteArray × Unit × Unit × Unit × Int × Int × Int × Int × Unit × Unit × Unit) × Unit × Bool × Unit) × Unit × (List Int × List Int × List (List (Int × Int)) × List (Int × Int) × List (Int × Int) × List ByteArray × Unit)) :=
 (impl_MachineOk a0_0 a0_1 a0_2 a0_3 a0_4 a0_5 a0_6 a0_7 a0_8 a0_9).bind fun r1 =>
 br (!r1.1.1)
 (some (((ByteArray.empty, (), (), (), (0 : Int), (0 : Int), (0 : Int), (0 : Int), (), (), ()), (), false, ()), (), ([], [], [], [], [], [], ())))
 ((impl_copyMachine a0_0 a0_1 a0_2 a0_3 a0_4 a0_5 a0_6 a0_7 a0_8 a0_9).bind fun r2 =>
 (loopC impl_SetLines_s0 (((), (), (), a1, (a1.length : Int), (0 : Int), ()), ((r2.1.1.1, (), (), (), r2.1.1.2.2.2.2.1, r2.1.1.2.2.2.2.2.1, r2.1.1.2.2.2.2.2.2.1, r2.1.1.2.2.2.2.2.2.2.1, (), (), ()), (ByteArray.empty, (), (), (), (0 : Int), (0 : Int), (0 : Int), (0 : Int), (), (), ()), ()), ([], r2.2.2.1, r2.2.2.2.1, r2.2.2.2.2.1, r2.2.2.2.2.2.1, r2.2.2.2.2.2.2.1, ()))).bind fun r11 =>
 sumK r11 (fun y14 =>
 some (((y14.2.1.1.1, (), (), (), y14.2.1.1.2.2.2.2.1, y14.2.1.1.2.2.2.2.2.1, y14.2.1.1.2.2.2.2.2.2.1, y14.2.1.1.2.2.2.2.2.2.2.1, (), (), ()), (), y14.1.2.2.1, ()), (), ([], [], [], [], [], [], ()))) (fun y15 =>
 some (((y15.2.1.1.1, (), (), (), y15.2.1.1.2.2.2.2.1, y15.2.1.1.2.2.2.2.2.1, y15.2.1.1.2.2.2.2.2.2.1, y15.2.1.1.2.2.2.2.2.2.2.1, (), (), ()), (), true, ()), (), (y15.2.2.2.1, y15.2.2.2.2.1, y15.2.2.2.2.2.1, y15.2.2.2.2.2.2.1, y15.2.2.2.2.2.2.2.1, y15.2.2.1, ()))))
noncomputable def impl_SetLines_C : Ctr := ⟨9, impl_SetLines_arg, impl_SetLines_res, fun x => impl_SetLines x.1.1.1 x.1.1.2.1 x.1.1.2.2.1 x.1.1.2.2.2.1 x.1.1.2.2.2.2.1 x.1.1.2.2.2.2.2.1 x.1.1.2.2.2.2.2.2.1 x.1.1.2.2.2.2.2.2.2.1 x.1.1.2.2.2.2.2.2.2.2.1 x.1.1.2.2.2.2.2.2.2.2.2.1 x.1.2.1, none⟩
def impl_SetLines_H : Hint := ⟨[], [], [], fun _ => []⟩
noncomputable def impl_SetLines_T : List Ctr := [impl_MachineOk_C, impl_copyMachine_C, impl_KeyText_C, impl_CastLine_C, impl_DropWaiting_C]
noncomputable def impl_SetLines_Ls : List Lp := [impl_SetLines_L0]
theorem impl_SetLines_l0 : ∀ x, impl_SetLines_s0 x = stepW E0 impl_SetLines_T impl_SetLines_Ls impl_SetLines_H (loopAt (bodyOf Tryz.f9) 0) 0 impl_SetLines_h0 [] [(.ret, []), (.exit 0, [])] impl_SetLines_r0 x := fun x => by kernel_rfl
theorem impl_SetLines_e : ∀ x, impl_SetLines_C.F x = runBodyW E0 impl_SetLines_T impl_SetLines_Ls impl_SetLines_H 9 Tryz.f9.results.toList (bodyOf Tryz.f9) [(.bx 4 1, 6000000, .i64), (.bx 4 2, 6000001, .i64), (.bx 4 3, 6000002, .mats), (.bx 4 8, 6000003, .mat), (.bx 4 9, 6000004, .mat), (.tm 5, 6000005, .str)] (impl_SetLines_arg.mk' x) impl_SetLines_res := fun x => by kernel_rfl
theorem impl_SetLines_ok : impl_SetLines_C.Ok E0 := fn_ok (T := impl_SetLines_T) (h := impl_SetLines_H) (Ls := impl_SetLines_Ls) E0_mixed (T_cons impl_MachineOk_ok (T_cons impl_copyMachine_ok (T_cons impl_KeyText_ok (T_cons impl_CastLine_ok (T_cons impl_DropWaiting_ok T_nil))))) Tryz.func9 (bodyOf_some (by kernel_rfl)) (by kernel_rfl) (loops_of (ks := [0]) (by kernel_rfl) ⟨(loop_one (h := impl_SetLines_H) (own := []) (head := impl_SetLines_h0) (back := []) (exs := [(.ret, []), (.exit 0, [])]) (res := impl_SetLines_r0) (step := impl_SetLines_s0) (by kernel_rfl) impl_SetLines_l0), trivial⟩) impl_SetLines_e
def laws_eqIntS_arg : Sh := ⟨[(0, .c (.rd [] .i64)), (1, .c (.rd [] .i64))], [], []⟩
def laws_eqIntS_res : List Sh := [⟨[(0, .c (.bool))], [], []⟩]
noncomputable def laws_eqIntS_s0 (x : (List Int × List Int × Int × Unit) × Unit × Unit) : Option (((List Int × List Int × Int × Unit) × Unit × Unit) ⊕ (((Bool × Unit) × Unit × Unit) ⊕ (Unit × Unit × Unit))) :=
 let x2 : Bool := decide (x.1.2.2.1 < (x.1.1.length : Int));
 br x2
 (ck (0 ≤ x.1.2.2.1)
 (ck (x.1.2.2.1.toNat < x.1.1.length)
 (let x3 : Int := x.1.1.getD x.1.2.2.1.toNat 0;
 ck (0 ≤ x.1.2.2.1)
 (ck (x.1.2.2.1.toNat < x.1.2.1.length)
 (let x4 : Int := x.1.2.1.getD x.1.2.2.1.toNat 0;
 let x5 : Bool := x3 != x4;
 br x5
 (some (.inr (.inl ((false, ()), (), ()))))
 (let x6 : Int := w64 (x.1.2.2.1 + (1 : Int));
 some (.inl ((x.1.1, x.1.2.1, x6, ()), (), ()))))))))
 (some (.inr (.inr ((), (), ()))))
def laws_eqIntS_h0 : Sh := ⟨[(0, .c (.rd [] .i64)), (1, .c (.rd [] .i64)), (5, .c (.int .i64))], [], []⟩
def laws_eqIntS_r0 : List Sh := [⟨[(4, .c (.bool))], [], []⟩, ⟨[], [], []⟩]
noncomputable def laws_eqIntS_L0 : Lp := ⟨0, [], laws_eqIntS_h0, [], [(.ret, []), (.exit 0, [])], laws_eqIntS_r0, loopC laws_eqIntS_s0⟩
noncomputable def laws_eqIntS (a0 : List Int) (a1 : List Int) : Option ((Bool × Unit) × Unit × Unit) :=
 let x1 : Bool := (a0.length : Int) != (a1.length : Int);
 br x1
 (some ((false, ()), (), ()))
 ((loopC laws_eqIntS_s0 ((a0, a1, (0 : Int), ()), (), ())).bind fun r7 =>
 sumK r7 (fun y10 =>
 some ((y10.1.1, ()), (), ())) (fun y11 =>
 some ((true, ()), (), ())))
noncomputable def laws_eqIntS_C : Ctr := ⟨76, laws_eqIntS_arg, laws_eqIntS_res, fun x => laws_eqIntS x.1.1 x.1.2.1, none⟩
def laws_eqIntS_H : Hint := ⟨[], [], [], fun _ => []⟩
noncomputable def laws_eqIntS_T : List Ctr := []
noncomputable def laws_eqIntS_Ls : List Lp := [laws_eqIntS_L0]
theorem laws_eqIntS_l0 : ∀ x, laws_eqIntS_s0 x = stepW E0 laws_eqIntS_T laws_eqIntS_Ls laws_eqIntS_H (loopAt (bodyOf Tryz.f76) 0) 0 laws_eqIntS_h0 [] [(.ret, []), (.exit 0, [])] laws_eqIntS_r0 x := fun x => by kernel_rfl
theorem laws_eqIntS_e : ∀ x, laws_eqIntS_C.F x = runBodyW E0 laws_eqIntS_T laws_eqIntS_Ls laws_eqIntS_H 76 Tryz.f76.results.toList (bodyOf Tryz.f76) [] (laws_eqIntS_arg.mk' x) laws_eqIntS_res := fun x => by kernel_rfl
theorem laws_eqIntS_ok : laws_eqIntS_C.Ok E0 := fn_ok (T := laws_eqIntS_T) (h := laws_eqIntS_H) (Ls := laws_eqIntS_Ls) E0_mixed T_nil Tryz.func76 (bodyOf_some (by kernel_rfl)) (by kernel_rfl) (loops_of (ks := [0]) (by kernel_rfl) ⟨(loop_one (h := laws_eqIntS_H) (own := []) (head := laws_eqIntS_h0) (back := []) (exs := [(.ret, []), (.exit 0, [])]) (res := laws_eqIntS_r0) (step := laws_eqIntS_s0) (by kernel_rfl) laws_eqIntS_l0), trivial⟩) laws_eqIntS_e
def laws_eqFont_arg : Sh := ⟨[(0, .agg [.str, .rd [] .i64, .rd [] .i64]), (1, .agg [.str, .rd [] .i64, .rd [] .i64])], [], []⟩
def laws_eqFont_res : List Sh := [⟨[(0, .c (.bool))], [], []⟩]
noncomputable def laws_eqFont (a0_0 : ByteArray) (a0_1 : List Int) (a0_2 : List Int) (a1_0 : ByteArray) (a1_1 : List Int) (a1_2 : List Int) : Option ((Bool × Unit) × Unit × Unit) :=
 let x1 : Bool := !strEq a0_0 a1_0;
 br x1
 (some ((false, ()), (), ()))
 ((laws_eqIntS a0_1 a1_1).bind fun r2 =>
 br (!r2.1.1)
 (some ((false, ()), (), ()))
 ((laws_eqIntS a0_2 a1_2).bind fun r3 =>
 br (!r3.1.1)
 (some ((false, ()), (), ()))
 (some ((true, ()), (), ()))))
noncomputable def laws_eqFont_C : Ctr := ⟨33, laws_eqFont_arg, laws_eqFont_res, fun x => laws_eqFont x.1.1.1 x.1.1.2.1 x.1.1.2.2.1 x.1.2.1.1 x.1.2.1.2.1 x.1.2.1.2.2.1, none⟩
def laws_eqFont_H : Hint := ⟨[], [], [], fun _ => []⟩
noncomputable def laws_eqFont_T : List Ctr := [laws_eqIntS_C]
noncomputable def laws_eqFont_Ls : List Lp := []
theorem laws_eqFont_e : ∀ x, laws_eqFont_C.F x = runBodyW E0 laws_eqFont_T laws_eqFont_Ls laws_eqFont_H 33 Tryz.f33.results.toList (bodyOf Tryz.f33) [] (laws_eqFont_arg.mk' x) laws_eqFont_res := fun x => by kernel_rfl
theorem laws_eqFont_ok : laws_eqFont_C.Ok E0 := fn_ok (T := laws_eqFont_T) (h := laws_eqFont_H) (Ls := laws_eqFont_Ls) E0_mixed (T_cons laws_eqIntS_ok T_nil) Tryz.func33 (bodyOf_some (by kernel_rfl)) (by kernel_rfl) (loops_of (ks := []) (by kernel_rfl) trivial) laws_eqFont_e
def laws_eqMatrix_arg : Sh := ⟨[(0, .agg [.int .i64, .int .i64]), (1, .agg [.int .i64, .int .i64])], [], []⟩
def laws_eqMatrix_res : List Sh := [⟨[(0, .c (.bool))], [], []⟩]
noncomputable def laws_eqMatrix (a0_0 : Int) (a0_1 : Int) (a1_0 : Int) (a1_1 : Int) : Option ((Bool × Unit) × Unit × Unit) :=
 let x1 : Bool := a0_0 != a1_0;
 br x1
 (some ((false, ()), (), ()))
 (let x2 : Bool := a0_1 != a1_1;
 br x2
 (some ((false, ()), (), ()))
 (some ((true, ()), (), ())))
noncomputable def laws_eqMatrix_C : Ctr := ⟨77, laws_eqMatrix_arg, laws_eqMatrix_res, fun x => laws_eqMatrix x.1.1.1 x.1.1.2.1 x.1.2.1.1 x.1.2.1.2.1, none⟩
def laws_eqMatrix_H : Hint := ⟨[], [], [], fun _ => []⟩
noncomputable def laws_eqMatrix_T : List Ctr := []
noncomputable def laws_eqMatrix_Ls : List Lp := []
theorem laws_eqMatrix_e : ∀ x, laws_eqMatrix_C.F x = runBodyW E0 laws_eqMatrix_T laws_eqMatrix_Ls laws_eqMatrix_H 77 Tryz.f77.results.toList (bodyOf Tryz.f77) [] (laws_eqMatrix_arg.mk' x) laws_eqMatrix_res := fun x => by kernel_rfl
theorem laws_eqMatrix_ok : laws_eqMatrix_C.Ok E0 := fn_ok (T := laws_eqMatrix_T) (h := laws_eqMatrix_H) (Ls := laws_eqMatrix_Ls) E0_mixed T_nil Tryz.func77 (bodyOf_some (by kernel_rfl)) (by kernel_rfl) (loops_of (ks := []) (by kernel_rfl) trivial) laws_eqMatrix_e
def laws_eqMatrixS_arg : Sh := ⟨[(0, .c (.rd [] .mat)), (1, .c (.rd [] .mat))], [], []⟩
def laws_eqMatrixS_res : List Sh := [⟨[(0, .c (.bool))], [], []⟩]
noncomputable def laws_eqMatrixS_s0 (x : (List (Int × Int) × List (Int × Int) × Int × Unit) × Unit × Unit) : Option (((List (Int × Int) × List (Int × Int) × Int × Unit) × Unit × Unit) ⊕ (((Bool × Unit) × Unit × Unit) ⊕ (Unit × Unit × Unit))) :=
 let x2 : Bool := decide (x.1.2.2.1 < (x.1.1.length : Int));
 br x2
 (ck (0 ≤ x.1.2.2.1)
 (ck (x.1.2.2.1.toNat < x.1.1.length)
 (let x3 : Int × Int := x.1.1.getD x.1.2.2.1.toNat (0, 0);
 ck (0 ≤ x.1.2.2.1)
 (ck (x.1.2.2.1.toNat < x.1.2.1.length)
 (let x4 : Int × Int := x.1.2.1.getD x.1.2.2.1.toNat (0, 0);
 (laws_eqMatrix x3.1 x3.2 x4.1 x4.2).bind fun r5 =>
 br (!r5.1.1)
 (some (.inr (.inl ((false, ()), (), ()))))
 (let x6 : Int := w64 (x.1.2.2.1 + (1 : Int));
 some (.inl ((x.1.1, x.1.2.1, x6, ()), (), ()))))))))
 (some (.inr (.inr ((), (), ()))))
def laws_eqMatrixS_h0 : Sh := ⟨[(0, .c (.rd [] .mat)), (1, .c (.rd [] .mat)), (5, .c (.int .i64))], [], []⟩
def laws_eqMatrixS_r0 : List Sh := [⟨[(4, .c (.bool))], [], []⟩, ⟨[], [], []⟩]
noncomputable def laws_eqMatrixS_L0 : Lp := ⟨0, [], laws_eqMatrixS_h0, [], [(.ret, []), (.exit 0, [])], laws_eqMatrixS_r0, loopC laws_eqMatrixS_s0⟩
noncomputable def laws_eqMatrixS (a0 : List (Int × Int)) (a1 : List (Int × Int)) : Option ((Bool × Unit) × Unit × Unit) :=
 let x1 : Bool := (a0.length : Int) != (a1.length : Int);
 br x1
 (some ((false, ()), (), ()))
 ((loopC laws_eqMatrixS_s0 ((a0, a1, (0 : Int), ()), (), ())).bind fun r7 =>
 sumK r7 (fun y10 =>
 some ((y10.1.1, ()), (), ())) (fun y11 =>
 some ((true, ()), (), ())))
noncomputable def laws_eqMatrixS_C : Ctr := ⟨36, laws_eqMatrixS_arg, laws_eqMatrixS_res, fun x => laws_eqMatrixS x.1.1 x.1.2.1, none⟩
def laws_eqMatrixS_H : Hint := ⟨[], [], [], fun _ => []⟩
noncomputable def laws_eqMatrixS_T : List Ctr := [laws_eqMatrix_C]
noncomputable def laws_eqMatrixS_Ls : List Lp := [laws_eqMatrixS_L0]
theorem laws_eqMatrixS_l0 : ∀ x, laws_eqMatrixS_s0 x = stepW E0 laws_eqMatrixS_T laws_eqMatrixS_Ls laws_eqMatrixS_H (loopAt (bodyOf Tryz.f36) 0) 0 laws_eqMatrixS_h0 [] [(.ret, []), (.exit 0, [])] laws_eqMatrixS_r0 x := fun x => by kernel_rfl
theorem laws_eqMatrixS_e : ∀ x, laws_eqMatrixS_C.F x = runBodyW E0 laws_eqMatrixS_T laws_eqMatrixS_Ls laws_eqMatrixS_H 36 Tryz.f36.results.toList (bodyOf Tryz.f36) [] (laws_eqMatrixS_arg.mk' x) laws_eqMatrixS_res := fun x => by kernel_rfl
theorem laws_eqMatrixS_ok : laws_eqMatrixS_C.Ok E0 := fn_ok (T := laws_eqMatrixS_T) (h := laws_eqMatrixS_H) (Ls := laws_eqMatrixS_Ls) E0_mixed (T_cons laws_eqMatrix_ok T_nil) Tryz.func36 (bodyOf_some (by kernel_rfl)) (by kernel_rfl) (loops_of (ks := [0]) (by kernel_rfl) ⟨(loop_one (h := laws_eqMatrixS_H) (own := []) (head := laws_eqMatrixS_h0) (back := []) (exs := [(.ret, []), (.exit 0, [])]) (res := laws_eqMatrixS_r0) (step := laws_eqMatrixS_s0) (by kernel_rfl) laws_eqMatrixS_l0), trivial⟩) laws_eqMatrixS_e
def laws_eqMatrixSS_arg : Sh := ⟨[(0, .c (.rd [] .mats)), (1, .c (.rd [] .mats))], [], []⟩
def laws_eqMatrixSS_res : List Sh := [⟨[(0, .c (.bool))], [], []⟩]
noncomputable def laws_eqMatrixSS_s0 (x : (List (List (Int × Int)) × List (List (Int × Int)) × Int × Unit) × Unit × Unit) : Option (((List (List (Int × Int)) × List (List (Int × Int)) × Int × Unit) × Unit × Unit) ⊕ (((Bool × Unit) × Unit × Unit) ⊕ (Unit × Unit × Unit))) :=
 let x2 : Bool := decide (x.1.2.2.1 < (x.1.1.length : Int));
 br x2
 (ck (0 ≤ x.1.2.2.1)
 (ck (x.1.2.2.1.toNat < x.1.1.length)
 (let x3 : List (Int × Int) := x.1.1.getD x.1.2.2.1.toNat [];
 ck (0 ≤ x.1.2.2.1)
 (ck (x.1.2.2.1.toNat < x.1.2.1.length)
 (let x4 : List (Int × Int) := x.1.2.1.getD x.1.2.2.1.toNat [];
 (laws_eqMatrixS x3 x4).bind fun r5 =>
 br (!r5.1.1)
 (some (.inr (.inl ((false, ()), (), ()))))
 (let x6 : Int := w64 (x.1.2.2.1 + (1 : Int));
 some (.inl ((x.1.1, x.1.2.1, x6, ()), (), ()))))))))
 (some (.inr (.inr ((), (), ()))))
def laws_eqMatrixSS_h0 : Sh := ⟨[(0, .c (.rd [] .mats)), (1, .c (.rd [] .mats)), (5, .c (.int .i64))], [], []⟩
def laws_eqMatrixSS_r0 : List Sh := [⟨[(4, .c (.bool))], [], []⟩, ⟨[], [], []⟩]
noncomputable def laws_eqMatrixSS_L0 : Lp := ⟨0, [], laws_eqMatrixSS_h0, [], [(.ret, []), (.exit 0, [])], laws_eqMatrixSS_r0, loopC laws_eqMatrixSS_s0⟩
noncomputable def laws_eqMatrixSS (a0 : List (List (Int × Int))) (a1 : List (List (Int × Int))) : Option ((Bool × Unit) × Unit × Unit) :=
 let x1 : Bool := (a0.length : Int) != (a1.length : Int);
 br x1
 (some ((false, ()), (), ()))
 ((loopC laws_eqMatrixSS_s0 ((a0, a1, (0 : Int), ()), (), ())).bind fun r7 =>
 sumK r7 (fun y10 =>
 some ((y10.1.1, ()), (), ())) (fun y11 =>
 some ((true, ()), (), ())))
noncomputable def laws_eqMatrixSS_C : Ctr := ⟨34, laws_eqMatrixSS_arg, laws_eqMatrixSS_res, fun x => laws_eqMatrixSS x.1.1 x.1.2.1, none⟩
def laws_eqMatrixSS_H : Hint := ⟨[], [], [], fun _ => []⟩
noncomputable def laws_eqMatrixSS_T : List Ctr := [laws_eqMatrixS_C]
noncomputable def laws_eqMatrixSS_Ls : List Lp := [laws_eqMatrixSS_L0]
theorem laws_eqMatrixSS_l0 : ∀ x, laws_eqMatrixSS_s0 x = stepW E0 laws_eqMatrixSS_T laws_eqMatrixSS_Ls laws_eqMatrixSS_H (loopAt (bodyOf Tryz.f34) 0) 0 laws_eqMatrixSS_h0 [] [(.ret, []), (.exit 0, [])] laws_eqMatrixSS_r0 x := fun x => by kernel_rfl
theorem laws_eqMatrixSS_e : ∀ x, laws_eqMatrixSS_C.F x = runBodyW E0 laws_eqMatrixSS_T laws_eqMatrixSS_Ls laws_eqMatrixSS_H 34 Tryz.f34.results.toList (bodyOf Tryz.f34) [] (laws_eqMatrixSS_arg.mk' x) laws_eqMatrixSS_res := fun x => by kernel_rfl
theorem laws_eqMatrixSS_ok : laws_eqMatrixSS_C.Ok E0 := fn_ok (T := laws_eqMatrixSS_T) (h := laws_eqMatrixSS_H) (Ls := laws_eqMatrixSS_Ls) E0_mixed (T_cons laws_eqMatrixS_ok T_nil) Tryz.func34 (bodyOf_some (by kernel_rfl)) (by kernel_rfl) (loops_of (ks := [0]) (by kernel_rfl) ⟨(loop_one (h := laws_eqMatrixSS_H) (own := []) (head := laws_eqMatrixSS_h0) (back := []) (exs := [(.ret, []), (.exit 0, [])]) (res := laws_eqMatrixSS_r0) (step := laws_eqMatrixSS_s0) (by kernel_rfl) laws_eqMatrixSS_l0), trivial⟩) laws_eqMatrixSS_e
def laws_eqMeasure_arg : Sh := ⟨[(0, .agg [.int .i64, .int .i64, .int .i64]), (1, .agg [.int .i64, .int .i64, .int .i64])], [], []⟩
def laws_eqMeasure_res : List Sh := [⟨[(0, .c (.bool))], [], []⟩]
noncomputable def laws_eqMeasure (a0_0 : Int) (a0_1 : Int) (a0_2 : Int) (a1_0 : Int) (a1_1 : Int) (a1_2 : Int) : Option ((Bool × Unit) × Unit × Unit) :=
 let x1 : Bool := a0_0 != a1_0;
 br x1
 (some ((false, ()), (), ()))
 (let x2 : Bool := a0_1 != a1_1;
 br x2
 (some ((false, ()), (), ()))
 (let x3 : Bool := a0_2 != a1_2;
 br x3
 (some ((false, ()), (), ()))
 (some ((true, ()), (), ()))))
noncomputable def laws_eqMeasure_C : Ctr := ⟨35, laws_eqMeasure_arg, laws_eqMeasure_res, fun x => laws_eqMeasure x.1.1.1 x.1.1.2.1 x.1.1.2.2.1 x.1.2.1.1 x.1.2.1.2.1 x.1.2.1.2.2.1, none⟩
def laws_eqMeasure_H : Hint := ⟨[], [], [], fun _ => []⟩
noncomputable def laws_eqMeasure_T : List Ctr := []
noncomputable def laws_eqMeasure_Ls : List Lp := []
theorem laws_eqMeasure_e : ∀ x, laws_eqMeasure_C.F x = runBodyW E0 laws_eqMeasure_T laws_eqMeasure_Ls laws_eqMeasure_H 35 Tryz.f35.results.toList (bodyOf Tryz.f35) [] (laws_eqMeasure_arg.mk' x) laws_eqMeasure_res := fun x => by kernel_rfl
theorem laws_eqMeasure_ok : laws_eqMeasure_C.Ok E0 := fn_ok (T := laws_eqMeasure_T) (h := laws_eqMeasure_H) (Ls := laws_eqMeasure_Ls) E0_mixed T_nil Tryz.func35 (bodyOf_some (by kernel_rfl)) (by kernel_rfl) (loops_of (ks := []) (by kernel_rfl) trivial) laws_eqMeasure_e
def laws_eqMachine_arg : Sh := ⟨[(0, .agg [.str, .rd [] .i64, .rd [] .i64, .rd [] .mats, .int .i64, .int .i64, .int .i64, .int .i64, .rd [] .mat, .rd [] .mat]), (1, .agg [.str, .rd [] .i64, .rd [] .i64, .rd [] .mats, .int .i64, .int .i64, .int .i64, .int .i64, .rd [] .mat, .rd [] .mat])], [], []⟩
def laws_eqMachine_res : List Sh := [⟨[(0, .c (.bool))], [], []⟩]
noncomputable def laws_eqMachine (a0_0 : ByteArray) (a0_1 : List Int) (a0_2 : List Int) (a0_3 : List (List (Int × Int))) (a0_4 : Int) (a0_5 : Int) (a0_6 : Int) (a0_7 : Int) (a0_8 : List (Int × Int)) (a0_9 : List (Int × Int)) (a1_0 : ByteArray) (a1_1 : List Int) (a1_2 : List Int) (a1_3 : List (List (Int × Int))) (a1_4 : Int) (a1_5 : Int) (a1_6 : Int) (a1_7 : Int) (a1_8 : List (Int × Int)) (a1_9 : List (Int × Int)) : Option ((Bool × Unit) × Unit × Unit) :=
 (laws_eqFont a0_0 a0_1 a0_2 a1_0 a1_1 a1_2).bind fun r1 =>
 br (!r1.1.1)
 (some ((false, ()), (), ()))
 ((laws_eqMatrixSS a0_3 a1_3).bind fun r2 =>
 br (!r2.1.1)
 (some ((false, ()), (), ()))
 (let x3 : Bool := a0_4 != a1_4;
 br x3
 (some ((false, ()), (), ()))
 ((laws_eqMeasure a0_5 a0_6 a0_7 a1_5 a1_6 a1_7).bind fun r4 =>
 br (!r4.1.1)
 (some ((false, ()), (), ()))
 ((laws_eqMatrixS a0_8 a1_8).bind fun r5 =>
 br (!r5.1.1)
 (some ((false, ()), (), ()))
 ((laws_eqMatrixS a0_9 a1_9).bind fun r6 =>
 br (!r6.1.1)
 (some ((false, ()), (), ()))
 (some ((true, ()), (), ())))))))
noncomputable def laws_eqMachine_C : Ctr := ⟨10, laws_eqMachine_arg, laws_eqMachine_res, fun x => laws_eqMachine x.1.1.1 x.1.1.2.1 x.1.1.2.2.1 x.1.1.2.2.2.1 x.1.1.2.2.2.2.1 x.1.1.2.2.2.2.2.1 x.1.1.2.2.2.2.2.2.1 x.1.1.2.2.2.2.2.2.2.1 x.1.1.2.2.2.2.2.2.2.2.1 x.1.1.2.2.2.2.2.2.2.2.2.1 x.1.2.1.1 x.1.2.1.2.1 x.1.2.1.2.2.1 x.1.2.1.2.2.2.1 x.1.2.1.2.2.2.2.1 x.1.2.1.2.2.2.2.2.1 x.1.2.1.2.2.2.2.2.2.1 x.1.2.1.2.2.2.2.2.2.2.1 x.1.2.1.2.2.2.2.2.2.2.2.1 x.1.2.1.2.2.2.2.2.2.2.2.2.1, none⟩
def laws_eqMachine_H : Hint := ⟨[], [], [], fun _ => []⟩
noncomputable def laws_eqMachine_T : List Ctr := [laws_eqFont_C, laws_eqMatrixSS_C, laws_eqMeasure_C, laws_eqMatrixS_C]
noncomputable def laws_eqMachine_Ls : List Lp := []
theorem laws_eqMachine_e : ∀ x, laws_eqMachine_C.F x = runBodyW E0 laws_eqMachine_T laws_eqMachine_Ls laws_eqMachine_H 10 Tryz.f10.results.toList (bodyOf Tryz.f10) [] (laws_eqMachine_arg.mk' x) laws_eqMachine_res := fun x => by kernel_rfl
theorem laws_eqMachine_ok : laws_eqMachine_C.Ok E0 := fn_ok (T := laws_eqMachine_T) (h := laws_eqMachine_H) (Ls := laws_eqMachine_Ls) E0_mixed (T_cons laws_eqFont_ok (T_cons laws_eqMatrixSS_ok (T_cons laws_eqMeasure_ok (T_cons laws_eqMatrixS_ok T_nil)))) Tryz.func10 (bodyOf_some (by kernel_rfl)) (by kernel_rfl) (loops_of (ks := []) (by kernel_rfl) trivial) laws_eqMachine_e
def laws_eqStringS_arg : Sh := ⟨[(0, .c (.rd [] .str)), (1, .c (.rd [] .str))], [], []⟩
def laws_eqStringS_res : List Sh := [⟨[(0, .c (.bool))], [], []⟩]
noncomputable def laws_eqStringS_s0 (x : (List ByteArray × List ByteArray × Int × Unit) × Unit × Unit) : Option (((List ByteArray × List ByteArray × Int × Unit) × Unit × Unit) ⊕ (((Bool × Unit) × Unit × Unit) ⊕ (Unit × Unit × Unit))) :=
 let x2 : Bool := decide (x.1.2.2.1 < (x.1.1.length : Int));
 br x2
 (ck (0 ≤ x.1.2.2.1)
 (ck (x.1.2.2.1.toNat < x.1.1.length)
 (let x3 : ByteArray := x.1.1.getD x.1.2.2.1.toNat ByteArray.empty;
 ck (0 ≤ x.1.2.2.1)
 (ck (x.1.2.2.1.toNat < x.1.2.1.length)
 (let x4 : ByteArray := x.1.2.1.getD x.1.2.2.1.toNat ByteArray.empty;
 let x5 : Bool := !strEq x3 x4;
 br x5
 (some (.inr (.inl ((false, ()), (), ()))))
 (let x6 : Int := w64 (x.1.2.2.1 + (1 : Int));
 some (.inl ((x.1.1, x.1.2.1, x6, ()), (), ()))))))))
 (some (.inr (.inr ((), (), ()))))
def laws_eqStringS_h0 : Sh := ⟨[(0, .c (.rd [] .str)), (1, .c (.rd [] .str)), (5, .c (.int .i64))], [], []⟩
def laws_eqStringS_r0 : List Sh := [⟨[(4, .c (.bool))], [], []⟩, ⟨[], [], []⟩]
noncomputable def laws_eqStringS_L0 : Lp := ⟨0, [], laws_eqStringS_h0, [], [(.ret, []), (.exit 0, [])], laws_eqStringS_r0, loopC laws_eqStringS_s0⟩
noncomputable def laws_eqStringS (a0 : List ByteArray) (a1 : List ByteArray) : Option ((Bool × Unit) × Unit × Unit) :=
 let x1 : Bool := (a0.length : Int) != (a1.length : Int);
 br x1
 (some ((false, ()), (), ()))
 ((loopC laws_eqStringS_s0 ((a0, a1, (0 : Int), ()), (), ())).bind fun r7 =>
 sumK r7 (fun y10 =>
 some ((y10.1.1, ()), (), ())) (fun y11 =>
 some ((true, ()), (), ())))
noncomputable def laws_eqStringS_C : Ctr := ⟨11, laws_eqStringS_arg, laws_eqStringS_res, fun x => laws_eqStringS x.1.1 x.1.2.1, none⟩
def laws_eqStringS_H : Hint := ⟨[], [], [], fun _ => []⟩
noncomputable def laws_eqStringS_T : List Ctr := []
noncomputable def laws_eqStringS_Ls : List Lp := [laws_eqStringS_L0]
theorem laws_eqStringS_l0 : ∀ x, laws_eqStringS_s0 x = stepW E0 laws_eqStringS_T laws_eqStringS_Ls laws_eqStringS_H (loopAt (bodyOf Tryz.f11) 0) 0 laws_eqStringS_h0 [] [(.ret, []), (.exit 0, [])] laws_eqStringS_r0 x := fun x => by kernel_rfl
theorem laws_eqStringS_e : ∀ x, laws_eqStringS_C.F x = runBodyW E0 laws_eqStringS_T laws_eqStringS_Ls laws_eqStringS_H 11 Tryz.f11.results.toList (bodyOf Tryz.f11) [] (laws_eqStringS_arg.mk' x) laws_eqStringS_res := fun x => by kernel_rfl
theorem laws_eqStringS_ok : laws_eqStringS_C.Ok E0 := fn_ok (T := laws_eqStringS_T) (h := laws_eqStringS_H) (Ls := laws_eqStringS_Ls) E0_mixed T_nil Tryz.func11 (bodyOf_some (by kernel_rfl)) (by kernel_rfl) (loops_of (ks := [0]) (by kernel_rfl) ⟨(loop_one (h := laws_eqStringS_H) (own := []) (head := laws_eqStringS_h0) (back := []) (exs := [(.ret, []), (.exit 0, [])]) (res := laws_eqStringS_r0) (step := laws_eqStringS_s0) (by kernel_rfl) laws_eqStringS_l0), trivial⟩) laws_eqStringS_e
def laws_markIntS_arg : Sh := ⟨[(0, .c (.own 0)), (1, .c (.int .i64))], [], [(0, .i64)]⟩
def laws_markIntS_res : List Sh := [⟨[(0, .c (.int .i64)), (1, .c (.own 0))], [], [(0, .i64)]⟩]
noncomputable def laws_markIntS_s0 (x : (Unit × Int × Int × Unit) × Unit × (List Int × Unit)) : Option (((Unit × Int × Int × Unit) × Unit × (List Int × Unit)) ⊕ ((Unit × Int × Unit) × Unit × (List Int × Unit))) :=
 let x1 : Bool := decide (x.1.2.2.1 < (x.2.2.1.length : Int));
 br x1
 (ck (0 ≤ x.1.2.2.1)
 (ck (x.1.2.2.1.toNat < x.2.2.1.length)
 (ck (x.1.2.2.1.toNat < x.2.2.1.length)
 (let x2 : List Int := x.2.2.1.set x.1.2.2.1.toNat x.1.2.1;
 let x3 : Int := w64 (x.1.2.1 + (1 : Int));
 let x4 : Int := w64 (x.1.2.2.1 + (1 : Int));
 some (.inl (((), x3, x4, ()), (), (x2, ())))))))
 (some (.inr (((), x.1.2.1, ()), (), (x.2.2.1, ()))))
def laws_markIntS_h0 : Sh := ⟨[(0, .c (.own 0)), (1, .c (.int .i64)), (5, .c (.int .i64))], [], [(0, .i64)]⟩
def laws_markIntS_r0 : List Sh := [⟨[(0, .c (.own 0)), (1, .c (.int .i64))], [], [(0, .i64)]⟩]
noncomputable def laws_markIntS_L0 : Lp := ⟨0, [], laws_markIntS_h0, [], [(.exit 0, [])], laws_markIntS_r0, loopC laws_markIntS_s0⟩
noncomputable def laws_markIntS (a1 : Int) (o0 : List Int) : Option ((Int × Unit × Unit) × Unit × (List Int × Unit)) :=
 (loopC laws_markIntS_s0 (((), a1, (0 : Int), ()), (), (o0, ()))).bind fun r5 =>
 some ((r5.1.2.1, (), ()), (), (r5.2.2.1, ()))
noncomputable def laws_markIntS_C : Ctr := ⟨78, laws_markIntS_arg, laws_markIntS_res, fun x => laws_markIntS x.1.2.1 x.2.2.1, none⟩
def laws_markIntS_H : Hint := ⟨[], [], [], fun _ => []⟩
noncomputable def laws_markIntS_T : List Ctr := []
noncomputable def laws_markIntS_Ls : List Lp := [laws_markIntS_L0]
theorem laws_markIntS_l0 : ∀ x, laws_markIntS_s0 x = stepW E0 laws_markIntS_T laws_markIntS_Ls laws_markIntS_H (loopAt (bodyOf Tryz.f78) 0) 0 laws_markIntS_h0 [] [(.exit 0, [])] laws_markIntS_r0 x := fun x => by kernel_rfl
theorem laws_markIntS_e : ∀ x, laws_markIntS_C.F x = runBodyW E0 laws_markIntS_T laws_markIntS_Ls laws_markIntS_H 78 Tryz.f78.results.toList (bodyOf Tryz.f78) [] (laws_markIntS_arg.mk' x) laws_markIntS_res := fun x => by kernel_rfl
theorem laws_markIntS_ok : laws_markIntS_C.Ok E0 := fn_ok (T := laws_markIntS_T) (h := laws_markIntS_H) (Ls := laws_markIntS_Ls) E0_mixed T_nil Tryz.func78 (bodyOf_some (by kernel_rfl)) (by kernel_rfl) (loops_of (ks := [0]) (by kernel_rfl) ⟨(loop_one (h := laws_markIntS_H) (own := []) (head := laws_markIntS_h0) (back := []) (exs := [(.exit 0, [])]) (res := laws_markIntS_r0) (step := laws_markIntS_s0) (by kernel_rfl) laws_markIntS_l0), trivial⟩) laws_markIntS_e
def laws_markFont_arg : Sh := ⟨[(0, .agg [.str, .own 0, .own 1]), (1, .c (.int .i64))], [], [(0, .i64), (1, .i64)]⟩
def laws_markFont_res : List Sh := [⟨[(0, .c (.int .i64)), (1, .agg [.str, .own 0, .own 1])], [], [(0, .i64), (1, .i64)]⟩]
noncomputable def laws_markFont (a0_0 : ByteArray) (a1 : Int) (o0 : List Int) (o1 : List Int) : Option ((Int × (ByteArray × Unit × Unit × Unit) × Unit) × Unit × (List Int × List Int × Unit)) :=
 (laws_markIntS a1 o0).bind fun r1 =>
 (laws_markIntS r1.1.1 o1).bind fun r2 =>
 some ((r2.1.1, (a0_0, (), (), ()), ()), (), (r1.2.2.1, r2.2.2.1, ()))
noncomputable def laws_markFont_C : Ctr := ⟨37, laws_markFont_arg, laws_markFont_res, fun x => laws_markFont x.1.1.1 x.1.2.1 x.2.2.1 x.2.2.2.1, none⟩
def laws_markFont_H : Hint := ⟨[], [], [], fun _ => []⟩
noncomputable def laws_markFont_T : List Ctr := [laws_markIntS_C]
noncomputable def laws_markFont_Ls : List Lp := []
theorem laws_markFont_e : ∀ x, laws_markFont_C.F x = runBodyW E0 laws_markFont_T laws_markFont_Ls laws_markFont_H 37 Tryz.f37.results.toList (bodyOf Tryz.f37) [] (laws_markFont_arg.mk' x) laws_markFont_res := fun x => by kernel_rfl
theorem laws_markFont_ok : laws_markFont_C.Ok E0 := fn_ok (T := laws_markFont_T) (h := laws_markFont_H) (Ls := laws_markFont_Ls) E0_mixed (T_cons laws_markIntS_ok T_nil) Tryz.func37 (bodyOf_some (by kernel_rfl)) (by kernel_rfl) (loops_of (ks := []) (by kernel_rfl) trivial) laws_markFont_e
def laws_markMatrixS_arg : Sh := ⟨[(0, .c (.own 0)), (1, .c (.int .i64))], [], [(0, .mat)]⟩
def laws_markMatrixS_res : List Sh := [⟨[(0, .c (.int .i64)), (1, .c (.own 0))], [], [(0, .mat)]⟩]
noncomputable def laws_markMatrixS_s0 (x : (Unit × Int × Int × Unit) × Unit × (List (Int × Int) × Unit)) : Option (((Unit × Int × Int × Unit) × Unit × (List (Int × Int) × Unit)) ⊕ ((Unit × Int × Unit) × Unit × (List (Int × Int) × Unit))) :=
 let x1 : Bool := decide (x.1.2.2.1 < (x.2.2.1.length : Int));
 br x1
 (ck (0 ≤ x.1.2.2.1)
 (ck (x.1.2.2.1.toNat < x.2.2.1.length)
 (ck (x.1.2.2.1.toNat < x.2.2.1.length)
 (let x2 : List (Int × Int) := x.2.2.1.set x.1.2.2.1.toNat (x.1.2.1, (x.2.2.1.getD x.1.2.2.1.toNat (0, 0)).2);
 let x3 : Int := w64 (x.1.2.1 + (1 : Int));
 ck (0 ≤ x.1.2.2.1)
 (ck (x.1.2.2.1.toNat < x2.length)
 (ck (x.1.2.2.1.toNat < x2.length)
 (let x4 : List (Int × Int) := x2.set x.1.2.2.1.toNat ((x2.getD x.1.2.2.1.toNat (0, 0)).1, x3);
 let x5 : Int := w64 (x3 + (1 : Int));
 let x6 : Int := w64 (x.1.2.2.1 + (1 : Int));
 some (.inl (((), x5, x6, ()), (), (x4, ()))))))))))
 (some (.inr (((), x.1.2.1, ()), (), (x.2.2.1, ()))))
def laws_markMatrixS_h0 : Sh := ⟨[(0, .c (.own 0)), (1, .c (.int .i64)), (5, .c (.int .i64))], [], [(0, .mat)]⟩
def laws_markMatrixS_r0 : List Sh := [⟨[(0, .c (.own 0)), (1, .c (.int .i64))], [], [(0, .mat)]⟩]
noncomputable def laws_markMatrixS_L0 : Lp := ⟨0, [], laws_markMatrixS_h0, [], [(.exit 0, [])], laws_markMatrixS_r0, loopC laws_markMatrixS_s0⟩
noncomputable def laws_markMatrixS (a1 : Int) (o0 : List (Int × Int)) : Option ((Int × Unit × Unit) × Unit × (List (Int × Int) × Unit)) :=
 (loopC laws_markMatrixS_s0 (((), a1, (0 : Int), ()), (), (o0, ()))).bind fun r7 =>
 some ((r7.1.2.1, (), ()), (), (r7.2.2.1, ()))
noncomputable def laws_markMatrixS_C : Ctr := ⟨39, laws_markMatrixS_arg, laws_markMatrixS_res, fun x => laws_markMatrixS x.1.2.1 x.2.2.1, none⟩
def laws_markMatrixS_H : Hint := ⟨[], [], [], fun _ => []⟩
noncomputable def laws_markMatrixS_T : List Ctr := []
noncomputable def laws_markMatrixS_Ls : List Lp := [laws_markMatrixS_L0]
theorem laws_markMatrixS_l0 : ∀ x, laws_markMatrixS_s0 x = stepW E0 laws_markMatrixS_T laws_markMatrixS_Ls laws_markMatrixS_H (loopAt (bodyOf Tryz.f39) 0) 0 laws_markMatrixS_h0 [] [(.exit 0, [])] laws_markMatrixS_r0 x := fun x => by kernel_rfl
theorem laws_markMatrixS_e : ∀ x, laws_markMatrixS_C.F x = runBodyW E0 laws_markMatrixS_T laws_markMatrixS_Ls laws_markMatrixS_H 39 Tryz.f39.results.toList (bodyOf Tryz.f39) [] (laws_markMatrixS_arg.mk' x) laws_markMatrixS_res := fun x => by kernel_rfl
theorem laws_markMatrixS_ok : laws_markMatrixS_C.Ok E0 := fn_ok (T := laws_markMatrixS_T) (h := laws_markMatrixS_H) (Ls := laws_markMatrixS_Ls) E0_mixed T_nil Tryz.func39 (bodyOf_some (by kernel_rfl)) (by kernel_rfl) (loops_of (ks := [0]) (by kernel_rfl) ⟨(loop_one (h := laws_markMatrixS_H) (own := []) (head := laws_markMatrixS_h0) (back := []) (exs := [(.exit 0, [])]) (res := laws_markMatrixS_r0) (step := laws_markMatrixS_s0) (by kernel_rfl) laws_markMatrixS_l0), trivial⟩) laws_markMatrixS_e
def laws_markMatrixSS_arg : Sh := ⟨[(0, .c (.own 0)), (1, .c (.int .i64))], [], [(0, .mats)]⟩
def laws_markMatrixSS_res : List Sh := [⟨[(0, .c (.int .i64)), (1, .c (.own 0))], [], [(0, .mats)]⟩]
noncomputable def laws_markMatrixSS_s0 (x : (Unit × Int × Int × Unit) × Unit × (List (List (Int × Int)) × Unit)) : Option (((Unit × Int × Int × Unit) × Unit × (List (List (Int × Int)) × Unit)) ⊕ ((Unit × Int × Unit) × Unit × (List (List (Int × Int)) × Unit))) :=
 let x1 : Bool := decide (x.1.2.2.1 < (x.2.2.1.length : Int));
 br x1
 (ck (0 ≤ x.1.2.2.1)
 (ck (x.1.2.2.1.toNat < x.2.2.1.length)
 (ck (x.1.2.2.1.toNat < x.2.2.1.length)
 (ck (x.1.2.2.1.toNat = x.1.2.2.1.toNat)
 (ck (x.1.2.2.1.toNat < x.2.2.1.length)
 (let x2 : List (Int × Int) := x.2.2.1.getD x.1.2.2.1.toNat [];
 ck (x.1.2.2.1.toNat = x.1.2.2.1.toNat ∧ x.1.2.2.1.toNat < x.2.2.1.length)
 ((laws_markMatrixS x.1.2.1 x2).bind fun r3 =>
 ck (x.1.2.2.1.toNat = x.1.2.2.1.toNat ∧ x.1.2.2.1.toNat < x.2.2.1.length)
 (let x4 : List (List (Int × Int)) := x.2.2.1.set x.1.2.2.1.toNat r3.2.2.1;
 let x5 : Int := w64 (x.1.2.2.1 + (1 : Int));
 some (.inl (((), r3.1.1, x5, ()), (), (x4, ())))))))))))
 (some (.inr (((), x.1.2.1, ()), (), (x.2.2.1, ()))))
def laws_markMatrixSS_h0 : Sh := ⟨[(0, .c (.own 0)), (1, .c (.int .i64)), (5, .c (.int .i64))], [], [(0, .mats)]⟩
def laws_markMatrixSS_r0 : List Sh := [⟨[(0, .c (.own 0)), (1, .c (.int .i64))], [], [(0, .mats)]⟩]
noncomputable def laws_markMatrixSS_L0 : Lp := ⟨0, [], laws_markMatrixSS_h0, [], [(.exit 0, [])], laws_markMatrixSS_r0, loopC laws_markMatrixSS_s0⟩
noncomputable def laws_markMatrixSS (a1 : Int) (o0 : List (List (Int × Int))) : Option ((Int × Unit × Unit) × Unit × (List (List (Int × Int)) × Unit)) :=
 (loopC laws_markMatrixSS_s0 (((), a1, (0 : Int), ()), (), (o0, ()))).bind fun r6 =>
 some ((r6.1.2.1, (), ()), (), (r6.2.2.1, ()))
noncomputable def laws_markMatrixSS_C : Ctr := ⟨38, laws_markMatrixSS_arg, laws_markMatrixSS_res, fun x => laws_markMatrixSS x.1.2.1 x.2.2.1, none⟩
def laws_markMatrixSS_H : Hint := ⟨[], [], [], fun _ => []⟩
noncomputable def laws_markMatrixSS_T : List Ctr := [laws_markMatrixS_C]
noncomputable def laws_markMatrixSS_Ls : List Lp := [laws_markMatrixSS_L0]
theorem laws_markMatrixSS_l0 : ∀ x, laws_markMatrixSS_s0 x = stepW E0 laws_markMatrixSS_T laws_markMatrixSS_Ls laws_markMatrixSS_H (loopAt (bodyOf Tryz.f38) 0) 0 laws_markMatrixSS_h0 [] [(.exit 0, [])] laws_markMatrixSS_r0 x := fun x => by kernel_rfl
theorem laws_markMatrixSS_e : ∀ x, laws_markMatrixSS_C.F x = runBodyW E0 laws_markMatrixSS_T laws_markMatrixSS_Ls laws_markMatrixSS_H 38 Tryz.f38.results.toList (bodyOf Tryz.f38) [] (laws_markMatrixSS_arg.mk' x) laws_markMatrixSS_res := fun x => by kernel_rfl
theorem laws_markMatrixSS_ok : laws_markMatrixSS_C.Ok E0 := fn_ok (T := laws_markMatrixSS_T) (h := laws_markMatrixSS_H) (Ls := laws_markMatrixSS_Ls) E0_mixed (T_cons laws_markMatrixS_ok T_nil) Tryz.func38 (bodyOf_some (by kernel_rfl)) (by kernel_rfl) (loops_of (ks := [0]) (by kernel_rfl) ⟨(loop_one (h := laws_markMatrixSS_H) (own := []) (head := laws_markMatrixSS_h0) (back := []) (exs := [(.exit 0, [])]) (res := laws_markMatrixSS_r0) (step := laws_markMatrixSS_s0) (by kernel_rfl) laws_markMatrixSS_l0), trivial⟩) laws_markMatrixSS_e
def laws_markMachine_arg : Sh := ⟨[(0, .agg [.str, .own 0, .own 1, .own 2, .int .i64, .int .i64, .int .i64, .int .i64, .own 3, .own 4]), (1, .c (.int .i64))], [], [(0, .i64), (1, .i64), (2, .mats), (3, .mat), (4, .mat)]⟩
def laws_markMachine_res : List Sh := [⟨[(0, .c (.int .i64)), (1, .agg [.str, .own 0, .own 1, .own 2, .int .i64, .int .i64, .int .i64, .int .i64, .own 3, .own 4])], [], [(0, .i64), (1, .i64), (2, .mats), (3, .mat), (4, .mat)]⟩]
noncomputable def laws_markMachine (a0_0 : ByteArray) (a0_4 : Int) (a0_5 : Int) (a0_6 : Int) (a0_7 : Int) (a1 : Int) (o0 : List Int) (o1 : List Int) (o2 : List (List (Int × Int))) (o3 : List (Int × Int)) (o4 : List (Int × Int)) : Option ((Int × (ByteArray × Unit × Unit × Unit × Int × Int × Int × Int × Unit × Unit × Unit) × Unit) × Unit × (List Int × List Int × List (List (Int × Int)) × List (Int × Int) × List (Int × Int) × Unit)) :=
 (laws_markFont a0_0 a1 o0 o1).bind fun r1 =>
 (laws_markMatrixSS r1.1.1 o2).bind fun r2 =>
 (laws_markMatrixS r2.1.1 o3).bind fun r3 =>
 (laws_markMatrixS r3.1.1 o4).bind fun r4 =>
 some ((r4.1.1, (a0_0, (), (), (), a0_4, a0_5, a0_6, a0_7, (), (), ()), ()), (), (r1.2.2.1, r1.2.2.2.1, r2.2.2.1, r3.2.2.1, r4.2.2.1, ()))
noncomputable def laws_markMachine_C : Ctr := ⟨12, laws_markMachine_arg, laws_markMachine_res, fun x => laws_markMachine x.1.1.1 x.1.1.2.2.2.2.1 x.1.1.2.2.2.2.2.1 x.1.1.2.2.2.2.2.2.1 x.1.1.2.2.2.2.2.2.2.1 x.1.2.1 x.2.2.1 x.2.2.2.1 x.2.2.2.2.1 x.2.2.2.2.2.1 x.2.2.2.2.2.2.1, none⟩
def laws_markMachine_H : Hint := ⟨[], [], [], fun _ => []⟩
noncomputable def laws_markMachine_T : List Ctr := [laws_markFont_C, laws_markMatrixSS_C, laws_markMatrixS_C]
noncomputable def laws_markMachine_Ls : List Lp := []
theorem laws_markMachine_e : ∀ x, laws_markMachine_C.F x = runBodyW E0 laws_markMachine_T laws_markMachine_Ls laws_markMachine_H 12 Tryz.f12.results.toList (bodyOf Tryz.f12) [] (laws_markMachine_arg.mk' x) laws_markMachine_res := fun x => by kernel_rfl
theorem laws_markMachine_ok : laws_markMachine_C.Ok E0 := fn_ok (T := laws_markMachine_T) (h := laws_markMachine_H) (Ls := laws_markMachine_Ls) E0_mixed (T_cons laws_markFont_ok (T_cons laws_markMatrixSS_ok (T_cons laws_markMatrixS_ok T_nil))) Tryz.func12 (bodyOf_some (by kernel_rfl)) (by kernel_rfl) (loops_of (ks := []) (by kernel_rfl) trivial) laws_markMachine_e
def laws_markText_arg : Sh := ⟨[(0, .c (.int .i64))], [], []⟩
def laws_markText_res : List Sh := [⟨[(0, .c (.str))], [], []⟩]
noncomputable def laws_markText_s0 (x : (Int × ByteArray × Unit) × Unit × Unit) : Option (((Int × ByteArray × Unit) × Unit × Unit) ⊕ ((ByteArray × Unit) × Unit × Unit)) :=
 let x2 : Bool := decide (x.1.1 > (0 : Int));
 br x2
 (let x3 : Int := x.1.1.tmod (10 : Int);
 let x4 : Int := w64 ((48 : Int) + x3);
 let x5 : Int := IntKind.u8.wrap x4;
 let x6 : ByteArray := ofBytes [x5];
 ck (((x6.size + x.1.2.1.size : Nat) : Int) ≤ IntKind.i64.max)
 (let x7 : ByteArray := x6 ++ x.1.2.1;
 let x8 : Int := w64 (x.1.1.tdiv (10 : Int));
 some (.inl ((x8, x7, ()), (), ()))))
 (some (.inr ((x.1.2.1, ()), (), ())))
def laws_markText_h0 : Sh := ⟨[(0, .c (.int .i64)), (3, .c (.str))], [], []⟩
def laws_markText_r0 : List Sh := [⟨[(3, .c (.str))], [], []⟩]
noncomputable def laws_markText_L0 : Lp := ⟨0, [], laws_markText_h0, [], [(.exit 0, [])], laws_markText_r0, loopC laws_markText_s0⟩
noncomputable def laws_markText (a0 : Int) : Option ((ByteArray × Unit) × Unit × Unit) :=
 let x1 : Bool := decide (a0 ≤ (0 : Int));
 br x1
 (some (((ByteArray.mk #[109, 48]), ()), (), ()))
 ((loopC laws_markText_s0 ((a0, ByteArray.empty, ()), (), ())).bind fun r9 =>
 ck ((((ByteArray.mk #[109]).size + r9.1.1.size : Nat) : Int) ≤ IntKind.i64.max)
 (let x10 : ByteArray := (ByteArray.mk #[109]) ++ r9.1.1;
 some ((x10, ()), (), ())))
noncomputable def laws_markText_C : Ctr := ⟨40, laws_markText_arg, laws_markText_res, fun x => laws_markText x.1.1, none⟩
def laws_markText_H : Hint := ⟨[], [], [], fun _ => []⟩
noncomputable def laws_markText_T : List Ctr := []
noncomputable def laws_markText_Ls : List Lp := [laws_markText_L0]
theorem laws_markText_l0 : ∀ x, laws_markText_s0 x = stepW E0 laws_markText_T laws_markText_Ls laws_markText_H (loopAt (bodyOf Tryz.f40) 0) 0 laws_markText_h0 [] [(.exit 0, [])] laws_markText_r0 x := fun x => by kernel_rfl
theorem laws_markText_e : ∀ x, laws_markText_C.F x = runBodyW E0 laws_markText_T laws_markText_Ls laws_markText_H 40 Tryz.f40.results.toList (bodyOf Tryz.f40) [] (laws_markText_arg.mk' x) laws_markText_res := fun x => by kernel_rfl
theorem laws_markText_ok : laws_markText_C.Ok E0 := fn_ok (T := laws_markText_T) (h := laws_markText_H) (Ls := laws_markText_Ls) E0_mixed T_nil Tryz.func40 (bodyOf_some (by kernel_rfl)) (by kernel_rfl) (loops_of (ks := [0]) (by kernel_rfl) ⟨(loop_one (h := laws_markText_H) (own := []) (head := laws_markText_h0) (back := []) (exs := [(.exit 0, [])]) (res := laws_markText_r0) (step := laws_markText_s0) (by kernel_rfl) laws_markText_l0), trivial⟩) laws_markText_e
def laws_markStringS_arg : Sh := ⟨[(0, .c (.own 0)), (1, .c (.int .i64))], [], [(0, .str)]⟩
def laws_markStringS_res : List Sh := [⟨[(0, .c (.int .i64)), (1, .c (.own 0))], [], [(0, .str)]⟩]
noncomputable def laws_markStringS_s0 (x : (Unit × Int × Int × Unit) × Unit × (List ByteArray × Unit)) : Option (((Unit × Int × Int × Unit) × Unit × (List ByteArray × Unit)) ⊕ ((Unit × Int × Unit) × Unit × (List ByteArray × Unit))) :=
 let x1 : Bool := decide (x.1.2.2.1 < (x.2.2.1.length : Int));
 br x1
 ((laws_markText x.1.2.1).bind fun r2 =>
 ck (0 ≤ x.1.2.2.1)
 (ck (x.1.2.2.1.toNat < x.2.2.1.length)
 (ck (x.1.2.2.1.toNat < x.2.2.1.length)
 (let x3 : List ByteArray := x.2.2.1.set x.1.2.2.1.toNat r2.1.1;
 let x4 : Int := w64 (x.1.2.1 + (1 : Int));
 let x5 : Int := w64 (x.1.2.2.1 + (1 : Int));
 some (.inl (((), x4, x5, ()), (), (x3, ())))))))
 (some (.inr (((), x.1.2.1, ()), (), (x.2.2.1, ()))))
def laws_markStringS_h0 : Sh := ⟨[(0, .c (.own 0)), (1, .c (.int .i64)), (5, .c (.int .i64))], [], [(0, .str)]⟩
def laws_markStringS_r0 : List Sh := [⟨[(0, .c (.own 0)), (1, .c (.int .i64))], [], [(0, .str)]⟩]
noncomputable def laws_markStringS_L0 : Lp := ⟨0, [], laws_markStringS_h0, [], [(.exit 0, [])], laws_markStringS_r0, loopC laws_markStringS_s0⟩
noncomputable def laws_markStringS (a1 : Int) (o0 : List ByteArray) : Option ((Int × Unit × Unit) × Unit × (List ByteArray × Unit)) :=
 (loopC laws_markStringS_s0 (((), a1, (0 : Int), ()), (), (o0, ()))).bind fun r6 =>
 some ((r6.1.2.1, (), ()), (), (r6.2.2.1, ()))
noncomputable def laws_markStringS_C : Ctr := ⟨13, laws_markStringS_arg, laws_markStringS_res, fun x => laws_markStringS x.1.2.1 x.2.2.1, none⟩
def laws_markStringS_H : Hint := ⟨[], [], [], fun _ => []⟩
noncomputable def laws_markStringS_T : List Ctr := [laws_markText_C]
noncomputable def laws_markStringS_Ls : List Lp := [laws_markStringS_L0]
theorem laws_markStringS_l0 : ∀ x, laws_markStringS_s0 x = stepW E0 laws_markStringS_T laws_markStringS_Ls laws_markStringS_H (loopAt (bodyOf Tryz.f13) 0) 0 laws_markStringS_h0 [] [(.exit 0, [])] laws_markStringS_r0 x := fun x => by kernel_rfl
theorem laws_markStringS_e : ∀ x, laws_markStringS_C.F x = runBodyW E0 laws_markStringS_T laws_markStringS_Ls laws_markStringS_H 13 Tryz.f13.results.toList (bodyOf Tryz.f13) [] (laws_markStringS_arg.mk' x) laws_markStringS_res := fun x => by kernel_rfl
theorem laws_markStringS_ok : laws_markStringS_C.Ok E0 := fn_ok (T := laws_markStringS_T) (h := laws_markStringS_H) (Ls := laws_markStringS_Ls) E0_mixed (T_cons laws_markText_ok T_nil) Tryz.func13 (bodyOf_some (by kernel_rfl)) (by kernel_rfl) (loops_of (ks := [0]) (by kernel_rfl) ⟨(loop_one (h := laws_markStringS_H) (own := []) (head := laws_markStringS_h0) (back := []) (exs := [(.exit 0, [])]) (res := laws_markStringS_r0) (step := laws_markStringS_s0) (by kernel_rfl) laws_markStringS_l0), trivial⟩) laws_markStringS_e
def laws_heldIntS_arg : Sh := ⟨[(0, .c (.rd [] .i64)), (1, .c (.int .i64))], [], []⟩
def laws_heldIntS_res : List Sh := [⟨[(0, .c (.int .i64))], [], []⟩]
noncomputable def laws_heldIntS_s0 (x : (List Int × Int × Int × Unit) × Unit × Unit) : Option (((List Int × Int × Int × Unit) × Unit × Unit) ⊕ (((Int × Unit) × Unit × Unit) ⊕ ((Int × Unit) × Unit × Unit))) :=
 let x1 : Bool := decide (x.1.2.2.1 < (x.1.1.length : Int));
 br x1
 (ck (0 ≤ x.1.2.2.1)
 (ck (x.1.2.2.1.toNat < x.1.1.length)
 (let x2 : Int := x.1.1.getD x.1.2.2.1.toNat 0;
 let x3 : Bool := x2 != x.1.2.1;
 br x3
 (some (.inr (.inl (((-1 : Int), ()), (), ()))))
 (let x4 : Int := w64 (x.1.2.1 + (1 : Int));
 let x5 : Int := w64 (x.1.2.2.1 + (1 : Int));
 some (.inl ((x.1.1, x4, x5, ()), (), ()))))))
 (some (.inr (.inr ((x.1.2.1, ()), (), ()))))
def laws_heldIntS_h0 : Sh := ⟨[(0, .c (.rd [] .i64)), (1, .c (.int .i64)), (5, .c (.int .i64))], [], []⟩
def laws_heldIntS_r0 : List Sh := [⟨[(4, .c (.int .i64))], [], []⟩, ⟨[(1, .c (.int .i64))], [], []⟩]
noncomputable def laws_heldIntS_L0 : Lp := ⟨0, [], laws_heldIntS_h0, [], [(.ret, []), (.exit 0, [])], laws_heldIntS_r0, loopC laws_heldIntS_s0⟩
noncomputable def laws_heldIntS (a0 : List Int) (a1 : Int) : Option ((Int × Unit) × Unit × Unit) :=
 (loopC laws_heldIntS_s0 ((a0, a1, (0 : Int), ()), (), ())).bind fun r6 =>
 sumK r6 (fun y9 =>
 some ((y9.1.1, ()), (), ())) (fun y10 =>
 some ((y10.1.1, ()), (), ()))
noncomputable def laws_heldIntS_C : Ctr := ⟨79, laws_heldIntS_arg, laws_heldIntS_res, fun x => laws_heldIntS x.1.1 x.1.2.1, none⟩
def laws_heldIntS_H : Hint := ⟨[], [], [], fun _ => []⟩
noncomputable def laws_heldIntS_T : List Ctr := []
noncomputable def laws_heldIntS_Ls : List Lp := [laws_heldIntS_L0]
theorem laws_heldIntS_l0 : ∀ x, laws_heldIntS_s0 x = stepW E0 laws_heldIntS_T laws_heldIntS_Ls laws_heldIntS_H (loopAt (bodyOf Tryz.f79) 0) 0 laws_heldIntS_h0 [] [(.ret, []), (.exit 0, [])] laws_heldIntS_r0 x := fun x => by kernel_rfl
theorem laws_heldIntS_e : ∀ x, laws_heldIntS_C.F x = runBodyW E0 laws_heldIntS_T laws_heldIntS_Ls laws_heldIntS_H 79 Tryz.f79.results.toList (bodyOf Tryz.f79) [] (laws_heldIntS_arg.mk' x) laws_heldIntS_res := fun x => by kernel_rfl
theorem laws_heldIntS_ok : laws_heldIntS_C.Ok E0 := fn_ok (T := laws_heldIntS_T) (h := laws_heldIntS_H) (Ls := laws_heldIntS_Ls) E0_mixed T_nil Tryz.func79 (bodyOf_some (by kernel_rfl)) (by kernel_rfl) (loops_of (ks := [0]) (by kernel_rfl) ⟨(loop_one (h := laws_heldIntS_H) (own := []) (head := laws_heldIntS_h0) (back := []) (exs := [(.ret, []), (.exit 0, [])]) (res := laws_heldIntS_r0) (step := laws_heldIntS_s0) (by kernel_rfl) laws_heldIntS_l0), trivial⟩) laws_heldIntS_e
def laws_heldFont_arg : Sh := ⟨[(0, .agg [.str, .rd [] .i64, .rd [] .i64]), (1, .c (.int .i64))], [], []⟩
def laws_heldFont_res : List Sh := [⟨[(0, .c (.int .i64))], [], []⟩]
noncomputable def laws_heldFont (a0_0 : ByteArray) (a0_1 : List Int) (a0_2 : List Int) (a1 : Int) : Option ((Int × Unit) × Unit × Unit) :=
 (laws_heldIntS a0_1 a1).bind fun r1 =>
 let x2 : Bool := decide (r1.1.1 < (0 : Int));
 br x2
 (some (((-1 : Int), ()), (), ()))
 ((laws_heldIntS a0_2 r1.1.1).bind fun r3 =>
 let x4 : Bool := decide (r3.1.1 < (0 : Int));
 br x4
 (some (((-1 : Int), ()), (), ()))
 (some ((r3.1.1, ()), (), ())))
noncomputable def laws_heldFont_C : Ctr := ⟨41, laws_heldFont_arg, laws_heldFont_res, fun x => laws_heldFont x.1.1.1 x.1.1.2.1 x.1.1.2.2.1 x.1.2.1, none⟩
def laws_heldFont_H : Hint := ⟨[], [], [], fun _ => []⟩
noncomputable def laws_heldFont_T : List Ctr := [laws_heldIntS_C]
noncomputable def laws_heldFont_Ls : List Lp := []
theorem laws_heldFont_e : ∀ x, laws_heldFont_C.F x = runBodyW E0 laws_heldFont_T laws_heldFont_Ls laws_heldFont_H 41 Tryz.f41.results.toList (bodyOf Tryz.f41) [] (laws_heldFont_arg.mk' x) laws_heldFont_res := fun x => by kernel_rfl
theorem laws_heldFont_ok : laws_heldFont_C.Ok E0 := fn_ok (T := laws_heldFont_T) (h := laws_heldFont_H) (Ls := laws_heldFont_Ls) E0_mixed (T_cons laws_heldIntS_ok T_nil) Tryz.func41 (bodyOf_some (by kernel_rfl)) (by kernel_rfl) (loops_of (ks := []) (by kernel_rfl) trivial) laws_heldFont_e
def laws_heldMatrixS_arg : Sh := ⟨[(0, .c (.rd [] .mat)), (1, .c (.int .i64))], [], []⟩
def laws_heldMatrixS_res : List Sh := [⟨[(0, .c (.int .i64))], [], []⟩]
noncomputable def laws_heldMatrixS_s0 (x : (List (Int × Int) × Int × Int × Unit) × Unit × Unit) : Option (((List (Int × Int) × Int × Int × Unit) × Unit × Unit) ⊕ (((Int × Unit) × Unit × Unit) ⊕ ((Int × Unit) × Unit × Unit))) :=
 let x1 : Bool := decide (x.1.2.2.1 < (x.1.1.length : Int));
 br x1
 (ck (0 ≤ x.1.2.2.1)
 (ck (x.1.2.2.1.toNat < x.1.1.length)
 (let x2 : Int × Int := x.1.1.getD x.1.2.2.1.toNat (0, 0);
 let x3 : Bool := x2.1 != x.1.2.1;
 br x3
 (some (.inr (.inl (((-1 : Int), ()), (), ()))))
 (let x4 : Int := w64 (x.1.2.1 + (1 : Int));
 ck (0 ≤ x.1.2.2.1)
 (ck (x.1.2.2.1.toNat < x.1.1.length)
 (let x5 : Bool := x2.2 != x4;
 br x5
 (some (.inr (.inl (((-1 : Int), ()), (), ()))))
 (let x6 : Int := w64 (x4 + (1 : Int));
 let x7 : Int := w64 (x.1.2.2.1 + (1 : Int));
 some (.inl ((x.1.1, x6, x7, ()), (), ())))))))))
 (some (.inr (.inr ((x.1.2.1, ()), (), ()))))
def laws_heldMatrixS_h0 : Sh := ⟨[(0, .c (.rd [] .mat)), (1, .c (.int .i64)), (5, .c (.int .i64))], [], []⟩
def laws_heldMatrixS_r0 : List Sh := [⟨[(4, .c (.int .i64))], [], []⟩, ⟨[(1, .c (.int .i64))], [], []⟩]
noncomputable def laws_heldMatrixS_L0 : Lp := ⟨0, [], laws_heldMatrixS_h0, [], [(.ret, []), (.exit 0, [])], laws_heldMatrixS_r0, loopC laws_heldMatrixS_s0⟩
noncomputable def laws_heldMatrixS (a0 : List (Int × Int)) (a1 : Int) : Option ((Int × Unit) × Unit × Unit) :=
 (loopC laws_heldMatrixS_s0 ((a0, a1, (0 : Int), ()), (), ())).bind fun r8 =>
 sumK r8 (fun y11 =>
 some ((y11.1.1, ()), (), ())) (fun y12 =>
 some ((y12.1.1, ()), (), ()))
noncomputable def laws_heldMatrixS_C : Ctr := ⟨43, laws_heldMatrixS_arg, laws_heldMatrixS_res, fun x => laws_heldMatrixS x.1.1 x.1.2.1, none⟩
def laws_heldMatrixS_H : Hint := ⟨[], [], [], fun _ => []⟩
noncomputable def laws_heldMatrixS_T : List Ctr := []
noncomputable def laws_heldMatrixS_Ls : List Lp := [laws_heldMatrixS_L0]
theorem laws_heldMatrixS_l0 : ∀ x, laws_heldMatrixS_s0 x = stepW E0 laws_heldMatrixS_T laws_heldMatrixS_Ls laws_heldMatrixS_H (loopAt (bodyOf Tryz.f43) 0) 0 laws_heldMatrixS_h0 [] [(.ret, []), (.exit 0, [])] laws_heldMatrixS_r0 x := fun x => by kernel_rfl
theorem laws_heldMatrixS_e : ∀ x, laws_heldMatrixS_C.F x = runBodyW E0 laws_heldMatrixS_T laws_heldMatrixS_Ls laws_heldMatrixS_H 43 Tryz.f43.results.toList (bodyOf Tryz.f43) [] (laws_heldMatrixS_arg.mk' x) laws_heldMatrixS_res := fun x => by kernel_rfl
theorem laws_heldMatrixS_ok : laws_heldMatrixS_C.Ok E0 := fn_ok (T := laws_heldMatrixS_T) (h := laws_heldMatrixS_H) (Ls := laws_heldMatrixS_Ls) E0_mixed T_nil Tryz.func43 (bodyOf_some (by kernel_rfl)) (by kernel_rfl) (loops_of (ks := [0]) (by kernel_rfl) ⟨(loop_one (h := laws_heldMatrixS_H) (own := []) (head := laws_heldMatrixS_h0) (back := []) (exs := [(.ret, []), (.exit 0, [])]) (res := laws_heldMatrixS_r0) (step := laws_heldMatrixS_s0) (by kernel_rfl) laws_heldMatrixS_l0), trivial⟩) laws_heldMatrixS_e
def laws_heldMatrixSS_arg : Sh := ⟨[(0, .c (.rd [] .mats)), (1, .c (.int .i64))], [], []⟩
def laws_heldMatrixSS_res : List Sh := [⟨[(0, .c (.int .i64))], [], []⟩]
noncomputable def laws_heldMatrixSS_s0 (x : (List (List (Int × Int)) × Int × Int × Unit) × Unit × Unit) : Option (((List (List (Int × Int)) × Int × Int × Unit) × Unit × Unit) ⊕ (((Int × Unit) × Unit × Unit) ⊕ ((Int × Unit) × Unit × Unit))) :=
 let x1 : Bool := decide (x.1.2.2.1 < (x.1.1.length : Int));
 br x1
 (ck (0 ≤ x.1.2.2.1)
 (ck (x.1.2.2.1.toNat < x.1.1.length)
 (let x2 : List (Int × Int) := x.1.1.getD x.1.2.2.1.toNat [];
 (laws_heldMatrixS x2 x.1.2.1).bind fun r3 =>
 let x4 : Bool := decide (r3.1.1 < (0 : Int));
 br x4
 (some (.inr (.inl (((-1 : Int), ()), (), ()))))
 (let x5 : Int := w64 (x.1.2.2.1 + (1 : Int));
 some (.inl ((x.1.1, r3.1.1, x5, ()), (), ()))))))
 (some (.inr (.inr ((x.1.2.1, ()), (), ()))))
def laws_heldMatrixSS_h0 : Sh := ⟨[(0, .c (.rd [] .mats)), (1, .c (.int .i64)), (5, .c (.int .i64))], [], []⟩
def laws_heldMatrixSS_r0 : List Sh := [⟨[(4, .c (.int .i64))], [], []⟩, ⟨[(1, .c (.int .i64))], [], []⟩]
noncomputable def laws_heldMatrixSS_L0 : Lp := ⟨0, [], laws_heldMatrixSS_h0, [], [(.ret, []), (.exit 0, [])], laws_heldMatrixSS_r0, loopC laws_heldMatrixSS_s0⟩
noncomputable def laws_heldMatrixSS (a0 : List (List (Int × Int))) (a1 : Int) : Option ((Int × Unit) × Unit × Unit) :=
 (loopC laws_heldMatrixSS_s0 ((a0, a1, (0 : Int), ()), (), ())).bind fun r6 =>
 sumK r6 (fun y9 =>
 some ((y9.1.1, ()), (), ())) (fun y10 =>
 some ((y10.1.1, ()), (), ()))
noncomputable def laws_heldMatrixSS_C : Ctr := ⟨42, laws_heldMatrixSS_arg, laws_heldMatrixSS_res, fun x => laws_heldMatrixSS x.1.1 x.1.2.1, none⟩
def laws_heldMatrixSS_H : Hint := ⟨[], [], [], fun _ => []⟩
noncomputable def laws_heldMatrixSS_T : List Ctr := [laws_heldMatrixS_C]
noncomputable def laws_heldMatrixSS_Ls : List Lp := [laws_heldMatrixSS_L0]
theorem laws_heldMatrixSS_l0 : ∀ x, laws_heldMatrixSS_s0 x = stepW E0 laws_heldMatrixSS_T laws_heldMatrixSS_Ls laws_heldMatrixSS_H (loopAt (bodyOf Tryz.f42) 0) 0 laws_heldMatrixSS_h0 [] [(.ret, []), (.exit 0, [])] laws_heldMatrixSS_r0 x := fun x => by kernel_rfl
theorem laws_heldMatrixSS_e : ∀ x, laws_heldMatrixSS_C.F x = runBodyW E0 laws_heldMatrixSS_T laws_heldMatrixSS_Ls laws_heldMatrixSS_H 42 Tryz.f42.results.toList (bodyOf Tryz.f42) [] (laws_heldMatrixSS_arg.mk' x) laws_heldMatrixSS_res := fun x => by kernel_rfl
theorem laws_heldMatrixSS_ok : laws_heldMatrixSS_C.Ok E0 := fn_ok (T := laws_heldMatrixSS_T) (h := laws_heldMatrixSS_H) (Ls := laws_heldMatrixSS_Ls) E0_mixed (T_cons laws_heldMatrixS_ok T_nil) Tryz.func42 (bodyOf_some (by kernel_rfl)) (by kernel_rfl) (loops_of (ks := [0]) (by kernel_rfl) ⟨(loop_one (h := laws_heldMatrixSS_H) (own := []) (head := laws_heldMatrixSS_h0) (back := []) (exs := [(.ret, []), (.exit 0, [])]) (res := laws_heldMatrixSS_r0) (step := laws_heldMatrixSS_s0) (by kernel_rfl) laws_heldMatrixSS_l0), trivial⟩) laws_heldMatrixSS_e
def laws_heldMachine_arg : Sh := ⟨[(0, .agg [.str, .rd [] .i64, .rd [] .i64, .rd [] .mats, .int .i64, .int .i64, .int .i64, .int .i64, .rd [] .mat, .rd [] .mat]), (1, .c (.int .i64))], [], []⟩
def laws_heldMachine_res : List Sh := [⟨[(0, .c (.int .i64))], [], []⟩]
noncomputable def laws_heldMachine (a0_0 : ByteArray) (a0_1 : List Int) (a0_2 : List Int) (a0_3 : List (List (Int × Int))) (a0_4 : Int) (a0_5 : Int) (a0_6 : Int) (a0_7 : Int) (a0_8 : List (Int × Int)) (a0_9 : List (Int × Int)) (a1 : Int) : Option ((Int × Unit) × Unit × Unit) :=
 (laws_heldFont a0_0 a0_1 a0_2 a1).bind fun r1 =>
 let x2 : Bool := decide (r1.1.1 < (0 : Int));
 br x2
 (some (((-1 : Int), ()), (), ()))
 ((laws_heldMatrixSS a0_3 r1.1.1).bind fun r3 =>
 let x4 : Bool := decide (r3.1.1 < (0 : Int));
 br x4
 (some (((-1 : Int), ()), (), ()))
 ((laws_heldMatrixS a0_8 r3.1.1).bind fun r5 =>
 let x6 : Bool := decide (r5.1.1 < (0 : Int));
 br x6
 (some (((-1 : Int), ()), (), ()))
 ((laws_heldMatrixS a0_9 r5.1.1).bind fun r7 =>
 let x8 : Bool := decide (r7.1.1 < (0 : Int));
 br x8
 (some (((-1 : Int), ()), (), ()))
 (some ((r7.1.1, ()), (), ())))))
noncomputable def laws_heldMachine_C : Ctr := ⟨14, laws_heldMachine_arg, laws_heldMachine_res, fun x => laws_heldMachine x.1.1.1 x.1.1.2.1 x.1.1.2.2.1 x.1.1.2.2.2.1 x.1.1.2.2.2.2.1 x.1.1.2.2.2.2.2.1 x.1.1.2.2.2.2.2.2.1 x.1.1.2.2.2.2.2.2.2.1 x.1.1.2.2.2.2.2.2.2.2.1 x.1.1.2.2.2.2.2.2.2.2.2.1 x.1.2.1, none⟩
def laws_heldMachine_H : Hint := ⟨[], [], [], fun _ => []⟩
noncomputable def laws_heldMachine_T : List Ctr := [laws_heldFont_C, laws_heldMatrixSS_C, laws_heldMatrixS_C]
noncomputable def laws_heldMachine_Ls : List Lp := []
theorem laws_heldMachine_e : ∀ x, laws_heldMachine_C.F x = runBodyW E0 laws_heldMachine_T laws_heldMachine_Ls laws_heldMachine_H 14 Tryz.f14.results.toList (bodyOf Tryz.f14) [] (laws_heldMachine_arg.mk' x) laws_heldMachine_res := fun x => by kernel_rfl
theorem laws_heldMachine_ok : laws_heldMachine_C.Ok E0 := fn_ok (T := laws_heldMachine_T) (h := laws_heldMachine_H) (Ls := laws_heldMachine_Ls) E0_mixed (T_cons laws_heldFont_ok (T_cons laws_heldMatrixSS_ok (T_cons laws_heldMatrixS_ok T_nil))) Tryz.func14 (bodyOf_some (by kernel_rfl)) (by kernel_rfl) (loops_of (ks := []) (by kernel_rfl) trivial) laws_heldMachine_e
def laws_heldStringS_arg : Sh := ⟨[(0, .c (.rd [] .str)), (1, .c (.int .i64))], [], []⟩
def laws_heldStringS_res : List Sh := [⟨[(0, .c (.int .i64))], [], []⟩]
noncomputable def laws_heldStringS_s0 (x : (List ByteArray × Int × Int × Unit) × Unit × Unit) : Option (((List ByteArray × Int × Int × Unit) × Unit × Unit) ⊕ (((Int × Unit) × Unit × Unit) ⊕ ((Int × Unit) × Unit × Unit))) :=
 let x1 : Bool := decide (x.1.2.2.1 < (x.1.1.length : Int));
 br x1
 (ck (0 ≤ x.1.2.2.1)
 (ck (x.1.2.2.1.toNat < x.1.1.length)
 (let x2 : ByteArray := x.1.1.getD x.1.2.2.1.toNat ByteArray.empty;
 (laws_markText x.1.2.1).bind fun r3 =>
 let x4 : Bool := !strEq x2 r3.1.1;
 br x4
 (some (.inr (.inl (((-1 : Int), ()), (), ()))))
 (let x5 : Int := w64 (x.1.2.1 + (1 : Int));
 let x6 : Int := w64 (x.1.2.2.1 + (1 : Int));
 some (.inl ((x.1.1, x5, x6, ()), (), ()))))))
 (some (.inr (.inr ((x.1.2.1, ()), (), ()))))
def laws_heldStringS_h0 : Sh := ⟨[(0, .c (.rd [] .str)), (1, .c (.int .i64)), (5, .c (.int .i64))], [], []⟩
def laws_heldStringS_r0 : List Sh := [⟨[(4, .c (.int .i64))], [], []⟩, ⟨[(1, .c (.int .i64))], [], []⟩]
noncomputable def laws_heldStringS_L0 : Lp := ⟨0, [], laws_heldStringS_h0, [], [(.ret, []), (.exit 0, [])], laws_heldStringS_r0, loopC laws_heldStringS_s0⟩
noncomputable def laws_heldStringS (a0 : List ByteArray) (a1 : Int) : Option ((Int × Unit) × Unit × Unit) :=
 (loopC laws_heldStringS_s0 ((a0, a1, (0 : Int), ()), (), ())).bind fun r7 =>
 sumK r7 (fun y10 =>
 some ((y10.1.1, ()), (), ())) (fun y11 =>
 some ((y11.1.1, ()), (), ()))
noncomputable def laws_heldStringS_C : Ctr := ⟨15, laws_heldStringS_arg, laws_heldStringS_res, fun x => laws_heldStringS x.1.1 x.1.2.1, none⟩
def laws_heldStringS_H : Hint := ⟨[], [], [], fun _ => []⟩
noncomputable def laws_heldStringS_T : List Ctr := [laws_markText_C]
noncomputable def laws_heldStringS_Ls : List Lp := [laws_heldStringS_L0]
theorem laws_heldStringS_l0 : ∀ x, laws_heldStringS_s0 x = stepW E0 laws_heldStringS_T laws_heldStringS_Ls laws_heldStringS_H (loopAt (bodyOf Tryz.f15) 0) 0 laws_heldStringS_h0 [] [(.ret, []), (.exit 0, [])] laws_heldStringS_r0 x := fun x => by kernel_rfl
theorem laws_heldStringS_e : ∀ x, laws_heldStringS_C.F x = runBodyW E0 laws_heldStringS_T laws_heldStringS_Ls laws_heldStringS_H 15 Tryz.f15.results.toList (bodyOf Tryz.f15) [] (laws_heldStringS_arg.mk' x) laws_heldStringS_res := fun x => by kernel_rfl
theorem laws_heldStringS_ok : laws_heldStringS_C.Ok E0 := fn_ok (T := laws_heldStringS_T) (h := laws_heldStringS_H) (Ls := laws_heldStringS_Ls) E0_mixed (T_cons laws_markText_ok T_nil) Tryz.func15 (bodyOf_some (by kernel_rfl)) (by kernel_rfl) (loops_of (ks := [0]) (by kernel_rfl) ⟨(loop_one (h := laws_heldStringS_H) (own := []) (head := laws_heldStringS_h0) (back := []) (exs := [(.ret, []), (.exit 0, [])]) (res := laws_heldStringS_r0) (step := laws_heldStringS_s0) (by kernel_rfl) laws_heldStringS_l0), trivial⟩) laws_heldStringS_e
def laws_FnExactSetLines_arg : Sh := ⟨[(0, .agg [.str, .rd [] .i64, .rd [] .i64, .rd [] .mats, .int .i64, .int .i64, .int .i64, .int .i64, .rd [] .mat, .rd [] .mat]), (1, .c (.rd [] .str))], [], []⟩
def laws_FnExactSetLines_res : List Sh := [⟨[(0, .c (.bool))], [], []⟩]
noncomputable def laws_FnExactSetLines (a0_0 : ByteArray) (a0_1 : List Int) (a0_2 : List Int) (a0_3 : List (List (Int × Int))) (a0_4 : Int) (a0_5 : Int) (a0_6 : Int) (a0_7 : Int) (a0_8 : List (Int × Int)) (a0_9 : List (Int × Int)) (a1 : List ByteArray) : Option ((Bool × Unit) × Unit × Unit) :=
 (laws_szMachine a0_0 a0_1 a0_2 a0_3 a0_4 a0_5 a0_6 a0_7 a0_8 a0_9 (1048576 : Int)).bind fun r1 =>
 let x2 : Bool := decide (r1.1.1 < (0 : Int));
 br x2
 (some ((true, ()), (), ()))
 ((laws_szStringS a1 r1.1.1).bind fun r3 =>
 let x4 : Bool := decide (r3.1.1 < (0 : Int));
 br x4
 (some ((true, ()), (), ()))
 ((laws_toMachine a0_0 a0_1 a0_2 a0_3 a0_4 a0_5 a0_6 a0_7 a0_8 a0_9).bind fun r5 =>
 (laws_toStringS a1).bind fun r6 =>
 (spec_SetLines r5.1.1.1 r5.2.2.1 r5.2.2.2.1 r5.2.2.2.2.1 r5.1.1.2.2.2.2.1 r5.1.1.2.2.2.2.2.1 r5.1.1.2.2.2.2.2.2.1 r5.1.1.2.2.2.2.2.2.2.1 r5.2.2.2.2.2.1 r5.2.2.2.2.2.2.1 r6.2.2.1).bind fun r7 =>
 (laws_toMachine a0_0 a0_1 a0_2 a0_3 a0_4 a0_5 a0_6 a0_7 a0_8 a0_9).bind fun r8 =>
 (laws_toStringS a1).bind fun r9 =>
 (impl_SetLines r8.1.1.1 r8.2.2.1 r8.2.2.2.1 r8.2.2.2.2.1 r8.1.1.2.2.2.2.1 r8.1.1.2.2.2.2.2.1 r8.1.1.2.2.2.2.2.2.1 r8.1.1.2.2.2.2.2.2.2.1 r8.2.2.2.2.2.1 r8.2.2.2.2.2.2.1 r9.2.2.1).bind fun r10 =>
 (laws_eqMachine r10.1.1.1 r10.2.2.1 r10.2.2.2.1 r10.2.2.2.2.1 r10.1.1.2.2.2.2.1 r10.1.1.2.2.2.2.2.1 r10.1.1.2.2.2.2.2.2.1 r10.1.1.2.2.2.2.2.2.2.1 r10.2.2.2.2.2.1 r10.2.2.2.2.2.2.1 r7.1.1.1 r7.2.2.1 r7.2.2.2.1 r7.2.2.2.2.1 r7.1.1.2.2.2.2.1 r7.1.1.2.2.2.2.2.1 r7.1.1.2.2.2.2.2.2.1 r7.1.1.2.2.2.2.2.2.2.1 r7.2.2.2.2.2.1 r7.2.2.2.2.2.2.1).bind fun r11 =>
 br (!r11.1.1)
 (some ((false, ()), (), ()))
 ((laws_eqStringS r10.2.2.2.2.2.2.2.1 r7.2.2.2.2.2.2.2.1).bind fun r12 =>
 br (!r12.1.1)
 (some ((false, ()), (), ()))
 (let x13 : Bool := r10.1.2.2.1 != r7.1.2.2.1;
 br x13
 (some ((false, ()), (), ()))
 ((laws_toMachine a0_0 a0_1 a0_2 a0_3 a0_4 a0_5 a0_6 a0_7 a0_8 a0_9).bind fun r14 =>
 (laws_eqMachine r8.1.1.1 r8.2.2.1 r8.2.2.2.1 r8.2.2.2.2.1 r8.1.1.2.2.2.2.1 r8.1.1.2.2.2.2.2.1 r8.1.1.2.2.2.2.2.2.1 r8.1.1.2.2.2.2.2.2.2.1 r8.2.2.2.2.2.1 r8.2.2.2.2.2.2.1 r14.1.1.1 r14.2.2.1 r14.2.2.2.1 r14.2.2.2.2.1 r14.1.1.2.2.2.2.1 r14.1.1.2.2.2.2.2.1 r14.1.1.2.2.2.2.2.2.1 r14.1.1.2.2.2.2.2.2.2.1 r14.2.2.2.2.2.1 r14.2.2.2.2.2.2.1).bind fun r15 =>
 br (!r15.1.1)
 (some ((false, ()), (), ()))
 ((laws_toStringS a1).bind fun r16 =>
 (laws_eqStringS r9.2.2.1 r16.2.2.1).bind fun r17 =>
 br (!r17.1.1)
 (some ((false, ()), (), ()))
 ((laws_markMachine r8.1.1.1 r8.1.1.2.2.2.2.1 r8.1.1.2.2.2.2.2.1 r8.1.1.2.2.2.2.2.2.1 r8.1.1.2.2.2.2.2.2.2.1 (1 : Int) r8.2.2.1 r8.2.2.2.1 r8.2.2.2.2.1 r8.2.2.2.2.2.1 r8.2.2.2.2.2.2.1).bind fun r18 =>
 (laws_markStringS r18.1.1 r9.2.2.1).bind fun r19 =>
 let x20 : Bool := decide (r19.1.1 < (0 : Int));
 br x20
 (some ((false, ()), (), ()))
 ((laws_eqMachine r10.1.1.1 r10.2.2.1 r10.2.2.2.1 r10.2.2.2.2.1 r10.1.1.2.2.2.2.1 r10.1.1.2.2.2.2.2.1 r10.1.1.2.2.2.2.2.2.1 r10.1.1.2.2.2.2.2.2.2.1 r10.2.2.2.2.2.1 r10.2.2.2.2.2.2.1 r7.1.1.1 r7.2.2.1 r7.2.2.2.1 r7.2.2.2.2.1 r7.1.1.2.2.2.2.1 r7.1.1.2.2.2.2.2.1 r7.1.1.2.2.2.2.2.2.1 r7.1.1.2.2.2.2.2.2.2.1 r7.2.2.2.2.2.1 r7.2.2.2.2.2.2.1).bind fun r21 =>
 br (!r21.1.1)
 (some ((false, ()), (), ()))
 ((laws_eqStringS r10.2.2.2.2.2.2.2.1 r7.2.2.2.2.2.2.2.1).bind fun r22 =>
 br (!r22.1.1)
 (some ((false, ()), (), ()))
 (br x13
 (some ((false, ()), (), ()))
 ((laws_markMachine r10.1.1.1 r10.1.1.2.2.2.2.1 r10.1.1.2.2.2.2.2.1 r10.1.1.2.2.2.2.2.2.1 r10.1.1.2.2.2.2.2.2.2.1 (1 : Int) r10.2.2.1 r10.2.2.2.1 r10.2.2.2.2.1 r10.2.2.2.2.2.1 r10.2.2.2.2.2.2.1).bind fun r23 =>
 (laws_markStringS r23.1.1 r10.2.2.2.2.2.2.2.1).bind fun r24 =>
 (laws_heldMachine r10.1.1.1 r23.2.2.1 r23.2.2.2.1 r23.2.2.2.2.1 r10.1.1.2.2.2.2.1 r10.1.1.2.2.2.2.2.1 r10.1.1.2.2.2.2.2.2.1 r10.1.1.2.2.2.2.2.2.2.1 r23.2.2.2.2.2.1 r23.2.2.2.2.2.2.1 (1 : Int)).bind fun r25 =>
 let x26 : Bool := decide (r25.1.1 < (0 : Int));
 br x26
 (some ((false, ()), (), ()))
 ((laws_heldStringS r24.2.2.1 r25.1.1).bind fun r27 =>
 let x28 : Bool := decide (r27.1.1 < (0 : Int));
 br x28
 (some ((false, ()), (), ()))
 (let x29 : Bool := r27.1.1 != r24.1.1;
 br x29
 (some ((false, ()), (), ()))
 ((laws_toMachine a0_0 a0_1 a0_2 a0_3 a0_4 a0_5 a0_6 a0_7 a0_8 a0_9).bind fun r30 =>
 (laws_toStringS a1).bind fun r31 =>
 (impl_SetLines r30.1.1.1 r30.2.2.1 r30.2.2.2.1 r30.2.2.2.2.1 r30.1.1.2.2.2.2.1 r30.1.1.2.2.2.2.2.1 r30.1.1.2.2.2.2.2.2.1 r30.1.1.2.2.2.2.2.2.2.1 r30.2.2.2.2.2.1 r30.2.2.2.2.2.2.1 r31.2.2.1).bind fun r32 =>
 (laws_eqMachine r32.1.1.1 r32.2.2.1 r32.2.2.2.1 r32.2.2.2.2.1 r32.1.1.2.2.2.2.1 r32.1.1.2.2.2.2.2.1 r32.1.1.2.2.2.2.2.2.1 r32.1.1.2.2.2.2.2.2.2.1 r32.2.2.2.2.2.1 r32.2.2.2.2.2.2.1 r7.1.1.1 r7.2.2.1 r7.2.2.2.1 r7.2.2.2.2.1 r7.1.1.2.2.2.2.1 r7.1.1.2.2.2.2.2.1 r7.1.1.2.2.2.2.2.2.1 r7.1.1.2.2.2.2.2.2.2.1 r7.2.2.2.2.2.1 r7.2.2.2.2.2.2.1).bind fun r33 =>
 br (!r33.1.1)
 (some ((false, ()), (), ()))
 ((laws_eqStringS r32.2.2.2.2.2.2.2.1 r7.2.2.2.2.2.2.2.1).bind fun r34 =>
 br (!r34.1.1)
 (some ((false, ()), (), ()))
 (let x35 : Bool := r32.1.2.2.1 != r7.1.2.2.1;
 br x35
 (some ((false, ()), (), ()))
 ((laws_heldMachine r10.1.1.1 r23.2.2.1 r23.2.2.2.1 r23.2.2.2.2.1 r10.1.1.2.2.2.2.1 r10.1.1.2.2.2.2.2.1 r10.1.1.2.2.2.2.2.2.1 r10.1.1.2.2.2.2.2.2.2.1 r23.2.2.2.2.2.1 r23.2.2.2.2.2.2.1 (1 : Int)).bind fun r36 =>
 let x37 : Bool := decide (r36.1.1 < (0 : Int));
 br x37
 (some ((false, ()), (), ()))
 ((laws_heldStringS r24.2.2.1 r36.1.1).bind fun r38 =>
 let x39 : Bool := decide (r38.1.1 < (0 : Int));
 br x39
 (some ((false, ()), (), ()))
 (let x40 : Bool := r38.1.1 != r24.1.1;
 br x40
 (some ((false, ()), (), ()))
 (some ((true, ()), (), ())))))))))))))))))))))
noncomputable def laws_FnExactSetLines_C : Ctr := ⟨3, laws_FnExactSetLines_arg, laws_FnExactSetLines_res, fun x => laws_FnExactSetLines x.1.1.1 x.1.1.2.1 x.1.1.2.2.1 x.1.1.2.2.2.1 x.1.1.2.2.2.2.1 x.1.1.2.2.2.2.2.1 x.1.1.2.2.2.2.2.2.1 x.1.1.2.2.2.2.2.2.2.1 x.1.1.2.2.2.2.2.2.2.2.1 x.1.1.2.2.2.2.2.2.2.2.2.1 x.1.2.1, none⟩
def laws_FnExactSetLines_H : Hint := ⟨[], [], [], fun _ => []⟩
noncomputable def laws_FnExactSetLines_T : List Ctr := [laws_szMachine_C, laws_szStringS_C, laws_toMachine_C, laws_toStringS_C, spec_SetLines_C, impl_SetLines_C, laws_eqMachine_C, laws_eqStringS_C, laws_markMachine_C, laws_markStringS_C, laws_heldMachine_C, laws_heldStringS_C]
noncomputable def laws_FnExactSetLines_Ls : List Lp := []
theorem laws_FnExactSetLines_e : ∀ x, laws_FnExactSetLines_C.F x = runBodyW E0 laws_FnExactSetLines_T laws_FnExactSetLines_Ls laws_FnExactSetLines_H 3 Tryz.f3.results.toList (bodyOf Tryz.f3) [] (laws_FnExactSetLines_arg.mk' x) laws_FnExactSetLines_res := fun x => by kernel_rfl
theorem laws_FnExactSetLines_ok : laws_FnExactSetLines_C.Ok E0 := fn_ok (T := laws_FnExactSetLines_T) (h := laws_FnExactSetLines_H) (Ls := laws_FnExactSetLines_Ls) E0_mixed (T_cons laws_szMachine_ok (T_cons laws_szStringS_ok (T_cons laws_toMachine_ok (T_cons laws_toStringS_ok (T_cons spec_SetLines_ok (T_cons impl_SetLines_ok (T_cons laws_eqMachine_ok (T_cons laws_eqStringS_ok (T_cons laws_markMachine_ok (T_cons laws_markStringS_ok (T_cons laws_heldMachine_ok (T_cons laws_heldStringS_ok T_nil)))))))))))) Tryz.func3 (bodyOf_some (by kernel_rfl)) (by kernel_rfl) (loops_of (ks := []) (by kernel_rfl) trivial) laws_FnExactSetLines_e
end Go.Tree
