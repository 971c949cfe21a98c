/- What each function that the law FnExactDeskOk reaches computes, as a plain function, and the proof that the program's code computes it. No condition but the function's own answer. -/
import Derived.Test.YtniopnhpdfpkkaaGreatDoorPFnExactDeskOka
namespace Go.Tree
open Go Go.Proofs
set_option linter.unusedVariables false
set_option maxRecDepth 100000
def laws_eqMachine_arg : Sh := ⟨[(0, .agg [.str, .rd [] .i64, .rd [] .i64, .rd [] .mats, .int .i64, .int .i64, .int .i64, .int .i64, .rd [] .mat, .rd [] .mat]), (1, .agg [.str, .rd [] .i64, .rd [] .i64, .rd [] .mats, .int .i64, .int .i64, .int .i64, .int .i64, .rd [] .mat, .rd [] .mat])], [], []⟩
def laws_eqMachine_res : List Sh := [⟨[(0, .c (.bool))], [], []⟩]
noncomputable def laws_eqMachine (a0_0 : ByteArray) (a0_1 : List Int) (a0_2 : List Int) (a0_3 : List (List (Int × Int))) (a0_4 : Int) (a0_5 : Int) (a0_6 : Int) (a0_7 : Int) (a0_8 : List (Int × Int)) (a0_9 : List (Int × Int)) (a1_0 : ByteArray) (a1_1 : List Int) (a1_2 : List Int) (a1_3 : List (List (Int × Int))) (a1_4 : Int) (a1_5 : Int) (a1_6 : Int) (a1_7 : Int) (a1_8 : List (Int × Int)) (a1_9 : List (Int × Int)) : Option ((Bool × Unit) × Unit × Unit) :=
 (laws_eqFont a0_0 a0_1 a0_2 a1_0 a1_1 a1_2).bind fun r1 =>
 br (!r1.1.1)
 (some ((false, ()), (), ()))
 ((laws_eqMatrixSS a0_3 a1_3).bind fun r2 =>
 br (!r2.1.1)
 (some ((false, ()), (), ()))
 (let x3 : Bool := a0_4 != a1_4;
 br x3
 (some ((false, ()), (), ()))
 ((laws_eqMeasure a0_5 a0_6 a0_7 a1_5 a1_6 a1_7).bind fun r4 =>
 br (!r4.1.1)
 (some ((false, ()), (), ()))
 ((laws_eqMatrixS a0_8 a1_8).bind fun r5 =>
 br (!r5.1.1)
 (some ((false, ()), (), ()))
 ((laws_eqMatrixS a0_9 a1_9).bind fun r6 =>
 br (!r6.1.1)
 (some ((false, ()), (), ()))
 (some ((true, ()), (), ())))))))
noncomputable def laws_eqMachine_C : Ctr := ⟨16, laws_eqMachine_arg, laws_eqMachine_res, fun x => laws_eqMachine x.1.1.1 x.1.1.2.1 x.1.1.2.2.1 x.1.1.2.2.2.1 x.1.1.2.2.2.2.1 x.1.1.2.2.2.2.2.1 x.1.1.2.2.2.2.2.2.1 x.1.1.2.2.2.2.2.2.2.1 x.1.1.2.2.2.2.2.2.2.2.1 x.1.1.2.2.2.2.2.2.2.2.2.1 x.1.2.1.1 x.1.2.1.2.1 x.1.2.1.2.2.1 x.1.2.1.2.2.2.1 x.1.2.1.2.2.2.2.1 x.1.2.1.2.2.2.2.2.1 x.1.2.1.2.2.2.2.2.2.1 x.1.2.1.2.2.2.2.2.2.2.1 x.1.2.1.2.2.2.2.2.2.2.2.1 x.1.2.1.2.2.2.2.2.2.2.2.2.1, none⟩
def laws_eqMachine_H : Hint := ⟨[], [], [], fun _ => []⟩
noncomputable def laws_eqMachine_T : List Ctr := [laws_eqFont_C, laws_eqMatrixSS_C, laws_eqMeasure_C, laws_eqMatrixS_C]
noncomputable def laws_eqMachine_Ls : List Lp := []
theorem laws_eqMachine_e : ∀ x, laws_eqMachine_C.F x = runBodyW E0 laws_eqMachine_T laws_eqMachine_Ls laws_eqMachine_H 16 Tryz.f16.results.toList (bodyOf Tryz.f16) [] (laws_eqMachine_arg.mk' x) laws_eqMachine_res := fun x => by kernel_rfl
theorem laws_eqMachine_ok : laws_eqMachine_C.Ok E0 := fn_ok (T := laws_eqMachine_T) (h := laws_eqMachine_H) (Ls := laws_eqMachine_Ls) E0_mixed (T_cons laws_eqFont_ok (T_cons laws_eqMatrixSS_ok (T_cons laws_eqMeasure_ok (T_cons laws_eqMatrixS_ok T_nil)))) Tryz.func16 (bodyOf_some (by kernel_rfl)) (by kernel_rfl) (loops_of (ks := []) (by kernel_rfl) trivial) laws_eqMachine_e
def laws_eqStringS_arg : Sh := ⟨[(0, .c (.rd [] .str)), (1, .c (.rd [] .str))], [], []⟩
def laws_eqStringS_res : List Sh := [⟨[(0, .c (.bool))], [], []⟩]
noncomputable def laws_eqStringS_s0 (x : (List ByteArray × List ByteArray × Int × Unit) × Unit × Unit) : Option (((List ByteArray × List ByteArray × Int × Unit) × Unit × Unit) ⊕ (((Bool × Unit) × Unit × Unit) ⊕ (Unit × Unit × Unit))) :=
 let x2 : Bool := decide (x.1.2.2.1 < (x.1.1.length : Int));
 br x2
 (ck (0 ≤ x.1.2.2.1)
 (ck (x.1.2.2.1.toNat < x.1.1.length)
 (let x3 : ByteArray := x.1.1.getD x.1.2.2.1.toNat ByteArray.empty;
 ck (0 ≤ x.1.2.2.1)
 (ck (x.1.2.2.1.toNat < x.1.2.1.length)
 (let x4 : ByteArray := x.1.2.1.getD x.1.2.2.1.toNat ByteArray.empty;
 let x5 : Bool := !strEq x3 x4;
 br x5
 (some (.inr (.inl ((false, ()), (), ()))))
 (let x6 : Int := w64 (x.1.2.2.1 + (1 : Int));
 some (.inl ((x.1.1, x.1.2.1, x6, ()), (), ()))))))))
 (some (.inr (.inr ((), (), ()))))
def laws_eqStringS_h0 : Sh := ⟨[(0, .c (.rd [] .str)), (1, .c (.rd [] .str)), (5, .c (.int .i64))], [], []⟩
def laws_eqStringS_r0 : List Sh := [⟨[(4, .c (.bool))], [], []⟩, ⟨[], [], []⟩]
noncomputable def laws_eqStringS_L0 : Lp := ⟨0, [], laws_eqStringS_h0, [], [(.ret, []), (.exit 0, [])], laws_eqStringS_r0, loopC laws_eqStringS_s0⟩
noncomputable def laws_eqStringS (a0 : List ByteArray) (a1 : List ByteArray) : Option ((Bool × Unit) × Unit × Unit) :=
 let x1 : Bool := (a0.length : Int) != (a1.length : Int);
 br x1
 (some ((false, ()), (), ()))
 ((loopC laws_eqStringS_s0 ((a0, a1, (0 : Int), ()), (), ())).bind fun r7 =>
 sumK r7 (fun y10 =>
 some ((y10.1.1, ()), (), ())) (fun y11 =>
 some ((true, ()), (), ())))
noncomputable def laws_eqStringS_C : Ctr := ⟨18, laws_eqStringS_arg, laws_eqStringS_res, fun x => laws_eqStringS x.1.1 x.1.2.1, none⟩
def laws_eqStringS_H : Hint := ⟨[], [], [], fun _ => []⟩
noncomputable def laws_eqStringS_T : List Ctr := []
noncomputable def laws_eqStringS_Ls : List Lp := [laws_eqStringS_L0]
theorem laws_eqStringS_l0 : ∀ x, laws_eqStringS_s0 x = stepW E0 laws_eqStringS_T laws_eqStringS_Ls laws_eqStringS_H (loopAt (bodyOf Tryz.f18) 0) 0 laws_eqStringS_h0 [] [(.ret, []), (.exit 0, [])] laws_eqStringS_r0 x := fun x => by kernel_rfl
theorem laws_eqStringS_e : ∀ x, laws_eqStringS_C.F x = runBodyW E0 laws_eqStringS_T laws_eqStringS_Ls laws_eqStringS_H 18 Tryz.f18.results.toList (bodyOf Tryz.f18) [] (laws_eqStringS_arg.mk' x) laws_eqStringS_res := fun x => by kernel_rfl
theorem laws_eqStringS_ok : laws_eqStringS_C.Ok E0 := fn_ok (T := laws_eqStringS_T) (h := laws_eqStringS_H) (Ls := laws_eqStringS_Ls) E0_mixed T_nil Tryz.func18 (bodyOf_some (by kernel_rfl)) (by kernel_rfl) (loops_of (ks := [0]) (by kernel_rfl) ⟨(loop_one (h := laws_eqStringS_H) (own := []) (head := laws_eqStringS_h0) (back := []) (exs := [(.ret, []), (.exit 0, [])]) (res := laws_eqStringS_r0) (step := laws_eqStringS_s0) (by kernel_rfl) laws_eqStringS_l0), trivial⟩) laws_eqStringS_e
def laws_eqDesk_arg : Sh := ⟨[(0, .agg [.str, .rd [] .i64, .rd [] .i64, .rd [] .mats, .int .i64, .int .i64, .int .i64, .int .i64, .rd [] .mat, .rd [] .mat, .rd [] .str]), (1, .agg [.str, .rd [] .i64, .rd [] .i64, .rd [] .mats, .int .i64, .int .i64, .int .i64, .int .i64, .rd [] .mat, .rd [] .mat, .rd [] .str])], [], []⟩
def laws_eqDesk_res : List Sh := [⟨[(0, .c (.bool))], [], []⟩]
noncomputable def laws_eqDesk (a0_0 : ByteArray) (a0_1 : List Int) (a0_2 : List Int) (a0_3 : List (List (Int × Int))) (a0_4 : Int) (a0_5 : Int) (a0_6 : Int) (a0_7 : Int) (a0_8 : List (Int × Int)) (a0_9 : List (Int × Int)) (a0_10 : List ByteArray) (a1_0 : ByteArray) (a1_1 : List Int) (a1_2 : List Int) (a1_3 : List (List (Int × Int))) (a1_4 : Int) (a1_5 : Int) (a1_6 : Int) (a1_7 : Int) (a1_8 : List (Int × Int)) (a1_9 : List (Int × Int)) (a1_10 : List ByteArray) : Option ((Bool × Unit) × Unit × Unit) :=
 (laws_eqMachine a0_0 a0_1 a0_2 a0_3 a0_4 a0_5 a0_6 a0_7 a0_8 a0_9 a1_0 a1_1 a1_2 a1_3 a1_4 a1_5 a1_6 a1_7 a1_8 a1_9).bind fun r1 =>
 br (!r1.1.1)
 (some ((false, ()), (), ()))
 ((laws_eqStringS a0_10 a1_10).bind fun r2 =>
 br (!r2.1.1)
 (some ((false, ()), (), ()))
 (some ((true, ()), (), ())))
noncomputable def laws_eqDesk_C : Ctr := ⟨9, laws_eqDesk_arg, laws_eqDesk_res, fun x => laws_eqDesk x.1.1.1 x.1.1.2.1 x.1.1.2.2.1 x.1.1.2.2.2.1 x.1.1.2.2.2.2.1 x.1.1.2.2.2.2.2.1 x.1.1.2.2.2.2.2.2.1 x.1.1.2.2.2.2.2.2.2.1 x.1.1.2.2.2.2.2.2.2.2.1 x.1.1.2.2.2.2.2.2.2.2.2.1 x.1.1.2.2.2.2.2.2.2.2.2.2.1 x.1.2.1.1 x.1.2.1.2.1 x.1.2.1.2.2.1 x.1.2.1.2.2.2.1 x.1.2.1.2.2.2.2.1 x.1.2.1.2.2.2.2.2.1 x.1.2.1.2.2.2.2.2.2.1 x.1.2.1.2.2.2.2.2.2.2.1 x.1.2.1.2.2.2.2.2.2.2.2.1 x.1.2.1.2.2.2.2.2.2.2.2.2.1 x.1.2.1.2.2.2.2.2.2.2.2.2.2.1, none⟩
def laws_eqDesk_H : Hint := ⟨[], [], [], fun _ => []⟩
noncomputable def laws_eqDesk_T : List Ctr := [laws_eqMachine_C, laws_eqStringS_C]
noncomputable def laws_eqDesk_Ls : List Lp := []
theorem laws_eqDesk_e : ∀ x, laws_eqDesk_C.F x = runBodyW E0 laws_eqDesk_T laws_eqDesk_Ls laws_eqDesk_H 9 Tryz.f9.results.toList (bodyOf Tryz.f9) [] (laws_eqDesk_arg.mk' x) laws_eqDesk_res := fun x => by kernel_rfl
theorem laws_eqDesk_ok : laws_eqDesk_C.Ok E0 := fn_ok (T := laws_eqDesk_T) (h := laws_eqDesk_H) (Ls := laws_eqDesk_Ls) E0_mixed (T_cons laws_eqMachine_ok (T_cons laws_eqStringS_ok T_nil)) Tryz.func9 (bodyOf_some (by kernel_rfl)) (by kernel_rfl) (loops_of (ks := []) (by kernel_rfl) trivial) laws_eqDesk_e
def laws_FnExactDeskOk_arg : Sh := ⟨[(0, .agg [.str, .rd [] .i64, .rd [] .i64, .rd [] .mats, .int .i64, .int .i64, .int .i64, .int .i64, .rd [] .mat, .rd [] .mat, .rd [] .str])], [], []⟩
def laws_FnExactDeskOk_res : List Sh := [⟨[(0, .c (.bool))], [], []⟩]
noncomputable def laws_FnExactDeskOk (a0_0 : ByteArray) (a0_1 : List Int) (a0_2 : List Int) (a0_3 : List (List (Int × Int))) (a0_4 : Int) (a0_5 : Int) (a0_6 : Int) (a0_7 : Int) (a0_8 : List (Int × Int)) (a0_9 : List (Int × Int)) (a0_10 : List ByteArray) : Option ((Bool × Unit) × Unit × Unit) :=
 (laws_szDesk a0_0 a0_1 a0_2 a0_3 a0_4 a0_5 a0_6 a0_7 a0_8 a0_9 a0_10 (1048576 : Int)).bind fun r1 =>
 let x2 : Bool := decide (r1.1.1 < (0 : Int));
 br x2
 (some ((true, ()), (), ()))
 ((laws_toDesk a0_0 a0_1 a0_2 a0_3 a0_4 a0_5 a0_6 a0_7 a0_8 a0_9 a0_10).bind fun r3 =>
 (spec_DeskOk r3.1.1.1 r3.2.2.1 r3.2.2.2.1 r3.2.2.2.2.1 r3.1.1.2.2.2.2.1 r3.1.1.2.2.2.2.2.1 r3.1.1.2.2.2.2.2.2.1 r3.1.1.2.2.2.2.2.2.2.1 r3.2.2.2.2.2.1 r3.2.2.2.2.2.2.1 r3.2.2.2.2.2.2.2.1).bind fun r4 =>
 (laws_toDesk a0_0 a0_1 a0_2 a0_3 a0_4 a0_5 a0_6 a0_7 a0_8 a0_9 a0_10).bind fun r5 =>
 (impl_DeskOk r5.1.1.1 r5.2.2.1 r5.2.2.2.1 r5.2.2.2.2.1 r5.1.1.2.2.2.2.1 r5.1.1.2.2.2.2.2.1 r5.1.1.2.2.2.2.2.2.1 r5.1.1.2.2.2.2.2.2.2.1 r5.2.2.2.2.2.1 r5.2.2.2.2.2.2.1 r5.2.2.2.2.2.2.2.1).bind fun r6 =>
 let x7 : Bool := r6.1.1 != r4.1.1;
 br x7
 (some ((false, ()), (), ()))
 ((laws_toDesk a0_0 a0_1 a0_2 a0_3 a0_4 a0_5 a0_6 a0_7 a0_8 a0_9 a0_10).bind fun r8 =>
 (laws_eqDesk r5.1.1.1 r5.2.2.1 r5.2.2.2.1 r5.2.2.2.2.1 r5.1.1.2.2.2.2.1 r5.1.1.2.2.2.2.2.1 r5.1.1.2.2.2.2.2.2.1 r5.1.1.2.2.2.2.2.2.2.1 r5.2.2.2.2.2.1 r5.2.2.2.2.2.2.1 r5.2.2.2.2.2.2.2.1 r8.1.1.1 r8.2.2.1 r8.2.2.2.1 r8.2.2.2.2.1 r8.1.1.2.2.2.2.1 r8.1.1.2.2.2.2.2.1 r8.1.1.2.2.2.2.2.2.1 r8.1.1.2.2.2.2.2.2.2.1 r8.2.2.2.2.2.1 r8.2.2.2.2.2.2.1 r8.2.2.2.2.2.2.2.1).bind fun r9 =>
 br (!r9.1.1)
 (some ((false, ()), (), ()))
 (some ((true, ()), (), ()))))
noncomputable def laws_FnExactDeskOk_C : Ctr := ⟨3, laws_FnExactDeskOk_arg, laws_FnExactDeskOk_res, fun x => laws_FnExactDeskOk x.1.1.1 x.1.1.2.1 x.1.1.2.2.1 x.1.1.2.2.2.1 x.1.1.2.2.2.2.1 x.1.1.2.2.2.2.2.1 x.1.1.2.2.2.2.2.2.1 x.1.1.2.2.2.2.2.2.2.1 x.1.1.2.2.2.2.2.2.2.2.1 x.1.1.2.2.2.2.2.2.2.2.2.1 x.1.1.2.2.2.2.2.2.2.2.2.2.1, none⟩
def laws_FnExactDeskOk_H : Hint := ⟨[], [], [], fun _ => []⟩
noncomputable def laws_FnExactDeskOk_T : List Ctr := [laws_szDesk_C, laws_toDesk_C, spec_DeskOk_C, impl_DeskOk_C, laws_eqDesk_C]
noncomputable def laws_FnExactDeskOk_Ls : List Lp := []
theorem laws_FnExactDeskOk_e : ∀ x, laws_FnExactDeskOk_C.F x = runBodyW E0 laws_FnExactDeskOk_T laws_FnExactDeskOk_Ls laws_FnExactDeskOk_H 3 Tryz.f3.results.toList (bodyOf Tryz.f3) [] (laws_FnExactDeskOk_arg.mk' x) laws_FnExactDeskOk_res := fun x => by kernel_rfl
theorem laws_FnExactDeskOk_ok : laws_FnExactDeskOk_C.Ok E0 := fn_ok (T := laws_FnExactDeskOk_T) (h := laws_FnExactDeskOk_H) (Ls := laws_FnExactDeskOk_Ls) E0_mixed (T_cons laws_szDesk_ok (T_cons laws_toDesk_ok (T_cons spec_DeskOk_ok (T_cons impl_DeskOk_ok (T_cons laws_eqDesk_ok T_nil))))) Tryz.func3 (bodyOf_some (by kernel_rfl)) (by kernel_rfl) (loops_of (ks := []) (by kernel_rfl) trivial) laws_FnExactDeskOk_e
def spec_l2Copy_arg : Sh := ⟨[(0, .c (.rd [] .mats))], [], []⟩
def spec_l2Copy_res : List Sh := [⟨[(0, .c (.own 0))], [], [(0, .mats)]⟩]
noncomputable def spec_l2Copy_s0 (x : (Unit × List (List (Int × Int)) × Int × Int × Unit) × Unit × (List (List (Int × Int)) × Unit)) : Option (((Unit × List (List (Int × Int)) × Int × Int × Unit) × Unit × (List (List (Int × Int)) × Unit)) ⊕ ((Unit × Unit) × Unit × (List (List (Int × Int)) × Unit))) :=
 let x1 : Bool := decide (x.1.2.2.2.1 < x.1.2.2.1);
 br x1
 (ck (0 ≤ x.1.2.2.2.1)
 (ck (x.1.2.2.2.1.toNat < x.1.2.1.length)
 (let x2 : List (Int × Int) := x.1.2.1.getD x.1.2.2.2.1.toNat [];
 ck ((([] : List Int).length + x2.length) * 16 ≤ 140737488355328 ∧ (([] : List Int).length + x2.length) ≤ 9223372036854775807)
 (let x3 : List (Int × Int) := [] ++ x2;
 ck ((x.2.2.1.length + 1) * 24 ≤ 140737488355328 ∧ (x.2.2.1.length + 1) ≤ 9223372036854775807)
 (let x4 : List (List (Int × Int)) := x.2.2.1 ++ [x3];
 let x5 : Int := w64 (x.1.2.2.2.1 + (1 : Int));
 some (.inl (((), x.1.2.1, x.1.2.2.1, x5, ()), (), (x4, ()))))))))
 (some (.inr (((), ()), (), (x.2.2.1, ()))))
def spec_l2Copy_h0 : Sh := ⟨[(3, .c (.own 0)), (7, .c (.rd [] .mats)), (8, .c (.int .i64)), (9, .c (.int .i64))], [], [(0, .mats)]⟩
def spec_l2Copy_r0 : List Sh := [⟨[(3, .c (.own 0))], [], [(0, .mats)]⟩]
noncomputable def spec_l2Copy_L0 : Lp := ⟨0, [], spec_l2Copy_h0, [], [(.exit 0, [])], spec_l2Copy_r0, loopC spec_l2Copy_s0⟩
noncomputable def spec_l2Copy (a0 : List (List (Int × Int))) : Option ((Unit × Unit) × Unit × (List (List (Int × Int)) × Unit)) :=
 (loopC spec_l2Copy_s0 (((), a0, (a0.length : Int), (0 : Int), ()), (), ([], ()))).bind fun r6 =>
 some (((), ()), (), (r6.2.2.1, ()))
noncomputable def spec_l2Copy_C : Ctr := ⟨106, spec_l2Copy_arg, spec_l2Copy_res, fun x => spec_l2Copy x.1.1, none⟩
def spec_l2Copy_H : Hint := ⟨[], [], [], fun _ => []⟩
noncomputable def spec_l2Copy_T : List Ctr := []
noncomputable def spec_l2Copy_Ls : List Lp := [spec_l2Copy_L0]
theorem spec_l2Copy_l0 : ∀ x, spec_l2Copy_s0 x = stepW E0 spec_l2Copy_T spec_l2Copy_Ls spec_l2Copy_H (loopAt (bodyOf Tryz.f106) 0) 0 spec_l2Copy_h0 [] [(.exit 0, [])] spec_l2Copy_r0 x := fun x => by kernel_rfl
theorem spec_l2Copy_e : ∀ x, spec_l2Copy_C.F x = runBodyW E0 spec_l2Copy_T spec_l2Copy_Ls spec_l2Copy_H 106 Tryz.f106.results.toList (bodyOf Tryz.f106) [] (spec_l2Copy_arg.mk' x) spec_l2Copy_res := fun x => by kernel_rfl
theorem spec_l2Copy_ok : spec_l2Copy_C.Ok E0 := fn_ok (T := spec_l2Copy_T) (h := spec_l2Copy_H) (Ls := spec_l2Copy_Ls) E0_mixed T_nil Tryz.func106 (bodyOf_some (by kernel_rfl)) (by kernel_rfl) (loops_of (ks := [0]) (by kernel_rfl) ⟨(loop_one (h := spec_l2Copy_H) (own := []) (head := spec_l2Copy_h0) (back := []) (exs := [(.exit 0, [])]) (res := spec_l2Copy_r0) (step := spec_l2Copy_s0) (by kernel_rfl) spec_l2Copy_l0), trivial⟩) spec_l2Copy_e
def spec_l5Copy_arg : Sh := ⟨[(0, .agg [.str, .rd [] .i64, .rd [] .i64, .rd [] .mats, .int .i64, .int .i64, .int .i64, .int .i64, .rd [] .mat, .rd [] .mat])], [], []⟩
def spec_l5Copy_res : List Sh := [⟨[(0, .agg [.str, .own 0, .own 1, .own 2, .int .i64, .int .i64, .int .i64, .int .i64, .own 3, .own 4])], [], [(0, .i64), (1, .i64), (2, .mats), (3, .mat), (4, .mat)]⟩]
noncomputable def spec_l5Copy (a0_0 : ByteArray) (a0_1 : List Int) (a0_2 : List Int) (a0_3 : List (List (Int × Int))) (a0_4 : Int) (a0_5 : Int) (a0_6 : Int) (a0_7 : Int) (a0_8 : List (Int × Int)) (a0_9 : List (Int × Int)) : Option (((ByteArray × Unit × Unit × Unit × Int × Int × Int × Int × Unit × Unit × Unit) × Unit) × Unit × (List Int × List Int × List (List (Int × Int)) × List (Int × Int) × List (Int × Int) × Unit)) :=
 ck ((([] : List Int).length + a0_1.length) * 8 ≤ 140737488355328 ∧ (([] : List Int).length + a0_1.length) ≤ 9223372036854775807)
 (let x1 : List Int := [] ++ a0_1;
 ck ((([] : List Int).length + a0_2.length) * 8 ≤ 140737488355328 ∧ (([] : List Int).length + a0_2.length) ≤ 9223372036854775807)
 (let x2 : List Int := [] ++ a0_2;
 (spec_l2Copy a0_3).bind fun r3 =>
 ck ((([] : List Int).length + a0_8.length) * 16 ≤ 140737488355328 ∧ (([] : List Int).length + a0_8.length) ≤ 9223372036854775807)
 (let x4 : List (Int × Int) := [] ++ a0_8;
 ck ((([] : List Int).length + a0_9.length) * 16 ≤ 140737488355328 ∧ (([] : List Int).length + a0_9.length) ≤ 9223372036854775807)
 (let x5 : List (Int × Int) := [] ++ a0_9;
 some (((a0_0, (), (), (), a0_4, a0_5, a0_6, a0_7, (), (), ()), ()), (), (x1, x2, r3.2.2.1, x4, x5, ()))))))
noncomputable def spec_l5Copy_C : Ctr := ⟨72, spec_l5Copy_arg, spec_l5Copy_res, fun x => spec_l5Copy x.1.1.1 x.1.1.2.1 x.1.1.2.2.1 x.1.1.2.2.2.1 x.1.1.2.2.2.2.1 x.1.1.2.2.2.2.2.1 x.1.1.2.2.2.2.2.2.1 x.1.1.2.2.2.2.2.2.2.1 x.1.1.2.2.2.2.2.2.2.2.1 x.1.1.2.2.2.2.2.2.2.2.2.1, none⟩
def spec_l5Copy_H : Hint := ⟨[], [], [], fun _ => []⟩
noncomputable def spec_l5Copy_T : List Ctr := [spec_l2Copy_C]
noncomputable def spec_l5Copy_Ls : List Lp := []
theorem spec_l5Copy_e : ∀ x, spec_l5Copy_C.F x = runBodyW E0 spec_l5Copy_T spec_l5Copy_Ls spec_l5Copy_H 72 Tryz.f72.results.toList (bodyOf Tryz.f72) [] (spec_l5Copy_arg.mk' x) spec_l5Copy_res := fun x => by kernel_rfl
theorem spec_l5Copy_ok : spec_l5Copy_C.Ok E0 := fn_ok (T := spec_l5Copy_T) (h := spec_l5Copy_H) (Ls := spec_l5Copy_Ls) E0_mixed (T_cons spec_l2Copy_ok T_nil) Tryz.func72 (bodyOf_some (by kernel_rfl)) (by kernel_rfl) (loops_of (ks := []) (by kernel_rfl) trivial) spec_l5Copy_e
def spec_TakeMatrix_arg : Sh := ⟨[(0, .agg [.str, .rd [] .i64, .rd [] .i64]), (1, .c (.rd [] .mats)), (2, .c (.int .i64))], [], []⟩
def spec_TakeMatrix_res : List Sh := [⟨[(0, .c (.own 0)), (1, .agg [.int .i64, .int .i64]), (2, .c (.bool))], [], [(0, .mats)]⟩]
noncomputable def spec_TakeMatrix (a0_0 : ByteArray) (a0_1 : List Int) (a0_2 : List Int) (a1 : List (List (Int × Int))) (a2 : Int) : Option ((Unit × (Int × Int × Unit) × Bool × Unit) × Unit × (List (List (Int × Int)) × Unit)) :=
 (spec_MagazineOk a0_0 a0_1 a0_2 a1).bind fun r1 =>
 br (!r1.1.1)
 (some (((), ((0 : Int), (0 : Int), ()), false, ()), (), ([], ())))
 (let x2 : Int := w64 ((a1.length : Int) - (1 : Int));
 (spec_l1In a2 (0 : Int) x2).bind fun r3 =>
 br (!r3.1.1)
 (some (((), ((0 : Int), (0 : Int), ()), false, ()), (), ([], ())))
 (ck (0 ≤ a2)
 (ck (a2.toNat < a1.length)
 (let x4 : List (Int × Int) := a1.getD a2.toNat [];
 let x5 : Bool := (x4.length : Int) == (0 : Int);
 br x5
 (some (((), ((0 : Int), (0 : Int), ()), false, ()), (), ([], ())))
 ((spec_l2Copy a1).bind fun r6 =>
 ck (0 ≤ a2)
 (ck (a2.toNat < r6.2.2.1.length)
 (ck (a2.toNat < r6.2.2.1.length)
 (ck (a2.toNat < r6.2.2.1.length ∧ 0 < (r6.2.2.1.getD a2.toNat []).length)
 (ck (a2.toNat < r6.2.2.1.length ∧ 0 < (r6.2.2.1.getD a2.toNat []).length)
 (let x7 : Int := ((r6.2.2.1.getD a2.toNat []).getD 0 (0, 0)).1;
 let x8 : Int := ((r6.2.2.1.getD a2.toNat []).getD 0 (0, 0)).2;
 ck (0 ≤ a2)
 (ck (a2.toNat < r6.2.2.1.length)
 (ck (a2.toNat < r6.2.2.1.length)
 (ck (a2.toNat < r6.2.2.1.length)
 (let x9 : List (Int × Int) := r6.2.2.1.getD a2.toNat [];
 ck (1 ≤ x9.length ∧ x9.length ≤ x9.length)
 (let x10 : List (Int × Int) := cut x9 1 x9.length;
 ck (0 ≤ a2)
 (ck (a2.toNat < r6.2.2.1.length)
 (ck (a2.toNat = a2.toNat ∧ a2.toNat < r6.2.2.1.length)
 (let x11 : List (List (Int × Int)) := r6.2.2.1.set a2.toNat x10;
 some (((), (x7, x8, ()), true, ()), (), (x11, ()))))))))))))))))))))
noncomputable def spec_TakeMatrix_C : Ctr := ⟨138, spec_TakeMatrix_arg, spec_TakeMatrix_res, fun x => spec_TakeMatrix x.1.1.1 x.1.1.2.1 x.1.1.2.2.1 x.1.2.1 x.1.2.2.1, none⟩
def spec_TakeMatrix_H : Hint := ⟨[45], [], [], fun _ => []⟩
noncomputable def spec_TakeMatrix_T : List Ctr := [spec_MagazineOk_C, spec_l1In_C, spec_l2Copy_C]
noncomputable def spec_TakeMatrix_Ls : List Lp := []
theorem spec_TakeMatrix_e : ∀ x, spec_TakeMatrix_C.F x = runBodyW E0 spec_TakeMatrix_T spec_TakeMatrix_Ls spec_TakeMatrix_H 138 Tryz.f138.results.toList (bodyOf Tryz.f138) [(.tm 6, 6000000, .mats)] (spec_TakeMatrix_arg.mk' x) spec_TakeMatrix_res := fun x => by kernel_rfl
theorem spec_TakeMatrix_ok : spec_TakeMatrix_C.Ok E0 := fn_ok (T := spec_TakeMatrix_T) (h := spec_TakeMatrix_H) (Ls := spec_TakeMatrix_Ls) E0_mixed (T_cons spec_MagazineOk_ok (T_cons spec_l1In_ok (T_cons spec_l2Copy_ok T_nil))) Tryz.func138 (bodyOf_some (by kernel_rfl)) (by kernel_rfl) (loops_of (ks := []) (by kernel_rfl) trivial) spec_TakeMatrix_e
def spec_l5Key_arg : Sh := ⟨[(0, .agg [.str, .rd [] .i64, .rd [] .i64, .rd [] .mats, .int .i64, .int .i64, .int .i64, .int .i64, .rd [] .mat, .rd [] .mat]), (1, .c (.int .i64))], [], []⟩
def spec_l5Key_res : List Sh := [⟨[(0, .agg [.str, .unk, .unk, .unk, .int .i64, .int .i64, .int .i64, .int .i64, .unk, .unk]), (1, .c (.lit false))], [], []⟩, ⟨[(0, .agg [.str, .own 0, .own 1, .own 2, .int .i64, .int .i64, .int .i64, .int .i64, .own 3, .own 4]), (1, .c (.lit true))], [], [(0, .i64), (1, .i64), (2, .mats), (3, .mat), (4, .mat)]⟩]
noncomputable def spec_l5Key (a0_0 : ByteArray) (a0_1 : List Int) (a0_2 : List Int) (a0_3 : List (List (Int × Int))) (a0_4 : Int) (a0_5 : Int) (a0_6 : Int) (a0_7 : Int) (a0_8 : List (Int × Int)) (a0_9 : List (Int × Int)) (a1 : Int) : Option ((((ByteArray × Unit × Unit × Unit × Int × Int × Int × Int × Unit × Unit × Unit) × Unit × Unit) × Unit × Unit) ⊕ (((ByteArray × Unit × Unit × Unit × Int × Int × Int × Int × Unit × Unit × Unit) × Unit × Unit) × Unit × (List Int × List Int × List (List (Int × Int)) × List (Int × Int) × List (Int × Int) × Unit))) :=
 (spec_l5Copy a0_0 a0_1 a0_2 a0_3 a0_4 a0_5 a0_6 a0_7 a0_8 a0_9).bind fun r1 =>
 let x2 : Bool := a1 == (32 : Int);
 br x2
 (let x3 : Int := w64 (r1.1.1.2.2.2.2.1 - (1 : Int));
 ck ((r1.2.2.2.2.2.1.length + [((-1 : Int), (0 : Int))].length) * 16 ≤ 140737488355328 ∧ (r1.2.2.2.2.2.1.length + [((-1 : Int), (0 : Int))].length) ≤ 9223372036854775807)
 (let x4 : List (Int × Int) := r1.2.2.2.2.2.1 ++ [((-1 : Int), (0 : Int))];
 (spec_MachineOk r1.1.1.1 r1.2.2.1 r1.2.2.2.1 r1.2.2.2.2.1 x3 r1.1.1.2.2.2.2.2.1 r1.1.1.2.2.2.2.2.2.1 r1.1.1.2.2.2.2.2.2.2.1 x4 r1.2.2.2.2.2.2.1).bind fun r5 =>
 br (!r5.1.1)
 (some (.inl (((a0_0, (), (), (), a0_4, a0_5, a0_6, a0_7, (), (), ()), (), ()), (), ())))
 (some (.inr (((r1.1.1.1, (), (), (), x3, r1.1.1.2.2.2.2.2.1, r1.1.1.2.2.2.2.2.2.1, r1.1.1.2.2.2.2.2.2.2.1, (), (), ()), (), ()), (), (r1.2.2.1, r1.2.2.2.1, r1.2.2.2.2.1, x4, r1.2.2.2.2.2.2.1, ()))))))
 ((spec_KeyOf a0_0 a0_1 a0_2 a1).bind fun r6 =>
 (spec_TakeMatrix a0_0 a0_1 a0_2 a0_3 r6.1.1).bind fun r7 =>
 br (!r7.1.2.2.1)
 (some (.inl (((a0_0, (), (), (), a0_4, a0_5, a0_6, a0_7, (), (), ()), (), ()), (), ())))
 (ck ((r1.2.2.2.2.2.1.length + [(r7.1.2.1.1, r7.1.2.1.2.1)].length) * 16 ≤ 140737488355328 ∧ (r1.2.2.2.2.2.1.length + [(r7.1.2.1.1, r7.1.2.1.2.1)].length) ≤ 9223372036854775807)
 (let x8 : List (Int × Int) := r1.2.2.2.2.2.1 ++ [(r7.1.2.1.1, r7.1.2.1.2.1)];
 (spec_MachineOk r1.1.1.1 r1.2.2.1 r1.2.2.2.1 r7.2.2.1 r1.1.1.2.2.2.2.1 r1.1.1.2.2.2.2.2.1 r1.1.1.2.2.2.2.2.2.1 r1.1.1.2.2.2.2.2.2.2.1 x8 r1.2.2.2.2.2.2.1).bind fun r9 =>
 br (!r9.1.1)
 (some (.inl (((a0_0, (), (), (), a0_4, a0_5, a0_6, a0_7, (), (), ()), (), ()), (), ())))
 (some (.inr (((r1.1.1.1, (), (), (), r1.1.1.2.2.2.2.1, r1.1.1.2.2.2.2.2.1, r1.1.1.2.2.2.2.2.2.1, r1.1.1.2.2.2.2.2.2.2.1, (), (), ()), (), ()), (), (r1.2.2.1, r1.2.2.2.1, r7.2.2.1, x8, r1.2.2.2.2.2.2.1, ())))))))
noncomputable def spec_l5Key_C : Ctr := ⟨107, spec_l5Key_arg, spec_l5Key_res, fun x => spec_l5Key x.1.1.1 x.1.1.2.1 x.1.1.2.2.1 x.1.1.2.2.2.1 x.1.1.2.2.2.2.1 x.1.1.2.2.2.2.2.1 x.1.1.2.2.2.2.2.2.1 x.1.1.2.2.2.2.2.2.2.1 x.1.1.2.2.2.2.2.2.2.2.1 x.1.1.2.2.2.2.2.2.2.2.2.1 x.1.2.1, none⟩
def spec_l5Key_H : Hint := ⟨[], [], [], fun _ => []⟩
noncomputable def spec_l5Key_T : List Ctr := [spec_l5Copy_C, spec_MachineOk_C, spec_KeyOf_C, spec_TakeMatrix_C]
noncomputable def spec_l5Key_Ls : List Lp := []
theorem spec_l5Key_e : ∀ x, spec_l5Key_C.F x = runBodyW E0 spec_l5Key_T spec_l5Key_Ls spec_l5Key_H 107 Tryz.f107.results.toList (bodyOf Tryz.f107) [] (spec_l5Key_arg.mk' x) spec_l5Key_res := fun x => by kernel_rfl
theorem spec_l5Key_ok : spec_l5Key_C.Ok E0 := fn_ok (T := spec_l5Key_T) (h := spec_l5Key_H) (Ls := spec_l5Key_Ls) E0_mixed (T_cons spec_l5Copy_ok (T_cons spec_MachineOk_ok (T_cons spec_KeyOf_ok (T_cons spec_TakeMatrix_ok T_nil)))) Tryz.func107 (bodyOf_some (by kernel_rfl)) (by kernel_rfl) (loops_of (ks := []) (by kernel_rfl) trivial) spec_l5Key_e
def spec_KeyText_arg : Sh := ⟨[(0, .agg [.str, .rd [] .i64, .rd [] .i64, .rd [] .mats, .int .i64, .int .i64, .int .i64, .int .i64, .rd [] .mat, .rd [] .mat]), (1, .c (.str))], [], []⟩
def spec_KeyText_res : List Sh := [⟨[(0, .agg [.str, .own 0, .own 1, .own 2, .int .i64, .int .i64, .int .i64, .int .i64, .own 3, .own 4]), (1, .c (.int .i64))], [], [(0, .i64), (1, .i64), (2, .mats), (3, .mat), (4, .mat)]⟩]
noncomputable def spec_KeyText_s0 (x : (ByteArray × Unit × Unit × Int × Unit) × ((ByteArray × Unit × Unit × Unit × Int × Int × Int × Int × Unit × Unit × Unit) × (ByteArray × Unit × Unit × Unit × Int × Int × Int × Int × Unit × Unit × Unit) × Unit) × (List Int × List Int × List (List (Int × Int)) × List (Int × Int) × List (Int × Int) × Unit)) : Option (((ByteArray × Unit × Unit × Int × Unit) × ((ByteArray × Unit × Unit × Unit × Int × Int × Int × Int × Unit × Unit × Unit) × (ByteArray × Unit × Unit × Unit × Int × Int × Int × Int × Unit × Unit × Unit) × Unit) × (List Int × List Int × List (List (Int × Int)) × List (Int × Int) × List (Int × Int) × Unit)) ⊕ (((Unit × Int × Unit) × ((ByteArray × Unit × Unit × Unit × Int × Int × Int × Int × Unit × Unit × Unit) × Unit) × (List Int × List Int × List (List (Int × Int)) × List (Int × Int) × List (Int × Int) × Unit)) ⊕ ((ByteArray × Unit × Unit × Unit) × ((ByteArray × Unit × Unit × Unit × Int × Int × Int × Int × Unit × Unit × Unit) × (ByteArray × Unit × Unit × Unit × Int × Int × Int × Int × Unit × Unit × Unit) × Unit) × (List Int × List Int × List (List (Int × Int)) × List (Int × Int) × List (Int × Int) × Unit)))) :=
 let x3 : Bool := decide (x.1.2.2.2.1 < (x.1.1.size : Int));
 br x3
 (ck (0 ≤ x.1.2.2.2.1 ∧ x.1.2.2.2.1.toNat < x.1.1.size)
 (let x4 : Int := byteAt x.1.1 x.1.2.2.2.1.toNat;
 let x5 : Int := w64 x4;
 (spec_l5Key x.2.1.1.1 x.2.2.1 x.2.2.2.1 x.2.2.2.2.1 x.2.1.1.2.2.2.2.1 x.2.1.1.2.2.2.2.2.1 x.2.1.1.2.2.2.2.2.2.1 x.2.1.1.2.2.2.2.2.2.2.1 x.2.2.2.2.2.1 x.2.2.2.2.2.2.1 x5).bind fun r6 =>
 sumK r6 (fun y9 =>
 some (.inr (.inl (((), x.1.2.2.2.1, ()), ((x.2.1.1.1, (), (), (), x.2.1.1.2.2.2.2.1, x.2.1.1.2.2.2.2.2.1, x.2.1.1.2.2.2.2.2.2.1, x.2.1.1.2.2.2.2.2.2.2.1, (), (), ()), ()), (x.2.2.1, x.2.2.2.1, x.2.2.2.2.1, x.2.2.2.2.2.1, x.2.2.2.2.2.2.1, ()))))) (fun y10 =>
 let x11 : Int := w64 (x.1.2.2.2.1 + (1 : Int));
 some (.inl ((x.1.1, (), (), x11, ()), ((y10.1.1.1, (), (), (), y10.1.1.2.2.2.2.1, y10.1.1.2.2.2.2.2.1, y10.1.1.2.2.2.2.2.2.1, y10.1.1.2.2.2.2.2.2.2.1, (), (), ()), (x.2.1.2.1.1, (), (), (), x.2.1.2.1.2.2.2.2.1, x.2.1.2.1.2.2.2.2.2.1, x.2.1.2.1.2.2.2.2.2.2.1, x.2.1.2.1.2.2.2.2.2.2.2.1, (), (), ()), ()), (y10.2.2.1, y10.2.2.2.1, y10.2.2.2.2.1, y10.2.2.2.2.2.1, y10.2.2.2.2.2.2.1, ()))))))
 (some (.inr (.inr ((x.1.1, (), (), ()), ((x.2.1.1.1, (), (), (), x.2.1.1.2.2.2.2.1, x.2.1.1.2.2.2.2.2.1, x.2.1.1.2.2.2.2.2.2.1, x.2.1.1.2.2.2.2.2.2.2.1, (), (), ()), (x.2.1.2.1.1, (), (), (), x.2.1.2.1.2.2.2.2.1, x.2.1.2.1.2.2.2.2.2.1, x.2.1.2.1.2.2.2.2.2.2.1, x.2.1.2.1.2.2.2.2.2.2.2.1, (), (), ()), ()), (x.2.2.1, x.2.2.2.1, x.2.2.2.2.1, x.2.2.2.2.2.1, x.2.2.2.2.2.2.1, ())))))
def spec_KeyText_h0 : Sh := ⟨[(1, .c (.str)), (2, .c (.box 0 0)), (4, .c (.box 1 0)), (6, .c (.int .i64))], [(0, .cells [.str, .own 0, .own 1, .own 2, .int .i64, .int .i64, .int .i64, .int .i64, .own 3, .own 4]), (1, .cells [.str, .nil, .nil, .nil, .int .i64, .int .i64, .int .i64, .int .i64, .nil, .nil])], [(0, .i64), (1, .i64), (2, .mats), (3, .mat), (4, .mat)]⟩
def spec_KeyText_r0 : List Sh := [⟨[(4, .c (.box 0 0)), (5, .c (.int .i64))], [(0, .cells [.str, .own 0, .own 1, .own 2, .int .i64, .int .i64, .int .i64, .int .i64, .own 3, .own 4])], [(0, .i64), (1, .i64), (2, .mats), (3, .mat), (4, .mat)]⟩, ⟨[(1, .c (.str)), (2, .c (.box 0 0)), (4, .c (.box 1 0))], [(0, .cells [.str, .own 0, .own 1, .own 2, .int .i64, .int .i64, .int .i64, .int .i64, .own 3, .own 4]), (1, .cells [.str, .nil, .nil, .nil, .int .i64, .int .i64, .int .i64, .int .i64, .nil, .nil])], [(0, .i64), (1, .i64), (2, .mats), (3, .mat), (4, .mat)]⟩]
noncomputable def spec_KeyText_L0 : Lp := ⟨0, [], spec_KeyText_h0, [], [(.ret, []), (.exit 0, [])], spec_KeyText_r0, loopC spec_KeyText_s0⟩
noncomputable def spec_KeyText (a0_0 : ByteArray) (a0_1 : List Int) (a0_2 : List Int) (a0_3 : List (List (Int × Int))) (a0_4 : Int) (a0_5 : Int) (a0_6 : Int) (a0_7 : Int) (a0_8 : List (Int × Int)) (a0_9 : List (Int × Int)) (a1 : ByteArray) : Option (((ByteArray × Unit × Unit × Unit × Int × Int × Int × Int × Unit × Unit × Unit) × Int × Unit) × Unit × (List Int × List Int × List (List (Int × Int)) × List (Int × Int) × List (Int × Int) × Unit)) :=
 (spec_MachineOk a0_0 a0_1 a0_2 a0_3 a0_4 a0_5 a0_6 a0_7 a0_8 a0_9).bind fun r1 =>
 br (!r1.1.1)
 (some (((ByteArray.empty, (), (), (), (0 : Int), (0 : Int), (0 : Int), (0 : Int), (), (), ()), (-1 : Int), ()), (), ([], [], [], [], [], ())))
 ((spec_l5Copy a0_0 a0_1 a0_2 a0_3 a0_4 a0_5 a0_6 a0_7 a0_8 a0_9).bind fun r2 =>
 (loopC spec_KeyText_s0 ((a1, (), (), (0 : Int), ()), ((r2.1.1.1, (), (), (), r2.1.1.2.2.2.2.1, r2.1.1.2.2.2.2.2.1, r2.1.1.2.2.2.2.2.2.1, r2.1.1.2.2.2.2.2.2.2.1, (), (), ()), (ByteArray.empty, (), (), (), (0 : Int), (0 : Int), (0 : Int), (0 : Int), (), (), ()), ()), (r2.2.2.1, r2.2.2.2.1, r2.2.2.2.2.1, r2.2.2.2.2.2.1, r2.2.2.2.2.2.2.1, ()))).bind fun r12 =>
 sumK r12 (fun y15 =>
 some (((y15.2.1.1.1, (), (), (), y15.2.1.1.2.2.2.2.1, y15.2.1.1.2.2.2.2.2.1, y15.2.1.1.2.2.2.2.2.2.1, y15.2.1.1.2.2.2.2.2.2.2.1, (), (), ()), y15.1.2.1, ()), (), (y15.2.2.1, y15.2.2.2.1, y15.2.2.2.2.1, y15.2.2.2.2.2.1, y15.2.2.2.2.2.2.1, ()))) (fun y16 =>
 some (((y16.2.1.1.1, (), (), (), y16.2.1.1.2.2.2.2.1, y16.2.1.1.2.2.2.2.2.1, y16.2.1.1.2.2.2.2.2.2.1, y16.2.1.1.2.2.2.2.2.2.2.1, (), (), ()), (y16.1.1.size : Int), ()), (), (y16.2.2.1, y16.2.2.2.1, y16.2.2.2.2.1, y16.2.2.2.2.2.1, y16.2.2.2.2.2.2.1, ()))))
noncomputable def spec_KeyText_C : Ctr := ⟨73, spec_KeyText_arg, spec_KeyText_res, fun x => spec_KeyText x.1.1.1 x.1.1.2.1 x.1.1.2.2.1 x.1.1.2.2.2.1 x.1.1.2.2.2.2.1 x.1.1.2.2.2.2.2.1 x.1.1.2.2.2.2.2.2.1 x.1.1.2.2.2.2.2.2.2.1 x.1.1.2.2.2.2.2.2.2.2.1 x.1.1.2.2.2.2.2.2.2.2.2.1 x.1.2.1, none⟩
def spec_KeyText_H : Hint := ⟨[], [], [], fun _ => []⟩
noncomputable def spec_KeyText_T : List Ctr := [spec_MachineOk_C, spec_l5Copy_C, spec_l5Key_C]
noncomputable def spec_KeyText_Ls : List Lp := [spec_KeyText_L0]
theorem spec_KeyText_l0 : ∀ x, spec_KeyText_s0 x = stepW E0 spec_KeyText_T spec_KeyText_Ls spec_KeyText_H (loopAt (bodyOf Tryz.f73) 0) 0 spec_KeyText_h0 [] [(.ret, []), (.exit 0, [])] spec_KeyText_r0 x := fun x => by kernel_rfl
theorem spec_KeyText_e : ∀ x, spec_KeyText_C.F x = runBodyW E0 spec_KeyText_T spec_KeyText_Ls spec_KeyText_H 73 Tryz.f73.results.toList (bodyOf Tryz.f73) [(.bx 4 1, 6000000, .i64), (.bx 4 2, 6000001, .i64), (.bx 4 3, 6000002, .mats), (.bx 4 8, 6000003, .mat), (.bx 4 9, 6000004, .mat)] (spec_KeyText_arg.mk' x) spec_KeyText_res := fun x => by kernel_rfl
theorem spec_KeyText_ok : spec_KeyText_C.Ok E0 := fn_ok (T := spec_KeyText_T) (h := spec_KeyText_H) (Ls := spec_KeyText_Ls) E0_mixed (T_cons spec_MachineOk_ok (T_cons spec_l5Copy_ok (T_cons spec_l5Key_ok T_nil))) Tryz.func73 (bodyOf_some (by kernel_rfl)) (by kernel_rfl) (loops_of (ks := [0]) (by kernel_rfl) ⟨(loop_one (h := spec_KeyText_H) (own := []) (head := spec_KeyText_h0) (back := []) (exs := [(.ret, []), (.exit 0, [])]) (res := spec_KeyText_r0) (step := spec_KeyText_s0) (by kernel_rfl) spec_KeyText_l0), trivial⟩) spec_KeyText_e
def spec_l3Spread_arg : Sh := ⟨[(0, .agg [.int .i64, .int .i64, .int .i64]), (1, .c (.rd [] .i64))], [], []⟩
def spec_l3Spread_res : List Sh := [⟨[(0, .c (.int .i64)), (1, .c (.int .i64))], [], []⟩]
noncomputable def spec_l3Spread_s0 (x : (Unit × Int × Int × Int × Unit) × ((Int × Int × Int × Unit) × Unit) × Unit) : Option (((Unit × Int × Int × Int × Unit) × ((Int × Int × Int × Unit) × Unit) × Unit) ⊕ ((Int × Int × Unit) × Unit × Unit)) :=
 let x5 : Bool := decide (x.1.2.1 > (0 : Int));
 br x5
 (let x6 : Int := w64 (x.2.1.1.2.2.1 - x.2.1.1.2.1);
 let x7 : Bool := decide (x.1.2.2.2.1 < x6);
 br x7
 (let x8 : Bool := decide (x.1.2.2.1 ≥ x.1.2.1);
 br x8
 (let x9 : Int := w64 (x.1.2.2.2.1 + (1 : Int));
 let x10 : Int := w64 (x.1.2.2.1 - x.1.2.1);
 some (.inl (((), x.1.2.1, x10, x9, ()), ((x.2.1.1.1, x.2.1.1.2.1, x.2.1.1.2.2.1, ()), ()), ())))
 (some (.inr ((x.1.2.2.1, x.1.2.2.2.1, ()), (), ()))))
 (some (.inr ((x.1.2.2.1, x.1.2.2.2.1, ()), (), ()))))
 (some (.inr ((x.1.2.2.1, x.1.2.2.2.1, ()), (), ())))
def spec_l3Spread_h0 : Sh := ⟨[(2, .c (.box 0 0)), (7, .c (.int .i64)), (8, .c (.int .i64)), (9, .c (.int .i64))], [(0, .cells [.int .i64, .int .i64, .int .i64])], []⟩
def spec_l3Spread_r0 : List Sh := [⟨[(8, .c (.int .i64)), (9, .c (.int .i64))], [], []⟩]
noncomputable def spec_l3Spread_L0 : Lp := ⟨0, [], spec_l3Spread_h0, [], [(.exit 0, [])], spec_l3Spread_r0, loopC spec_l3Spread_s0⟩
noncomputable def spec_l3Spread (a0_0 : Int) (a0_1 : Int) (a0_2 : Int) (a1 : List Int) : Option ((Int × Int × Unit) × Unit × Unit) :=
 (spec_l3Sum a1).bind fun r1 =>
 let x2 : Int := w64 (a0_0 - r1.1.1);
 let x3 : Int := w64 (r1.1.2.1 * a0_1);
 let x4 : Int := w64 (x2 - x3);
 (loopC spec_l3Spread_s0 (((), r1.1.2.1, x4, (0 : Int), ()), ((a0_0, a0_1, a0_2, ()), ()), ())).bind fun r11 =>
 some ((r11.1.2.1, r11.1.1, ()), (), ())
noncomputable def spec_l3Spread_C : Ctr := ⟨153, spec_l3Spread_arg, spec_l3Spread_res, fun x => spec_l3Spread x.1.1.1 x.1.1.2.1 x.1.1.2.2.1 x.1.2.1, none⟩
def spec_l3Spread_H : Hint := ⟨[], [], [], fun _ => []⟩
noncomputable def spec_l3Spread_T : List Ctr := [spec_l3Sum_C]
noncomputable def spec_l3Spread_Ls : List Lp := [spec_l3Spread_L0]
theorem spec_l3Spread_l0 : ∀ x, spec_l3Spread_s0 x = stepW E0 spec_l3Spread_T spec_l3Spread_Ls spec_l3Spread_H (loopAt (bodyOf Tryz.f153) 0) 0 spec_l3Spread_h0 [] [(.exit 0, [])] spec_l3Spread_r0 x := fun x => by kernel_rfl
theorem spec_l3Spread_e : ∀ x, spec_l3Spread_C.F x = runBodyW E0 spec_l3Spread_T spec_l3Spread_Ls spec_l3Spread_H 153 Tryz.f153.results.toList (bodyOf Tryz.f153) [] (spec_l3Spread_arg.mk' x) spec_l3Spread_res := fun x => by kernel_rfl
theorem spec_l3Spread_ok : spec_l3Spread_C.Ok E0 := fn_ok (T := spec_l3Spread_T) (h := spec_l3Spread_H) (Ls := spec_l3Spread_Ls) E0_mixed (T_cons spec_l3Sum_ok T_nil) Tryz.func153 (bodyOf_some (by kernel_rfl)) (by kernel_rfl) (loops_of (ks := [0]) (by kernel_rfl) ⟨(loop_one (h := spec_l3Spread_H) (own := []) (head := spec_l3Spread_h0) (back := []) (exs := [(.exit 0, [])]) (res := spec_l3Spread_r0) (step := spec_l3Spread_s0) (by kernel_rfl) spec_l3Spread_l0), trivial⟩) spec_l3Spread_e
def spec_SpreadLine_arg : Sh := ⟨[(0, .agg [.int .i64, .int .i64, .int .i64]), (1, .c (.rd [] .i64))], [], []⟩
def spec_SpreadLine_res : List Sh := [⟨[(0, .c (.int .i64)), (1, .c (.int .i64)), (2, .c (.bool))], [], []⟩]
noncomputable def spec_SpreadLine (a0_0 : Int) (a0_1 : Int) (a0_2 : Int) (a1 : List Int) : Option ((Int × Int × Bool × Unit) × Unit × Unit) :=
 (spec_MeasureOk a0_0 a0_1 a0_2).bind fun r1 =>
 br (!r1.1.1)
 (some (((0 : Int), (0 : Int), false, ()), (), ()))
 ((spec_l3Fits a0_0 a0_1 a0_2 a1).bind fun r2 =>
 br (!r2.1.1)
 (some (((0 : Int), (0 : Int), false, ()), (), ()))
 ((spec_l3Spread a0_0 a0_1 a0_2 a1).bind fun r3 =>
 some ((r3.1.1, r3.1.2.1, true, ()), (), ())))
noncomputable def spec_SpreadLine_C : Ctr := ⟨139, spec_SpreadLine_arg, spec_SpreadLine_res, fun x => spec_SpreadLine x.1.1.1 x.1.1.2.1 x.1.1.2.2.1 x.1.2.1, none⟩
def spec_SpreadLine_H : Hint := ⟨[], [], [], fun _ => []⟩
noncomputable def spec_SpreadLine_T : List Ctr := [spec_MeasureOk_C, spec_l3Fits_C, spec_l3Spread_C]
noncomputable def spec_SpreadLine_Ls : List Lp := []
theorem spec_SpreadLine_e : ∀ x, spec_SpreadLine_C.F x = runBodyW E0 spec_SpreadLine_T spec_SpreadLine_Ls spec_SpreadLine_H 139 Tryz.f139.results.toList (bodyOf Tryz.f139) [] (spec_SpreadLine_arg.mk' x) spec_SpreadLine_res := fun x => by kernel_rfl
theorem spec_SpreadLine_ok : spec_SpreadLine_C.Ok E0 := fn_ok (T := spec_SpreadLine_T) (h := spec_SpreadLine_H) (Ls := spec_SpreadLine_Ls) E0_mixed (T_cons spec_MeasureOk_ok (T_cons spec_l3Fits_ok (T_cons spec_l3Spread_ok T_nil))) Tryz.func139 (bodyOf_some (by kernel_rfl)) (by kernel_rfl) (loops_of (ks := []) (by kernel_rfl) trivial) spec_SpreadLine_e
def spec_IsFull_arg : Sh := ⟨[(0, .agg [.int .i64, .int .i64, .int .i64]), (1, .c (.rd [] .i64))], [], []⟩
def spec_IsFull_res : List Sh := [⟨[(0, .c (.bool))], [], []⟩]
noncomputable def spec_IsFull (a0_0 : Int) (a0_1 : Int) (a0_2 : Int) (a1 : List Int) : Option ((Bool × Unit) × Unit × Unit) :=
 (spec_SpreadLine a0_0 a0_1 a0_2 a1).bind fun r1 =>
 (spec_l3Sum a1).bind fun r2 =>
 br r1.1.2.2.1
 (let x3 : Bool := r1.1.2.1 == (0 : Int);
 br x3
 (some ((true, ()), (), ()))
 (let x4 : Bool := decide (r1.1.2.1 < r2.1.2.1);
 some ((x4, ()), (), ())))
 (some ((false, ()), (), ()))
noncomputable def spec_IsFull_C : Ctr := ⟨108, spec_IsFull_arg, spec_IsFull_res, fun x => spec_IsFull x.1.1.1 x.1.1.2.1 x.1.1.2.2.1 x.1.2.1, none⟩
def spec_IsFull_H : Hint := ⟨[], [], [], fun _ => []⟩
noncomputable def spec_IsFull_T : List Ctr := [spec_SpreadLine_C, spec_l3Sum_C]
noncomputable def spec_IsFull_Ls : List Lp := []
theorem spec_IsFull_e : ∀ x, spec_IsFull_C.F x = runBodyW E0 spec_IsFull_T spec_IsFull_Ls spec_IsFull_H 108 Tryz.f108.results.toList (bodyOf Tryz.f108) [] (spec_IsFull_arg.mk' x) spec_IsFull_res := fun x => by kernel_rfl
theorem spec_IsFull_ok : spec_IsFull_C.Ok E0 := fn_ok (T := spec_IsFull_T) (h := spec_IsFull_H) (Ls := spec_IsFull_Ls) E0_mixed (T_cons spec_SpreadLine_ok (T_cons spec_l3Sum_ok T_nil)) Tryz.func108 (bodyOf_some (by kernel_rfl)) (by kernel_rfl) (loops_of (ks := []) (by kernel_rfl) trivial) spec_IsFull_e
def spec_l5Text_arg : Sh := ⟨[(0, .agg [.str, .rd [] .i64, .rd [] .i64]), (1, .c (.rd [] .mat))], [], []⟩
def spec_l5Text_res : List Sh := [⟨[(0, .c (.str))], [], []⟩]
noncomputable def spec_l5Text_s0 (x : (Unit × ByteArray × List (Int × Int) × Int × Int × Unit) × ((ByteArray × List Int × List Int × Unit) × Unit) × Unit) : Option (((Unit × ByteArray × List (Int × Int) × Int × Int × Unit) × ((ByteArray × List Int × List Int × Unit) × Unit) × Unit) ⊕ ((ByteArray × Unit) × Unit × Unit)) :=
 let x1 : Bool := decide (x.1.2.2.2.2.1 < x.1.2.2.2.1);
 br x1
 (ck (0 ≤ x.1.2.2.2.2.1)
 (ck (x.1.2.2.2.2.1.toNat < x.1.2.2.1.length)
 (let x2 : Int × Int := x.1.2.2.1.getD x.1.2.2.2.2.1.toNat (0, 0);
 let x3 : Bool := decide (x2.1 < (0 : Int));
 br x3
 (ck (((x.1.2.1.size + (ByteArray.mk #[32]).size : Nat) : Int) ≤ IntKind.i64.max)
 (let x4 : ByteArray := x.1.2.1 ++ (ByteArray.mk #[32]);
 let x5 : Int := w64 (x.1.2.2.2.2.1 + (1 : Int));
 some (.inl (((), x4, x.1.2.2.1, x.1.2.2.2.1, x5, ()), ((x.2.1.1.1, x.2.1.1.2.1, x.2.1.1.2.2.1, ()), ()), ()))))
 (let x6 : Int := w64 (x2.1 + (1 : Int));
 ck (0 ≤ x2.1)
 (ck (0 ≤ x6)
 (ck (x2.1.toNat ≤ x6.toNat ∧ x6.toNat ≤ x.2.1.1.1.size)
 (let x7 : ByteArray := x.2.1.1.1.extract x2.1.toNat x6.toNat;
 ck (((x.1.2.1.size + x7.size : Nat) : Int) ≤ IntKind.i64.max)
 (let x8 : ByteArray := x.1.2.1 ++ x7;
 let x9 : Int := w64 (x.1.2.2.2.2.1 + (1 : Int));
 some (.inl (((), x8, x.1.2.2.1, x.1.2.2.2.1, x9, ()), ((x.2.1.1.1, x.2.1.1.2.1, x.2.1.1.2.2.1, ()), ()), ()))))))))))
 (some (.inr ((x.1.2.1, ()), (), ())))
def spec_l5Text_h0 : Sh := ⟨[(2, .c (.box 0 0)), (5, .c (.str)), (8, .c (.rd [] .mat)), (9, .c (.int .i64)), (10, .c (.int .i64))], [(0, .cells [.str, .rd [] .i64, .rd [] .i64])], []⟩
def spec_l5Text_r0 : List Sh := [⟨[(5, .c (.str))], [], []⟩]
noncomputable def spec_l5Text_L0 : Lp := ⟨0, [], spec_l5Text_h0, [], [(.exit 0, [])], spec_l5Text_r0, loopC spec_l5Text_s0⟩
noncomputable def spec_l5Text (a0_0 : ByteArray) (a0_1 : List Int) (a0_2 : List Int) (a1 : List (Int × Int)) : Option ((ByteArray × Unit) × Unit × Unit) :=
 (loopC spec_l5Text_s0 (((), ByteArray.empty, a1, (a1.length : Int), (0 : Int), ()), ((a0_0, a0_1, a0_2, ()), ()), ())).bind fun r10 =>
 some ((r10.1.1, ()), (), ())
noncomputable def spec_l5Text_C : Ctr := ⟨109, spec_l5Text_arg, spec_l5Text_res, fun x => spec_l5Text x.1.1.1 x.1.1.2.1 x.1.1.2.2.1 x.1.2.1, none⟩
def spec_l5Text_H : Hint := ⟨[], [], [], fun _ => []⟩
noncomputable def spec_l5Text_T : List Ctr := []
noncomputable def spec_l5Text_Ls : List Lp := [spec_l5Text_L0]
theorem spec_l5Text_l0 : ∀ x, spec_l5Text_s0 x = stepW E0 spec_l5Text_T spec_l5Text_Ls spec_l5Text_H (loopAt (bodyOf Tryz.f109) 0) 0 spec_l5Text_h0 [] [(.exit 0, [])] spec_l5Text_r0 x := fun x => by kernel_rfl
theorem spec_l5Text_e : ∀ x, spec_l5Text_C.F x = runBodyW E0 spec_l5Text_T spec_l5Text_Ls spec_l5Text_H 109 Tryz.f109.results.toList (bodyOf Tryz.f109) [] (spec_l5Text_arg.mk' x) spec_l5Text_res := fun x => by kernel_rfl
theorem spec_l5Text_ok : spec_l5Text_C.Ok E0 := fn_ok (T := spec_l5Text_T) (h := spec_l5Text_H) (Ls := spec_l5Text_Ls) E0_mixed T_nil Tryz.func109 (bodyOf_some (by kernel_rfl)) (by kernel_rfl) (loops_of (ks := [0]) (by kernel_rfl) ⟨(loop_one (h := spec_l5Text_H) (own := []) (head := spec_l5Text_h0) (back := []) (exs := [(.exit 0, [])]) (res := spec_l5Text_r0) (step := spec_l5Text_s0) (by kernel_rfl) spec_l5Text_l0), trivial⟩) spec_l5Text_e
def spec_l3Wide_arg : Sh := ⟨[(0, .agg [.int .i64, .int .i64, .int .i64]), (1, .c (.rd [] .i64))], [], []⟩
def spec_l3Wide_res : List Sh := [⟨[(0, .c (.own 0))], [], [(0, .i64)]⟩]
noncomputable def spec_l3Wide_s0 (x : (Unit × Int × Int × Unit × List Int × Int × Int × Unit) × ((Int × Int × Int × Unit) × Unit) × (List Int × Unit)) : Option (((Unit × Int × Int × Unit × List Int × Int × Int × Unit) × ((Int × Int × Int × Unit) × Unit) × (List Int × Unit)) ⊕ ((Unit × Unit) × Unit × (List Int × Unit))) :=
 let x3 : Bool := decide (x.1.2.2.2.2.2.2.1 < x.1.2.2.2.2.2.1);
 br x3
 (ck (0 ≤ x.1.2.2.2.2.2.2.1)
 (ck (x.1.2.2.2.2.2.2.1.toNat < x.1.2.2.2.2.1.length)
 (let x4 : Int := x.1.2.2.2.2.1.getD x.1.2.2.2.2.2.2.1.toNat 0;
 let x5 : Bool := x4 == (0 : Int);
 br x5
 (let x6 : Int := w64 (x.2.1.1.2.1 + x.1.2.1);
 let x7 : Bool := decide (x.1.2.2.1 > (0 : Int));
 br x7
 (let x8 : Int := w64 (x6 + (1 : Int));
 let x9 : Int := w64 (x.1.2.2.1 - (1 : Int));
 ck ((x.2.2.1.length + [x8].length) * 8 ≤ 140737488355328 ∧ (x.2.2.1.length + [x8].length) ≤ 9223372036854775807)
 (let x10 : List Int := x.2.2.1 ++ [x8];
 let x11 : Int := w64 (x.1.2.2.2.2.2.2.1 + (1 : Int));
 some (.inl (((), x.1.2.1, x9, (), x.1.2.2.2.2.1, x.1.2.2.2.2.2.1, x11, ()), ((x.2.1.1.1, x.2.1.1.2.1, x.2.1.1.2.2.1, ()), ()), (x10, ())))))
 (ck ((x.2.2.1.length + [x6].length) * 8 ≤ 140737488355328 ∧ (x.2.2.1.length + [x6].length) ≤ 9223372036854775807)
 (let x12 : List Int := x.2.2.1 ++ [x6];
 let x13 : Int := w64 (x.1.2.2.2.2.2.2.1 + (1 : Int));
 some (.inl (((), x.1.2.1, x.1.2.2.1, (), x.1.2.2.2.2.1, x.1.2.2.2.2.2.1, x13, ()), ((x.2.1.1.1, x.2.1.1.2.1, x.2.1.1.2.2.1, ()), ()), (x12, ()))))))
 (ck ((x.2.2.1.length + [x4].length) * 8 ≤ 140737488355328 ∧ (x.2.2.1.length + [x4].length) ≤ 9223372036854775807)
 (let x14 : List Int := x.2.2.1 ++ [x4];
 let x15 : Int := w64 (x.1.2.2.2.2.2.2.1 + (1 : Int));
 some (.inl (((), x.1.2.1, x.1.2.2.1, (), x.1.2.2.2.2.1, x.1.2.2.2.2.2.1, x15, ()), ((x.2.1.1.1, x.2.1.1.2.1, x.2.1.1.2.2.1, ()), ()), (x14, ()))))))))
 (some (.inr (((), ()), (), (x.2.2.1, ()))))
def spec_l3Wide_h0 : Sh := ⟨[(2, .c (.box 0 0)), (5, .c (.int .i64)), (6, .c (.int .i64)), (7, .c (.own 0)), (21, .c (.rd [] .i64)), (22, .c (.int .i64)), (23, .c (.int .i64))], [(0, .cells [.int .i64, .int .i64, .int .i64])], [(0, .i64)]⟩
def spec_l3Wide_r0 : List Sh := [⟨[(7, .c (.own 0))], [], [(0, .i64)]⟩]
noncomputable def spec_l3Wide_L0 : Lp := ⟨0, [], spec_l3Wide_h0, [], [(.exit 0, [])], spec_l3Wide_r0, loopC spec_l3Wide_s0⟩
noncomputable def spec_l3Wide (a0_0 : Int) (a0_1 : Int) (a0_2 : Int) (a1 : List Int) : Option ((Unit × Unit) × Unit × (List Int × Unit)) :=
 (spec_l3Spread a0_0 a0_1 a0_2 a1).bind fun r1 =>
 (spec_IsFull a0_0 a0_1 a0_2 a1).bind fun r2 =>
 br (!r2.1.1)
 ((loopC spec_l3Wide_s0 (((), r1.1.1, (0 : Int), (), a1, (a1.length : Int), (0 : Int), ()), ((a0_0, a0_1, a0_2, ()), ()), ([], ()))).bind fun r16 =>
 some (((), ()), (), (r16.2.2.1, ())))
 ((loopC spec_l3Wide_s0 (((), r1.1.1, r1.1.2.1, (), a1, (a1.length : Int), (0 : Int), ()), ((a0_0, a0_1, a0_2, ()), ()), ([], ()))).bind fun r17 =>
 some (((), ()), (), (r17.2.2.1, ())))
noncomputable def spec_l3Wide_C : Ctr := ⟨140, spec_l3Wide_arg, spec_l3Wide_res, fun x => spec_l3Wide x.1.1.1 x.1.1.2.1 x.1.1.2.2.1 x.1.2.1, none⟩
def spec_l3Wide_H : Hint := ⟨[], [], [], fun _ => []⟩
noncomputable def spec_l3Wide_T : List Ctr := [spec_l3Spread_C, spec_IsFull_C]
noncomputable def spec_l3Wide_Ls : List Lp := [spec_l3Wide_L0]
theorem spec_l3Wide_l0 : ∀ x, spec_l3Wide_s0 x = stepW E0 spec_l3Wide_T spec_l3Wide_Ls spec_l3Wide_H (loopAt (bodyOf Tryz.f140) 0) 0 spec_l3Wide_h0 [] [(.exit 0, [])] spec_l3Wide_r0 x := fun x => by kernel_rfl
theorem spec_l3Wide_e : ∀ x, spec_l3Wide_C.F x = runBodyW E0 spec_l3Wide_T spec_l3Wide_Ls spec_l3Wide_H 140 Tryz.f140.results.toList (bodyOf Tryz.f140) [] (spec_l3Wide_arg.mk' x) spec_l3Wide_res := fun x => by kernel_rfl
theorem spec_l3Wide_ok : spec_l3Wide_C.Ok E0 := fn_ok (T := spec_l3Wide_T) (h := spec_l3Wide_H) (Ls := spec_l3Wide_Ls) E0_mixed (T_cons spec_l3Spread_ok (T_cons spec_IsFull_ok T_nil)) Tryz.func140 (bodyOf_some (by kernel_rfl)) (by kernel_rfl) (loops_of (ks := [0]) (by kernel_rfl) ⟨(loop_one (h := spec_l3Wide_H) (own := []) (head := spec_l3Wide_h0) (back := []) (exs := [(.exit 0, [])]) (res := spec_l3Wide_r0) (step := spec_l3Wide_s0) (by kernel_rfl) spec_l3Wide_l0), trivial⟩) spec_l3Wide_e
def spec_PlacesOf_arg : Sh := ⟨[(0, .agg [.int .i64, .int .i64, .int .i64]), (1, .c (.rd [] .i64))], [], []⟩
def spec_PlacesOf_res : List Sh := [⟨[(0, .c (.own 0))], [], [(0, .i64)]⟩]
noncomputable def spec_PlacesOf_s0 (x : (Unit × Int × Unit × Int × Int × Unit) × Unit × (List Int × List Int × Unit)) : Option (((Unit × Int × Unit × Int × Int × Unit) × Unit × (List Int × List Int × Unit)) ⊕ ((Unit × Unit) × Unit × (List Int × Unit))) :=
 let x4 : Bool := decide (x.1.2.2.2.2.1 < x.1.2.2.2.1);
 br x4
 (ck (0 ≤ x.1.2.2.2.2.1)
 (ck (x.1.2.2.2.2.1.toNat < x.2.2.2.1.length)
 (ck (x.1.2.2.2.2.1.toNat < x.2.2.2.1.length)
 (let x5 : Int := x.2.2.2.1.getD x.1.2.2.2.2.1.toNat 0;
 ck ((x.2.2.1.length + [x.1.2.1].length) * 8 ≤ 140737488355328 ∧ (x.2.2.1.length + [x.1.2.1].length) ≤ 9223372036854775807)
 (let x6 : List Int := x.2.2.1 ++ [x.1.2.1];
 let x7 : Int := w64 (x.1.2.1 + x5);
 let x8 : Int := w64 (x.1.2.2.2.2.1 + (1 : Int));
 some (.inl (((), x7, (), x.1.2.2.2.1, x8, ()), (), (x6, x.2.2.2.1, ()))))))))
 (some (.inr (((), ()), (), (x.2.2.1, ()))))
def spec_PlacesOf_h0 : Sh := ⟨[(5, .c (.own 0)), (6, .c (.int .i64)), (21, .c (.own 1)), (22, .c (.int .i64)), (23, .c (.int .i64))], [], [(0, .i64), (1, .i64)]⟩
def spec_PlacesOf_r0 : List Sh := [⟨[(5, .c (.own 0))], [], [(0, .i64)]⟩]
noncomputable def spec_PlacesOf_L0 : Lp := ⟨0, [], spec_PlacesOf_h0, [], [(.exit 0, [])], spec_PlacesOf_r0, loopC spec_PlacesOf_s0⟩
noncomputable def spec_PlacesOf (a0_0 : Int) (a0_1 : Int) (a0_2 : Int) (a1 : List Int) : Option ((Unit × Unit) × Unit × (List Int × Unit)) :=
 (spec_MeasureOk a0_0 a0_1 a0_2).bind fun r1 =>
 br (!r1.1.1)
 (some (((), ()), (), ([], ())))
 ((spec_l3Fits a0_0 a0_1 a0_2 a1).bind fun r2 =>
 br (!r2.1.1)
 (some (((), ()), (), ([], ())))
 ((spec_l3Wide a0_0 a0_1 a0_2 a1).bind fun r3 =>
 (loopC spec_PlacesOf_s0 (((), (0 : Int), (), (r3.2.2.1.length : Int), (0 : Int), ()), (), ([], r3.2.2.1, ()))).bind fun r9 =>
 some (((), ()), (), (r9.2.2.1, ()))))
noncomputable def spec_PlacesOf_C : Ctr := ⟨110, spec_PlacesOf_arg, spec_PlacesOf_res, fun x => spec_PlacesOf x.1.1.1 x.1.1.2.1 x.1.1.2.2.1 x.1.2.1, none⟩
def spec_PlacesOf_H : Hint := ⟨[], [], [], fun _ => []⟩
noncomputable def spec_PlacesOf_T : List Ctr := [spec_MeasureOk_C, spec_l3Fits_C, spec_l3Wide_C]
noncomputable def spec_PlacesOf_Ls : List Lp := [spec_PlacesOf_L0]
theorem spec_PlacesOf_l0 : ∀ x, spec_PlacesOf_s0 x = stepW E0 spec_PlacesOf_T spec_PlacesOf_Ls spec_PlacesOf_H (loopAt (bodyOf Tryz.f110) 0) 0 spec_PlacesOf_h0 [] [(.exit 0, [])] spec_PlacesOf_r0 x := fun x => by kernel_rfl
theorem spec_PlacesOf_e : ∀ x, spec_PlacesOf_C.F x = runBodyW E0 spec_PlacesOf_T spec_PlacesOf_Ls spec_PlacesOf_H 110 Tryz.f110.results.toList (bodyOf Tryz.f110) [(.tm 4, 6000000, .i64)] (spec_PlacesOf_arg.mk' x) spec_PlacesOf_res := fun x => by kernel_rfl
theorem spec_PlacesOf_ok : spec_PlacesOf_C.Ok E0 := fn_ok (T := spec_PlacesOf_T) (h := spec_PlacesOf_H) (Ls := spec_PlacesOf_Ls) E0_mixed (T_cons spec_MeasureOk_ok (T_cons spec_l3Fits_ok (T_cons spec_l3Wide_ok T_nil))) Tryz.func110 (bodyOf_some (by kernel_rfl)) (by kernel_rfl) (loops_of (ks := [0]) (by kernel_rfl) ⟨(loop_one (h := spec_PlacesOf_H) (own := []) (head := spec_PlacesOf_h0) (back := []) (exs := [(.exit 0, [])]) (res := spec_PlacesOf_r0) (step := spec_PlacesOf_s0) (by kernel_rfl) spec_PlacesOf_l0), trivial⟩) spec_PlacesOf_e
def spec_CastLine_arg : Sh := ⟨[(0, .agg [.str, .rd [] .i64, .rd [] .i64, .rd [] .mats, .int .i64, .int .i64, .int .i64, .int .i64, .rd [] .mat, .rd [] .mat]), (1, .c (.bool))], [], []⟩
def spec_CastLine_res : List Sh := [⟨[(0, .agg [.str, .own 0, .own 1, .own 2, .int .i64, .int .i64, .int .i64, .int .i64, .nil, .own 3]), (1, .c (.str)), (2, .c (.own 4)), (3, .c (.bool))], [], [(0, .i64), (1, .i64), (2, .mats), (3, .mat), (4, .i64)]⟩]
noncomputable def spec_CastLine_s0 (x : (Unit × Unit × Unit × List (Int × Int) × Int × Int × Unit) × ((ByteArray × List Int × List Int × List (List (Int × Int)) × Int × Int × Int × Int × List (Int × Int) × List (Int × Int) × Unit) × (ByteArray × Unit × Unit × Unit × Int × Int × Int × Int × Unit × Unit × Unit) × (ByteArray × Unit × Unit × Unit × Int × Int × Int × Int × Unit × Unit × Unit) × Unit) × (List Int × List Int × List (List (Int × Int)) × List (Int × Int) × Unit)) : Option (((Unit × Unit × Unit × List (Int × Int) × Int × Int × Unit) × ((ByteArray × List Int × List Int × List (List (Int × Int)) × Int × Int × Int × Int × List (Int × Int) × List (Int × Int) × Unit) × (ByteArray × Unit × Unit × Unit × Int × Int × Int × Int × Unit × Unit × Unit) × (ByteArray × Unit × Unit × Unit × Int × Int × Int × Int × Unit × Unit × Unit) × Unit) × (List Int × List Int × List (List (Int × Int)) × List (Int × Int) × Unit)) ⊕ ((Unit × Unit × Unit × Unit) × ((ByteArray × List Int × List Int × List (List (Int × Int)) × Int × Int × Int × Int × List (Int × Int) × List (Int × Int) × Unit) × (ByteArray × Unit × Unit × Unit × Int × Int × Int × Int × Unit × Unit × Unit) × (ByteArray × Unit × Unit × Unit × Int × Int × Int × Int × Unit × Unit × Unit) × Unit) × (List Int × List Int × List (List (Int × Int)) × List (Int × Int) × Unit))) :=
 let x6 : Bool := decide (x.1.2.2.2.2.2.1 < x.1.2.2.2.2.1);
 br x6
 (ck (0 ≤ x.1.2.2.2.2.2.1)
 (ck (x.1.2.2.2.2.2.1.toNat < x.1.2.2.2.1.length)
 (let x7 : Int × Int := x.1.2.2.2.1.getD x.1.2.2.2.2.2.1.toNat (0, 0);
 let x8 : Bool := decide (x7.1 < (0 : Int));
 br x8
 (let x9 : Int := w64 (x.2.1.2.2.1.2.2.2.2.1 + (1 : Int));
 let x10 : Int := w64 (x.1.2.2.2.2.2.1 + (1 : Int));
 some (.inl (((), (), (), x.1.2.2.2.1, x.1.2.2.2.2.1, x10, ()), ((x.2.1.1.1, x.2.1.1.2.1, x.2.1.1.2.2.1, x.2.1.1.2.2.2.1, x.2.1.1.2.2.2.2.1, x.2.1.1.2.2.2.2.2.1, x.2.1.1.2.2.2.2.2.2.1, x.2.1.1.2.2.2.2.2.2.2.1, x.2.1.1.2.2.2.2.2.2.2.2.1, x.2.1.1.2.2.2.2.2.2.2.2.2.1, ()), (x.2.1.2.1.1, (), (), (), x.2.1.2.1.2.2.2.2.1, x.2.1.2.1.2.2.2.2.2.1, x.2.1.2.1.2.2.2.2.2.2.1, x.2.1.2.1.2.2.2.2.2.2.2.1, (), (), ()), (x.2.1.2.2.1.1, (), (), (), x9, x.2.1.2.2.1.2.2.2.2.2.1, x.2.1.2.2.1.2.2.2.2.2.2.1, x.2.1.2.2.1.2.2.2.2.2.2.2.1, (), (), ()), ()), (x.2.2.1, x.2.2.2.1, x.2.2.2.2.1, x.2.2.2.2.2.1, ()))))
 (ck ((x.2.2.2.2.2.1.length + [(x7.1, x7.2)].length) * 16 ≤ 140737488355328 ∧ (x.2.2.2.2.2.1.length + [(x7.1, x7.2)].length) ≤ 9223372036854775807)
 (let x11 : List (Int × Int) := x.2.2.2.2.2.1 ++ [(x7.1, x7.2)];
 let x12 : Int := w64 (x.1.2.2.2.2.2.1 + (1 : Int));
 some (.inl (((), (), (), x.1.2.2.2.1, x.1.2.2.2.2.1, x12, ()), ((x.2.1.1.1, x.2.1.1.2.1, x.2.1.1.2.2.1, x.2.1.1.2.2.2.1, x.2.1.1.2.2.2.2.1, x.2.1.1.2.2.2.2.2.1, x.2.1.1.2.2.2.2.2.2.1, x.2.1.1.2.2.2.2.2.2.2.1, x.2.1.1.2.2.2.2.2.2.2.2.1, x.2.1.1.2.2.2.2.2.2.2.2.2.1, ()), (x.2.1.2.1.1, (), (), (), x.2.1.2.1.2.2.2.2.1, x.2.1.2.1.2.2.2.2.2.1, x.2.1.2.1.2.2.2.2.2.2.1, x.2.1.2.1.2.2.2.2.2.2.2.1, (), (), ()), (x.2.1.2.2.1.1, (), (), (), x.2.1.2.2.1.2.2.2.2.1, x.2.1.2.2.1.2.2.2.2.2.1, x.2.1.2.2.1.2.2.2.2.2.2.1, x.2.1.2.2.1.2.2.2.2.2.2.2.1, (), (), ()), ()), (x.2.2.1, x.2.2.2.1, x.2.2.2.2.1, x11, ()))))))))
 (some (.inr (((), (), (), ()), ((x.2.1.1.1, x.2.1.1.2.1, x.2.1.1.2.2.1, x.2.1.1.2.2.2.1, x.2.1.1.2.2.2.2.1, x.2.1.1.2.2.2.2.2.1, x.2.1.1.2.2.2.2.2.2.1, x.2.1.1.2.2.2.2.2.2.2.1, x.2.1.1.2.2.2.2.2.2.2.2.1, x.2.1.1.2.2.2.2.2.2.2.2.2.1, ()), (x.2.1.2.1.1, (), (), (), x.2.1.2.1.2.2.2.2.1, x.2.1.2.1.2.2.2.2.2.1, x.2.1.2.1.2.2.2.2.2.2.1, x.2.1.2.1.2.2.2.2.2.2.2.1, (), (), ()), (x.2.1.2.2.1.1, (), (), (), x.2.1.2.2.1.2.2.2.2.1, x.2.1.2.2.1.2.2.2.2.2.1, x.2.1.2.2.1.2.2.2.2.2.2.1, x.2.1.2.2.1.2.2.2.2.2.2.2.1, (), (), ()), ()), (x.2.2.1, x.2.2.2.1, x.2.2.2.2.1, x.2.2.2.2.2.1, ()))))
def spec_CastLine_h0 : Sh := ⟨[(2, .c (.box 0 0)), (4, .c (.box 1 0)), (8, .c (.box 2 0)), (40, .c (.rd [] .mat)), (41, .c (.int .i64)), (42, .c (.int .i64))], [(0, .cells [.str, .rd [] .i64, .rd [] .i64, .rd [] .mats, .int .i64, .int .i64, .int .i64, .int .i64, .rd [] .mat, .rd [] .mat]), (1, .cells [.str, .nil, .nil, .nil, .int .i64, .int .i64, .int .i64, .int .i64, .nil, .nil]), (2, .cells [.str, .own 0, .own 1, .own 2, .int .i64, .int .i64, .int .i64, .int .i64, .nil, .own 3])], [(0, .i64), (1, .i64), (2, .mats), (3, .mat)]⟩
def spec_CastLine_r0 : List Sh := [⟨[(2, .c (.box 0 0)), (4, .c (.box 1 0)), (8, .c (.box 2 0))], [(0, .cells [.str, .rd [] .i64, .rd [] .i64, .rd [] .mats, .int .i64, .int .i64, .int .i64, .int .i64, .rd [] .mat, .rd [] .mat]), (1, .cells [.str, .nil, .nil, .nil, .int .i64, .int .i64, .int .i64, .int .i64, .nil, .nil]), (2, .cells [.str, .own 0, .own 1, .own 2, .int .i64, .int .i64, .int .i64, .int .i64, .nil, .own 3])], [(0, .i64), (1, .i64), (2, .mats), (3, .mat)]⟩]
noncomputable def spec_CastLine_L0 : Lp := ⟨0, [], spec_CastLine_h0, [], [(.exit 0, [])], spec_CastLine_r0, loopC spec_CastLine_s0⟩
noncomputable def spec_CastLine (a0_0 : ByteArray) (a0_1 : List Int) (a0_2 : List Int) (a0_3 : List (List (Int × Int))) (a0_4 : Int) (a0_5 : Int) (a0_6 : Int) (a0_7 : Int) (a0_8 : List (Int × Int)) (a0_9 : List (Int × Int)) (a1 : Bool) : Option (((ByteArray × Unit × Unit × Unit × Int × Int × Int × Int × Unit × Unit × Unit) × ByteArray × Unit × Bool × Unit) × Unit × (List Int × List Int × List (List (Int × Int)) × List (Int × Int) × List Int × Unit)) :=
 (spec_MachineOk a0_0 a0_1 a0_2 a0_3 a0_4 a0_5 a0_6 a0_7 a0_8 a0_9).bind fun r1 =>
 br (!r1.1.1)
 (some (((ByteArray.empty, (), (), (), (0 : Int), (0 : Int), (0 : Int), (0 : Int), (), (), ()), ByteArray.empty, (), false, ()), (), ([], [], [], [], [], ())))
 (let x2 : Bool := (a0_8.length : Int) == (0 : Int);
 br x2
 (some (((ByteArray.empty, (), (), (), (0 : Int), (0 : Int), (0 : Int), (0 : Int), (), (), ()), ByteArray.empty, (), false, ()), (), ([], [], [], [], [], ())))
 (br (!a1)
 ((spec_l5Items a0_0 a0_1 a0_2 a0_8).bind fun r3 =>
 (spec_IsFull a0_5 a0_6 a0_7 r3.2.2.1).bind fun r4 =>
 br (!r4.1.1)
 (some (((ByteArray.empty, (), (), (), (0 : Int), (0 : Int), (0 : Int), (0 : Int), (), (), ()), ByteArray.empty, (), false, ()), (), ([], [], [], [], [], ())))
 ((spec_l5Copy a0_0 a0_1 a0_2 a0_3 a0_4 a0_5 a0_6 a0_7 a0_8 a0_9).bind fun r5 =>
 (loopC spec_CastLine_s0 (((), (), (), a0_8, (a0_8.length : Int), (0 : Int), ()), ((a0_0, a0_1, a0_2, a0_3, a0_4, a0_5, a0_6, a0_7, a0_8, a0_9, ()), (ByteArray.empty, (), (), (), (0 : Int), (0 : Int), (0 : Int), (0 : Int), (), (), ()), (r5.1.1.1, (), (), (), r5.1.1.2.2.2.2.1, r5.1.1.2.2.2.2.2.1, r5.1.1.2.2.2.2.2.2.1, r5.1.1.2.2.2.2.2.2.2.1, (), (), ()), ()), (r5.2.2.1, r5.2.2.2.1, r5.2.2.2.2.1, r5.2.2.2.2.2.2.1, ()))).bind fun r13 =>
 (spec_MachineOk r13.2.1.2.2.1.1 r13.2.2.1 r13.2.2.2.1 r13.2.2.2.2.1 r13.2.1.2.2.1.2.2.2.2.1 r13.2.1.2.2.1.2.2.2.2.2.1 r13.2.1.2.2.1.2.2.2.2.2.2.1 r13.2.1.2.2.1.2.2.2.2.2.2.2.1 [] r13.2.2.2.2.2.1).bind fun r14 =>
 br (!r14.1.1)
 (some (((ByteArray.empty, (), (), (), (0 : Int), (0 : Int), (0 : Int), (0 : Int), (), (), ()), ByteArray.empty, (), false, ()), (), ([], [], [], [], [], ())))
 ((spec_l5Text r13.2.1.1.1 r13.2.1.1.2.1 r13.2.1.1.2.2.1 r13.2.1.1.2.2.2.2.2.2.2.2.1).bind fun r15 =>
 (spec_l5Items r13.2.1.1.1 r13.2.1.1.2.1 r13.2.1.1.2.2.1 r13.2.1.1.2.2.2.2.2.2.2.2.1).bind fun r16 =>
 (spec_PlacesOf r13.2.1.1.2.2.2.2.2.1 r13.2.1.1.2.2.2.2.2.2.1 r13.2.1.1.2.2.2.2.2.2.2.1 r16.2.2.1).bind fun r17 =>
 some (((r13.2.1.2.2.1.1, (), (), (), r13.2.1.2.2.1.2.2.2.2.1, r13.2.1.2.2.1.2.2.2.2.2.1, r13.2.1.2.2.1.2.2.2.2.2.2.1, r13.2.1.2.2.1.2.2.2.2.2.2.2.1, (), (), ()), r15.1.1, (), true, ()), (), (r13.2.2.1, r13.2.2.2.1, r13.2.2.2.2.1, r13.2.2.2.2.2.1, r17.2.2.1, ())))))
 ((spec_l5Copy a0_0 a0_1 a0_2 a0_3 a0_4 a0_5 a0_6 a0_7 a0_8 a0_9).bind fun r18 =>
 (loopC spec_CastLine_s0 (((), (), (), a0_8, (a0_8.length : Int), (0 : Int), ()), ((a0_0, a0_1, a0_2, a0_3, a0_4, a0_5, a0_6, a0_7, a0_8, a0_9, ()), (ByteArray.empty, (), (), (), (0 : Int), (0 : Int), (0 : Int), (0 : Int), (), (), ()), (r18.1.1.1, (), (), (), r18.1.1.2.2.2.2.1, r18.1.1.2.2.2.2.2.1, r18.1.1.2.2.2.2.2.2.1, r18.1.1.2.2.2.2.2.2.2.1, (), (), ()), ()), (r18.2.2.1, r18.2.2.2.1, r18.2.2.2.2.1, r18.2.2.2.2.2.2.1, ()))).bind fun r19 =>
 (spec_MachineOk r19.2.1.2.2.1.1 r19.2.2.1 r19.2.2.2.1 r19.2.2.2.2.1 r19.2.1.2.2.1.2.2.2.2.1 r19.2.1.2.2.1.2.2.2.2.2.1 r19.2.1.2.2.1.2.2.2.2.2.2.1 r19.2.1.2.2.1.2.2.2.2.2.2.2.1 [] r19.2.2.2.2.2.1).bind fun r20 =>
 br (!r20.1.1)
 (some (((ByteArray.empty, (), (), (), (0 : Int), (0 : Int), (0 : Int), (0 : Int), (), (), ()), ByteArray.empty, (), false, ()), (), ([], [], [], [], [], ())))
 ((spec_l5Text r19.2.1.1.1 r19.2.1.1.2.1 r19.2.1.1.2.2.1 r19.2.1.1.2.2.2.2.2.2.2.2.1).bind fun r21 =>
 (spec_l5Items r19.2.1.1.1 r19.2.1.1.2.1 r19.2.1.1.2.2.1 r19.2.1.1.2.2.2.2.2.2.2.2.1).bind fun r22 =>
 (spec_PlacesOf r19.2.1.1.2.2.2.2.2.1 r19.2.1.1.2.2.2.2.2.2.1 r19.2.1.1.2.2.2.2.2.2.2.1 r22.2.2.1).bind fun r23 =>
 some (((r19.2.1.2.2.1.1, (), (), (), r19.2.1.2.2.1.2.2.2.2.1, r19.2.1.2.2.1.2.2.2.2.2.1, r19.2.1.2.2.1.2.2.2.2.2.2.1, r19.2.1.2.2.1.2.2.2.2.2.2.2.1, (), (), ()), r21.1.1, (), true, ()), (), (r19.2.2.1, r19.2.2.2.1, r19.2.2.2.2.1, r19.2.2.2.2.2.1, r23.2.2.1, ()))))))
noncomputable def spec_CastLine_C : Ctr := ⟨74, spec_CastLine_arg, spec_CastLine_res, fun x => spec_CastLine x.1.1.1 x.1.1.2.1 x.1.1.2.2.1 x.1.1.2.2.2.1 x.1.1.2.2.2.2.1 x.1.1.2.2.2.2.2.1 x.1.1.2.2.2.2.2.2.1 x.1.1.2.2.2.2.2.2.2.1 x.1.1.2.2.2.2.2.2.2.2.1 x.1.1.2.2.2.2.2.2.2.2.2.1 x.1.2.1, none⟩
def spec_CastLine_H : Hint := ⟨[], [], [], fun _ => []⟩
noncomputable def spec_CastLine_T : List Ctr := [spec_MachineOk_C, spec_l5Items_C, spec_IsFull_C, spec_l5Copy_C, spec_l5Text_C, spec_PlacesOf_C]
noncomputable def spec_CastLine_Ls : List Lp := [spec_CastLine_L0]
theorem spec_CastLine_l0 : ∀ x, spec_CastLine_s0 x = stepW E0 spec_CastLine_T spec_CastLine_Ls spec_CastLine_H (loopAt (bodyOf Tryz.f74) 0) 0 spec_CastLine_h0 [] [(.exit 0, [])] spec_CastLine_r0 x := fun x => by kernel_rfl
theorem spec_CastLine_e : ∀ x, spec_CastLine_C.F x = runBodyW E0 spec_CastLine_T spec_CastLine_Ls spec_CastLine_H 74 Tryz.f74.results.toList (bodyOf Tryz.f74) [(.bx 4 1, 6000000, .i64), (.bx 4 2, 6000001, .i64), (.bx 4 3, 6000002, .mats), (.bx 4 9, 6000003, .mat), (.tm 6, 6000004, .i64)] (spec_CastLine_arg.mk' x) spec_CastLine_res := fun x => by kernel_rfl
theorem spec_CastLine_ok : spec_CastLine_C.Ok E0 := fn_ok (T := spec_CastLine_T) (h := spec_CastLine_H) (Ls := spec_CastLine_Ls) E0_mixed (T_cons spec_MachineOk_ok (T_cons spec_l5Items_ok (T_cons spec_IsFull_ok (T_cons spec_l5Copy_ok (T_cons spec_l5Text_ok (T_cons spec_PlacesOf_ok T_nil)))))) Tryz.func74 (bodyOf_some (by kernel_rfl)) (by kernel_rfl) (loops_of (ks := [0]) (by kernel_rfl) ⟨(loop_one (h := spec_CastLine_H) (own := []) (head := spec_CastLine_h0) (back := []) (exs := [(.exit 0, [])]) (res := spec_CastLine_r0) (step := spec_CastLine_s0) (by kernel_rfl) spec_CastLine_l0), trivial⟩) spec_CastLine_e
def spec_DropMatrix_arg : Sh := ⟨[(0, .agg [.str, .rd [] .i64, .rd [] .i64]), (1, .c (.rd [] .mats)), (2, .agg [.int .i64, .int .i64])], [], []⟩
def spec_DropMatrix_res : List Sh := [⟨[(0, .c (.own 0)), (1, .c (.int .i64)), (2, .c (.bool))], [], [(0, .mats)]⟩]
noncomputable def spec_DropMatrix (a0_0 : ByteArray) (a0_1 : List Int) (a0_2 : List Int) (a1 : List (List (Int × Int))) (a2_0 : Int) (a2_1 : Int) : Option ((Unit × Int × Bool × Unit) × Unit × (List (List (Int × Int)) × Unit)) :=
 (spec_MagazineOk a0_0 a0_1 a0_2 a1).bind fun r1 =>
 br (!r1.1.1)
 (some (((), (0 : Int), false, ()), (), ([], ())))
 ((spec_l2Matrix a0_0 a0_1 a0_2 a2_0 a2_1).bind fun r2 =>
 br (!r2.1.1)
 (some (((), (0 : Int), false, ()), (), ([], ())))
 ((spec_l1Fall a0_2 a2_1).bind fun r3 =>
 ck (0 ≤ r3.1.1)
 (ck (r3.1.1.toNat < a1.length)
 (let x4 : List (Int × Int) := a1.getD r3.1.1.toNat [];
 let x5 : Bool := (x4.length : Int) == (20 : Int);
 br x5
 (some (((), (0 : Int), false, ()), (), ([], ())))
 ((spec_l2Copy a1).bind fun r6 =>
 ck (0 ≤ r3.1.1)
 (ck (r3.1.1.toNat < r6.2.2.1.length)
 (ck (r3.1.1.toNat < r6.2.2.1.length)
 (ck (r3.1.1.toNat < r6.2.2.1.length)
 (ck (r3.1.1.toNat < r6.2.2.1.length)
 (let x7 : List (Int × Int) := r6.2.2.1.getD r3.1.1.toNat [];
 ck ((x7.length + [(a2_0, a2_1)].length) * 16 ≤ 140737488355328 ∧ (x7.length + [(a2_0, a2_1)].length) ≤ 9223372036854775807)
 (let x8 : List (Int × Int) := x7 ++ [(a2_0, a2_1)];
 ck (0 ≤ r3.1.1)
 (ck (r3.1.1.toNat < r6.2.2.1.length)
 (ck (r3.1.1.toNat = r3.1.1.toNat ∧ r3.1.1.toNat < r6.2.2.1.length)
 (let x9 : List (List (Int × Int)) := r6.2.2.1.set r3.1.1.toNat x8;
 some (((), r3.1.1, true, ()), (), (x9, ()))))))))))))))))
noncomputable def spec_DropMatrix_C : Ctr := ⟨111, spec_DropMatrix_arg, spec_DropMatrix_res, fun x => spec_DropMatrix x.1.1.1 x.1.1.2.1 x.1.1.2.2.1 x.1.2.1 x.1.2.2.1.1 x.1.2.2.1.2.1, none⟩
def spec_DropMatrix_H : Hint := ⟨[], [], [], fun _ => []⟩
noncomputable def spec_DropMatrix_T : List Ctr := [spec_MagazineOk_C, spec_l2Matrix_C, spec_l1Fall_C, spec_l2Copy_C]
noncomputable def spec_DropMatrix_Ls : List Lp := []
theorem spec_DropMatrix_e : ∀ x, spec_DropMatrix_C.F x = runBodyW E0 spec_DropMatrix_T spec_DropMatrix_Ls spec_DropMatrix_H 111 Tryz.f111.results.toList (bodyOf Tryz.f111) [(.tm 6, 6000000, .mats)] (spec_DropMatrix_arg.mk' x) spec_DropMatrix_res := fun x => by kernel_rfl
theorem spec_DropMatrix_ok : spec_DropMatrix_C.Ok E0 := fn_ok (T := spec_DropMatrix_T) (h := spec_DropMatrix_H) (Ls := spec_DropMatrix_Ls) E0_mixed (T_cons spec_MagazineOk_ok (T_cons spec_l2Matrix_ok (T_cons spec_l1Fall_ok (T_cons spec_l2Copy_ok T_nil)))) Tryz.func111 (bodyOf_some (by kernel_rfl)) (by kernel_rfl) (loops_of (ks := []) (by kernel_rfl) trivial) spec_DropMatrix_e
def spec_DropWaiting_arg : Sh := ⟨[(0, .agg [.str, .rd [] .i64, .rd [] .i64, .rd [] .mats, .int .i64, .int .i64, .int .i64, .int .i64, .rd [] .mat, .rd [] .mat]), (1, .c (.int .i64))], [], []⟩
def spec_DropWaiting_res : List Sh := [⟨[(0, .agg [.str, .own 0, .own 1, .own 2, .int .i64, .int .i64, .int .i64, .int .i64, .own 3, .own 4]), (1, .c (.int .i64))], [], [(0, .i64), (1, .i64), (2, .mats), (3, .mat), (4, .mat)]⟩]
noncomputable def spec_DropWaiting_s0 (x : (Int × Unit × Unit × Unit × List (Int × Int) × Int × Int × Unit) × ((ByteArray × List Int × List Int × List (List (Int × Int)) × Int × Int × Int × Int × List (Int × Int) × List (Int × Int) × Unit) × (ByteArray × Unit × Unit × Unit × Int × Int × Int × Int × Unit × Unit × Unit) × (ByteArray × Unit × Unit × Unit × Int × Int × Int × Int × Unit × Unit × Unit) × Unit) × (List Int × List Int × List (List (Int × Int)) × List (Int × Int) × List (Int × Int) × Unit)) : Option (((Int × Unit × Unit × Unit × List (Int × Int) × Int × Int × Unit) × ((ByteArray × List Int × List Int × List (List (Int × Int)) × Int × Int × Int × Int × List (Int × Int) × List (Int × Int) × Unit) × (ByteArray × Unit × Unit × Unit × Int × Int × Int × Int × Unit × Unit × Unit) × (ByteArray × Unit × Unit × Unit × Int × Int × Int × Int × Unit × Unit × Unit) × Unit) × (List Int × List Int × List (List (Int × Int)) × List (Int × Int) × List (Int × Int) × Unit)) ⊕ (((Unit × Int × Unit) × ((ByteArray × Unit × Unit × Unit × Int × Int × Int × Int × Unit × Unit × Unit) × Unit) × (List Int × List Int × List (List (Int × Int)) × List (Int × Int) × List (Int × Int) × Unit)) ⊕ ((Unit × Unit × Unit × Unit) × ((ByteArray × List Int × List Int × List (List (Int × Int)) × Int × Int × Int × Int × List (Int × Int) × List (Int × Int) × Unit) × (ByteArray × Unit × Unit × Unit × Int × Int × Int × Int × Unit × Unit × Unit) × (ByteArray × Unit × Unit × Unit × Int × Int × Int × Int × Unit × Unit × Unit) × Unit) × (List Int × List Int × List (List (Int × Int)) × List (Int × Int) × List (Int × Int) × Unit)))) :=
 let x4 : Bool := decide (x.1.2.2.2.2.2.2.1 < x.1.2.2.2.2.2.1);
 br x4
 (ck (0 ≤ x.1.2.2.2.2.2.2.1)
 (ck (x.1.2.2.2.2.2.2.1.toNat < x.1.2.2.2.2.1.length)
 (let x5 : Int × Int := x.1.2.2.2.2.1.getD x.1.2.2.2.2.2.2.1.toNat (0, 0);
 let x6 : Bool := x.1.2.2.2.2.2.2.1 == x.1.1;
 br x6
 (some (.inr (.inl (((), x.1.2.2.2.2.2.2.1, ()), ((x.2.1.2.2.1.1, (), (), (), x.2.1.2.2.1.2.2.2.2.1, x.2.1.2.2.1.2.2.2.2.2.1, x.2.1.2.2.1.2.2.2.2.2.2.1, x.2.1.2.2.1.2.2.2.2.2.2.2.1, (), (), ()), ()), (x.2.2.1, x.2.2.2.1, x.2.2.2.2.1, x.2.2.2.2.2.1, x.2.2.2.2.2.2.1, ())))))
 ((spec_DropMatrix x.2.1.2.2.1.1 x.2.2.1 x.2.2.2.1 x.2.2.2.2.1 x5.1 x5.2).bind fun r7 =>
 br (!r7.1.2.2.1)
 (some (.inr (.inl (((), x.1.2.2.2.2.2.2.1, ()), ((x.2.1.2.2.1.1, (), (), (), x.2.1.2.2.1.2.2.2.2.1, x.2.1.2.2.1.2.2.2.2.2.1, x.2.1.2.2.1.2.2.2.2.2.2.1, x.2.1.2.2.1.2.2.2.2.2.2.2.1, (), (), ()), ()), (x.2.2.1, x.2.2.2.1, x.2.2.2.2.1, x.2.2.2.2.2.1, x.2.2.2.2.2.2.1, ())))))
 (ck (1 ≤ x.2.2.2.2.2.2.1.length ∧ x.2.2.2.2.2.2.1.length ≤ x.2.2.2.2.2.2.1.length)
 (let x8 : List (Int × Int) := cut x.2.2.2.2.2.2.1 1 x.2.2.2.2.2.2.1.length;
 let x9 : Int := w64 (x.1.2.2.2.2.2.2.1 + (1 : Int));
 some (.inl ((x.1.1, (), (), (), x.1.2.2.2.2.1, x.1.2.2.2.2.2.1, x9, ()), ((x.2.1.1.1, x.2.1.1.2.1, x.2.1.1.2.2.1, x.2.1.1.2.2.2.1, x.2.1.1.2.2.2.2.1, x.2.1.1.2.2.2.2.2.1, x.2.1.1.2.2.2.2.2.2.1, x.2.1.1.2.2.2.2.2.2.2.1, x.2.1.1.2.2.2.2.2.2.2.2.1, x.2.1.1.2.2.2.2.2.2.2.2.2.1, ()), (x.2.1.2.1.1, (), (), (), x.2.1.2.1.2.2.2.2.1, x.2.1.2.1.2.2.2.2.2.1, x.2.1.2.1.2.2.2.2.2.2.1, x.2.1.2.1.2.2.2.2.2.2.2.1, (), (), ()), (x.2.1.2.2.1.1, (), (), (), x.2.1.2.2.1.2.2.2.2.1, x.2.1.2.2.1.2.2.2.2.2.1, x.2.1.2.2.1.2.2.2.2.2.2.1, x.2.1.2.2.1.2.2.2.2.2.2.2.1, (), (), ()), ()), (x.2.2.1, x.2.2.2.1, r7.2.2.1, x.2.2.2.2.2.1, x8, ())))))))))
 (some (.inr (.inr (((), (), (), ()), ((x.2.1.1.1, x.2.1.1.2.1, x.2.1.1.2.2.1, x.2.1.1.2.2.2.1, x.2.1.1.2.2.2.2.1, x.2.1.1.2.2.2.2.2.1, x.2.1.1.2.2.2.2.2.2.1, x.2.1.1.2.2.2.2.2.2.2.1, x.2.1.1.2.2.2.2.2.2.2.2.1, x.2.1.1.2.2.2.2.2.2.2.2.2.1, ()), (x.2.1.2.1.1, (), (), (), x.2.1.2.1.2.2.2.2.1, x.2.1.2.1.2.2.2.2.2.1, x.2.1.2.1.2.2.2.2.2.2.1, x.2.1.2.1.2.2.2.2.2.2.2.1, (), (), ()), (x.2.1.2.2.1.1, (), (), (), x.2.1.2.2.1.2.2.2.2.1, x.2.1.2.2.1.2.2.2.2.2.1, x.2.1.2.2.1.2.2.2.2.2.2.1, x.2.1.2.2.1.2.2.2.2.2.2.2.1, (), (), ()), ()), (x.2.2.1, x.2.2.2.1, x.2.2.2.2.1, x.2.2.2.2.2.1, x.2.2.2.2.2.2.1, ())))))
def spec_DropWaiting_h0 : Sh := ⟨[(1, .c (.int .i64)), (2, .c (.box 0 0)), (4, .c (.box 1 0)), (6, .c (.box 2 0)), (23, .c (.rd [] .mat)), (24, .c (.int .i64)), (25, .c (.int .i64))], [(0, .cells [.str, .rd [] .i64, .rd [] .i64, .rd [] .mats, .int .i64, .int .i64, .int .i64, .int .i64, .rd [] .mat, .rd [] .mat]), (1, .cells [.str, .nil, .nil, .nil, .int .i64, .int .i64, .int .i64, .int .i64, .nil, .nil]), (2, .cells [.str, .own 0, .own 1, .own 2, .int .i64, .int .i64, .int .i64, .int .i64, .own 3, .own 4])], [(0, .i64), (1, .i64), (2, .mats), (3, .mat), (4, .mat)]⟩
def spec_DropWaiting_r0 : List Sh := [⟨[(4, .c (.box 0 0)), (5, .c (.int .i64))], [(0, .cells [.str, .own 0, .own 1, .own 2, .int .i64, .int .i64, .int .i64, .int .i64, .own 3, .own 4])], [(0, .i64), (1, .i64), (2, .mats), (3, .mat), (4, .mat)]⟩, ⟨[(2, .c (.box 0 0)), (4, .c (.box 1 0)), (6, .c (.box 2 0))], [(0, .cells [.str, .rd [] .i64, .rd [] .i64, .rd [] .mats, .int .i64, .int .i64, .int .i64, .int .i64, .rd [] .mat, .rd [] .mat]), (1, .cells [.str, .nil, .nil, .nil, .int .i64, .int .i64, .int .i64, .int .i64, .nil, .nil]), (2, .cells [.str, .own 0, .own 1, .own 2, .int .i64, .int .i64, .int .i64, .int .i64, .own 3, .own 4])], [(0, .i64), (1, .i64), (2, .mats), (3, .mat), (4, .mat)]⟩]
noncomputable def spec_DropWaiting_L0 : Lp := ⟨0, [], spec_DropWaiting_h0, [], [(.ret, []), (.exit 0, [])], spec_DropWaiting_r0, loopC spec_DropWaiting_s0⟩
noncomputable def spec_DropWaiting (a0_0 : ByteArray) (a0_1 : List Int) (a0_2 : List Int) (a0_3 : List (List (Int × Int))) (a0_4 : Int) (a0_5 : Int) (a0_6 : Int) (a0_7 : Int) (a0_8 : List (Int × Int)) (a0_9 : List (Int × Int)) (a1 : Int) : Option (((ByteArray × Unit × Unit × Unit × Int × Int × Int × Int × Unit × Unit × Unit) × Int × Unit) × Unit × (List Int × List Int × List (List (Int × Int)) × List (Int × Int) × List (Int × Int) × Unit)) :=
 (spec_MachineOk a0_0 a0_1 a0_2 a0_3 a0_4 a0_5 a0_6 a0_7 a0_8 a0_9).bind fun r1 =>
 br (!r1.1.1)
 (some (((ByteArray.empty, (), (), (), (0 : Int), (0 : Int), (0 : Int), (0 : Int), (), (), ()), (-1 : Int), ()), (), ([], [], [], [], [], ())))
 (let x2 : Bool := decide (a1 < (0 : Int));
 br x2
 (some (((ByteArray.empty, (), (), (), (0 : Int), (0 : Int), (0 : Int), (0 : Int), (), (), ()), (-1 : Int), ()), (), ([], [], [], [], [], ())))
 ((spec_l5Copy a0_0 a0_1 a0_2 a0_3 a0_4 a0_5 a0_6 a0_7 a0_8 a0_9).bind fun r3 =>
 (loopC spec_DropWaiting_s0 ((a1, (), (), (), a0_9, (a0_9.length : Int), (0 : Int), ()), ((a0_0, a0_1, a0_2, a0_3, a0_4, a0_5, a0_6, a0_7, a0_8, a0_9, ()), (ByteArray.empty, (), (), (), (0 : Int), (0 : Int), (0 : Int), (0 : Int), (), (), ()), (r3.1.1.1, (), (), (), r3.1.1.2.2.2.2.1, r3.1.1.2.2.2.2.2.1, r3.1.1.2.2.2.2.2.2.1, r3.1.1.2.2.2.2.2.2.2.1, (), (), ()), ()), (r3.2.2.1, r3.2.2.2.1, r3.2.2.2.2.1, r3.2.2.2.2.2.1, r3.2.2.2.2.2.2.1, ()))).bind fun r10 =>
 sumK r10 (fun y13 =>
 some (((y13.2.1.1.1, (), (), (), y13.2.1.1.2.2.2.2.1, y13.2.1.1.2.2.2.2.2.1, y13.2.1.1.2.2.2.2.2.2.1, y13.2.1.1.2.2.2.2.2.2.2.1, (), (), ()), y13.1.2.1, ()), (), (y13.2.2.1, y13.2.2.2.1, y13.2.2.2.2.1, y13.2.2.2.2.2.1, y13.2.2.2.2.2.2.1, ()))) (fun y14 =>
 some (((y14.2.1.2.2.1.1, (), (), (), y14.2.1.2.2.1.2.2.2.2.1, y14.2.1.2.2.1.2.2.2.2.2.1, y14.2.1.2.2.1.2.2.2.2.2.2.1, y14.2.1.2.2.1.2.2.2.2.2.2.2.1, (), (), ()), (y14.2.1.1.2.2.2.2.2.2.2.2.2.1.length : Int), ()), (), (y14.2.2.1, y14.2.2.2.1, y14.2.2.2.2.1, y14.2.2.2.2.2.1, y14.2.2.2.2.2.2.1, ())))))
noncomputable def spec_DropWaiting_C : Ctr := ⟨75, spec_DropWaiting_arg, spec_DropWaiting_res, fun x => spec_DropWaiting x.1.1.1 x.1.1.2.1 x.1.1.2.2.1 x.1.1.2.2.2.1 x.1.1.2.2.2.2.1 x.1.1.2.2.2.2.2.1 x.1.1.2.2.2.2.2.2.1 x.1.1.2.2.2.2.2.2.2.1 x.1.1.2.2.2.2.2.2.2.2.1 x.1.1.2.2.2.2.2.2.2.2.2.1 x.1.2.1, none⟩
def spec_DropWaiting_H : Hint := ⟨[53], [], [], fun _ => []⟩
noncomputable def spec_DropWaiting_T : List Ctr := [spec_MachineOk_C, spec_l5Copy_C, spec_DropMatrix_C]
noncomputable def spec_DropWaiting_Ls : List Lp := [spec_DropWaiting_L0]
theorem spec_DropWaiting_l0 : ∀ x, spec_DropWaiting_s0 x = stepW E0 spec_DropWaiting_T spec_DropWaiting_Ls spec_DropWaiting_H (loopAt (bodyOf Tryz.f75) 0) 0 spec_DropWaiting_h0 [] [(.ret, []), (.exit 0, [])] spec_DropWaiting_r0 x := fun x => by kernel_rfl
theorem spec_DropWaiting_e : ∀ x, spec_DropWaiting_C.F x = runBodyW E0 spec_DropWaiting_T spec_DropWaiting_Ls spec_DropWaiting_H 75 Tryz.f75.results.toList (bodyOf Tryz.f75) [(.bx 4 1, 6000000, .i64), (.bx 4 2, 6000001, .i64), (.bx 4 3, 6000002, .mats), (.bx 4 8, 6000003, .mat), (.bx 4 9, 6000004, .mat)] (spec_DropWaiting_arg.mk' x) spec_DropWaiting_res := fun x => by kernel_rfl
theorem spec_DropWaiting_ok : spec_DropWaiting_C.Ok E0 := fn_ok (T := spec_DropWaiting_T) (h := spec_DropWaiting_H) (Ls := spec_DropWaiting_Ls) E0_mixed (T_cons spec_MachineOk_ok (T_cons spec_l5Copy_ok (T_cons spec_DropMatrix_ok T_nil))) Tryz.func75 (bodyOf_some (by kernel_rfl)) (by kernel_rfl) (loops_of (ks := [0]) (by kernel_rfl) ⟨(loop_one (h := spec_DropWaiting_H) (own := []) (head := spec_DropWaiting_h0) (back := []) (exs := [(.ret, []), (.exit 0, [])]) (res := spec_DropWaiting_r0) (step := spec_DropWaiting_s0) (by kernel_rfl) spec_DropWaiting_l0), trivial⟩) spec_DropWaiting_e
def spec_SetLines_arg : Sh := ⟨[(0, .agg [.str, .rd [] .i64, .rd [] .i64, .rd [] .mats, .int .i64, .int .i64, .int .i64, .int .i64, .rd [] .mat, .rd [] .mat]), (1, .c (.rd [] .str))], [], []⟩
def spec_SetLines_res : List Sh := [⟨[(0, .agg [.str, .own 0, .own 1, .own 2, .int .i64, .int .i64, .int .i64, .int .i64, .own 3, .own 4]), (1, .c (.own 5)), (2, .c (.bool))], [], [(0, .i64), (1, .i64), (2, .mats), (3, .mat), (4, .mat), (5, .str)]⟩]
noncomputable def spec_SetLines_s0 (x : (Unit × Unit × Unit × List ByteArray × Int × Int × Unit) × ((ByteArray × Unit × Unit × Unit × Int × Int × Int × Int × Unit × Unit × Unit) × (ByteArray × Unit × Unit × Unit × Int × Int × Int × Int × Unit × Unit × Unit) × Unit) × (List ByteArray × List Int × List Int × List (List (Int × Int)) × List (Int × Int) × List (Int × Int) × Unit)) : Option (((Unit × Unit × Unit × List ByteArray × Int × Int × Unit) × ((ByteArray × Unit × Unit × Unit × Int × Int × Int × Int × Unit × Unit × Unit) × (ByteArray × Unit × Unit × Unit × Int × Int × Int × Int × Unit × Unit × Unit) × Unit) × (List ByteArray × List Int × List Int × List (List (Int × Int)) × List (Int × Int) × List (Int × Int) × Unit)) ⊕ (((Unit × Unit × Bool × Unit) × ((ByteArray × Unit × Unit × Unit × Int × Int × Int × Int × Unit × Unit × Unit) × Unit) × Unit) ⊕ ((Unit × Unit × Unit × Unit) × ((ByteArray × Unit × Unit × Unit × Int × Int × Int × Int × Unit × Unit × Unit) × (ByteArray × Unit × Unit × Unit × Int × Int × Int × Int × Unit × Unit × Unit) × Unit) × (List ByteArray × List Int × List Int × List (List (Int × Int)) × List (Int × Int) × List (Int × Int) × Unit)))) :=
 let x3 : Bool := decide (x.1.2.2.2.2.2.1 < x.1.2.2.2.2.1);
 br x3
 (ck (0 ≤ x.1.2.2.2.2.2.1)
 (ck (x.1.2.2.2.2.2.1.toNat < x.1.2.2.2.1.length)
 (let x4 : ByteArray := x.1.2.2.2.1.getD x.1.2.2.2.2.2.1.toNat ByteArray.empty;
 (spec_KeyText x.2.1.1.1 x.2.2.2.1 x.2.2.2.2.1 x.2.2.2.2.2.1 x.2.1.1.2.2.2.2.1 x.2.1.1.2.2.2.2.2.1 x.2.1.1.2.2.2.2.2.2.1 x.2.1.1.2.2.2.2.2.2.2.1 x.2.2.2.2.2.2.1 x.2.2.2.2.2.2.2.1 x4).bind fun r5 =>
 (spec_CastLine r5.1.1.1 r5.2.2.1 r5.2.2.2.1 r5.2.2.2.2.1 r5.1.1.2.2.2.2.1 r5.1.1.2.2.2.2.2.1 r5.1.1.2.2.2.2.2.2.1 r5.1.1.2.2.2.2.2.2.2.1 r5.2.2.2.2.2.1 r5.2.2.2.2.2.2.1 true).bind fun r6 =>
 let x7 : Bool := decide (r5.1.2.1 < (x4.size : Int));
 br x7
 (some (.inr (.inl (((), (), false, ()), ((ByteArray.empty, (), (), (), (0 : Int), (0 : Int), (0 : Int), (0 : Int), (), (), ()), ()), ()))))
 (br (!r6.1.2.2.2.1)
 (some (.inr (.inl (((), (), false, ()), ((ByteArray.empty, (), (), (), (0 : Int), (0 : Int), (0 : Int), (0 : Int), (), (), ()), ()), ()))))
 ((spec_DropWaiting r6.1.1.1 r6.2.2.1 r6.2.2.2.1 r6.2.2.2.2.1 r6.1.1.2.2.2.2.1 r6.1.1.2.2.2.2.2.1 r6.1.1.2.2.2.2.2.2.1 r6.1.1.2.2.2.2.2.2.2.1 [] r6.2.2.2.2.2.1 (240 : Int)).bind fun r8 =>
 ck ((x.2.2.1.length + [r6.1.2.1].length) * 16 ≤ 140737488355328 ∧ (x.2.2.1.length + [r6.1.2.1].length) ≤ 9223372036854775807)
 (let x9 : List ByteArray := x.2.2.1 ++ [r6.1.2.1];
 let x10 : Int := w64 (x.1.2.2.2.2.2.1 + (1 : Int));
 some (.inl (((), (), (), x.1.2.2.2.1, x.1.2.2.2.2.1, x10, ()), ((r8.1.1.1, (), (), (), r8.1.1.2.2.2.2.1, r8.1.1.2.2.2.2.2.1, r8.1.1.2.2.2.2.2.2.1, r8.1.1.2.2.2.2.2.2.2.1, (), (), ()), (x.2.1.2.1.1, (), (), (), x.2.1.2.1.2.2.2.2.1, x.2.1.2.1.2.2.2.2.2.1, x.2.1.2.1.2.2.2.2.2.2.1, x.2.1.2.1.2.2.2.2.2.2.2.1, (), (), ()), ()), (x9, r8.2.2.1, r8.2.2.2.1, r8.2.2.2.2.1, r8.2.2.2.2.2.1, r8.2.2.2.2.2.2.1, ())))))))))
 (some (.inr (.inr (((), (), (), ()), ((x.2.1.1.1, (), (), (), x.2.1.1.2.2.2.2.1, x.2.1.1.2.2.2.2.2.1, x.2.1.1.2.2.2.2.2.2.1, x.2.1.1.2.2.2.2.2.2.2.1, (), (), ()), (x.2.1.2.1.1, (), (), (), x.2.1.2.1.2.2.2.2.1, x.2.1.2.1.2.2.2.2.2.1, x.2.1.2.1.2.2.2.2.2.2.1, x.2.1.2.1.2.2.2.2.2.2.2.1, (), (), ()), ()), (x.2.2.1, x.2.2.2.1, x.2.2.2.2.1, x.2.2.2.2.2.1, x.2.2.2.2.2.2.1, x.2.2.2.2.2.2.2.1, ())))))
def spec_SetLines_h0 : Sh := ⟨[(2, .c (.box 0 0)), (4, .c (.box 1 0)), (7, .c (.own 0)), (23, .c (.rd [] .str)), (24, .c (.int .i64)), (25, .c (.int .i64))], [(0, .cells [.str, .own 1, .own 2, .own 3, .int .i64, .int .i64, .int .i64, .int .i64, .own 4, .own 5]), (1, .cells [.str, .nil, .nil, .nil, .int .i64, .int .i64, .int .i64, .int .i64, .nil, .nil])], [(0, .str), (1, .i64), (2, .i64), (3, .mats), (4, .mat), (5, .mat)]⟩
def spec_SetLines_r0 : List Sh := [⟨[(4, .c (.box 0 0)), (5, .c (.nil)), (6, .c (.bool))], [(0, .cells [.str, .nil, .nil, .nil, .int .i64, .int .i64, .int .i64, .int .i64, .nil, .nil])], []⟩, ⟨[(2, .c (.box 0 0)), (4, .c (.box 1 0)), (7, .c (.own 0))], [(0, .cells [.str, .own 1, .own 2, .own 3, .int .i64, .int .i64, .int .i64, .int .i64, .own 4, .own 5]), (1, .cells [.str, .nil, .nil, .nil, .int .i64, .int .i64, .int .i64, .int .i64, .nil, .nil])], [(0, .str), (1, .i64), (2, .i64), (3, .mats), (4, .mat), (5, .mat)]⟩]
noncomputable def spec_SetLines_L0 : Lp := ⟨0, [], spec_SetLines_h0, [], [(.ret, []), (.exit 0, [])], spec_SetLines_r0, loopC spec_SetLines_s0⟩
noncomputable def spec_SetLines (a0_0 : ByteArray) (a0_1 : List Int) (a0_2 : List Int) (a0_3 : List (List (Int × Int))) (a0_4 : Int) (a0_5 : Int) (a0_6 : Int) (a0_7 : Int) (a0_8 : List (Int × Int)) (a0_9 : List (Int × Int)) (a1 : List ByteArray) : Option (((ByteArray × Unit × Unit × Unit × Int × Int × Int × Int × Unit × Unit × Unit) × Unit × Bool × Unit) × Unit × (List Int × List Int × List (List (Int × Int)) × List (Int × Int) × List (Int × Int) × List ByteArray × Unit)) :=
 (spec_MachineOk a0_0 a0_1 a0_2 a0_3 a0_4 a0_5 a0_6 a0_7 a0_8 a0_9).bind fun r1 =>
 br (!r1.1.1)
 (some (((ByteArray.empty, (), (), (), (0 : Int), (0 : Int), (0 : Int), (0 : Int), (), (), ()), (), false, ()), (), ([], [], [], [], [], [], ())))
 ((spec_l5Copy a0_0 a0_1 a0_2 a0_3 a0_4 a0_5 a0_6 a0_7 a0_8 a0_9).bind fun r2 =>
 (loopC spec_SetLines_s0 (((), (), (), a1, (a1.length : Int), (0 : Int), ()), ((r2.1.1.1, (), (), (), r2.1.1.2.2.2.2.1, r2.1.1.2.2.2.2.2.1, r2.1.1.2.2.2.2.2.2.1, r2.1.1.2.2.2.2.2.2.2.1, (), (), ()), (ByteArray.empty, (), (), (), (0 : Int), (0 : Int), (0 : Int), (0 : Int), (), (), ()), ()), ([], r2.2.2.1, r2.2.2.2.1, r2.2.2.2.2.1, r2.2.2.2.2.2.1, r2.2.2.2.2.2.2.1, ()))).bind fun r11 =>
 sumK r11 (fun y14 =>
 some (((y14.2.1.1.1, (), (), (), y14.2.1.1.2.2.2.2.1, y14.2.1.1.2.2.2.2.2.1, y14.2.1.1.2.2.2.2.2.2.1, y14.2.1.1.2.2.2.2.2.2.2.1, (), (), ()), (), y14.1.2.2.1, ()), (), ([], [], [], [], [], [], ()))) (fun y15 =>
 some (((y15.2.1.1.1, (), (), (), y15.2.1.1.2.2.2.2.1, y15.2.1.1.2.2.2.2.2.1, y15.2.1.1.2.2.2.2.2.2.1, y15.2.1.1.2.2.2.2.2.2.2.1, (), (), ()), (), true, ()), (), (y15.2.2.2.1, y15.2.2.2.2.1, y15.2.2.2.2.2.1, y15.2.2.2.2.2.2.1, y15.2.2.2.2.2.2.2.1, y15.2.2.1, ()))))
noncomputable def spec_SetLines_C : Ctr := ⟨31, spec_SetLines_arg, spec_SetLines_res, fun x => spec_SetLines x.1.1.1 x.1.1.2.1 x.1.1.2.2.1 x.1.1.2.2.2.1 x.1.1.2.2.2.2.1 x.1.1.2.2.2.2.2.1 x.1.1.2.2.2.2.2.2.1 x.1.1.2.2.2.2.2.2.2.1 x.1.1.2.2.2.2.2.2.2.2.1 x.1.1.2.2.2.2.2.2.2.2.2.1 x.1.2.1, none⟩
def spec_SetLines_H : Hint := ⟨[], [], [], fun _ => []⟩
noncomputable def spec_SetLines_T : List Ctr := [spec_MachineOk_C, spec_l5Copy_C, spec_KeyText_C, spec_CastLine_C, spec_DropWaiting_C]
noncomputable def spec_SetLines_Ls : List Lp := [spec_SetLines_L0]
theorem spec_SetLines_l0 : ∀ x, spec_SetLines_s0 x = stepW E0 spec_SetLines_T spec_SetLines_Ls spec_SetLines_H (loopAt (bodyOf Tryz.f31) 0) 0 spec_SetLines_h0 [] [(.ret, []), (.exit 0, [])] spec_SetLines_r0 x := fun x => by kernel_rfl
theorem spec_SetLines_e : ∀ x, spec_SetLines_C.F x = runBodyW E0 spec_SetLines_T spec_SetLines_Ls spec_SetLines_H 31 Tryz.f31.results.toList (bodyOf Tryz.f31) [(.bx 4 1, 6000000, .i64), (.bx 4 2, 6000001, .i64), (.bx 4 3, 6000002, .mats), (.bx 4 8, 6000003, .mat), (.bx 4 9, 6000004, .mat), (.tm 5, 6000005, .str)] (spec_SetLines_arg.mk' x) spec_SetLines_res := fun x => by kernel_rfl
theorem spec_SetLines_ok : spec_SetLines_C.Ok E0 := fn_ok (T := spec_SetLines_T) (h := spec_SetLines_H) (Ls := spec_SetLines_Ls) E0_mixed (T_cons spec_MachineOk_ok (T_cons spec_l5Copy_ok (T_cons spec_KeyText_ok (T_cons spec_CastLine_ok (T_cons spec_DropWaiting_ok T_nil))))) Tryz.func31 (bodyOf_some (by kernel_rfl)) (by kernel_rfl) (loops_of (ks := [0]) (by kernel_rfl) ⟨(loop_one (h := spec_SetLines_H) (own := []) (head := spec_SetLines_h0) (back := []) (exs := [(.ret, []), (.exit 0, [])]) (res := spec_SetLines_r0) (step := spec_SetLines_s0) (by kernel_rfl) spec_SetLines_l0), trivial⟩) spec_SetLines_e
def spec_CastGalley_arg : Sh := ⟨[(0, .agg [.str, .rd [] .i64, .rd [] .i64, .rd [] .mats, .int .i64, .int .i64, .int .i64, .int .i64, .rd [] .mat, .rd [] .mat]), (1, .c (.rd [] .str))], [], []⟩
def spec_CastGalley_res : List Sh := [⟨[(0, .agg [.str, .own 0, .own 1, .own 2, .int .i64, .int .i64, .int .i64, .int .i64, .own 3, .own 4]), (1, .c (.own 5)), (2, .c (.bool))], [], [(0, .i64), (1, .i64), (2, .mats), (3, .mat), (4, .mat), (5, .i64)]⟩]
noncomputable def spec_CastGalley_s0 (x : (List ByteArray × Unit × Unit × Unit × Unit × Int × Int × Unit) × ((ByteArray × Unit × Unit × Unit × Int × Int × Int × Int × Unit × Unit × Unit) × (ByteArray × Unit × Unit × Unit × Int × Int × Int × Int × Unit × Unit × Unit) × Unit) × (List Int × List ByteArray × List Int × List Int × List (List (Int × Int)) × List (Int × Int) × List (Int × Int) × Unit)) : Option (((List ByteArray × Unit × Unit × Unit × Unit × Int × Int × Unit) × ((ByteArray × Unit × Unit × Unit × Int × Int × Int × Int × Unit × Unit × Unit) × (ByteArray × Unit × Unit × Unit × Int × Int × Int × Int × Unit × Unit × Unit) × Unit) × (List Int × List ByteArray × List Int × List Int × List (List (Int × Int)) × List (Int × Int) × List (Int × Int) × Unit)) ⊕ ((Unit × Unit × Unit × Unit) × ((ByteArray × Unit × Unit × Unit × Int × Int × Int × Int × Unit × Unit × Unit) × (ByteArray × Unit × Unit × Unit × Int × Int × Int × Int × Unit × Unit × Unit) × Unit) × (List Int × List Int × List Int × List (List (Int × Int)) × List (Int × Int) × List (Int × Int) × Unit))) :=
 let x5 : Bool := decide (x.1.2.2.2.2.2.2.1 < x.1.2.2.2.2.2.1);
 br x5
 (ck (0 ≤ x.1.2.2.2.2.2.2.1)
 (ck (x.1.2.2.2.2.2.2.1.toNat < x.2.2.2.1.length)
 (ck (x.1.2.2.2.2.2.2.1.toNat < x.2.2.2.1.length)
 (let x6 : ByteArray := x.2.2.2.1.getD x.1.2.2.2.2.2.2.1.toNat ByteArray.empty;
 ck (0 ≤ x.1.2.2.2.2.2.2.1)
 (ck (x.1.2.2.2.2.2.2.1.toNat < x.1.1.length)
 (let x7 : ByteArray := x.1.1.getD x.1.2.2.2.2.2.2.1.toNat ByteArray.empty;
 let x8 : Bool := !strEq x6 x7;
 br x8
 (ck ((x.2.2.1.length + [x.1.2.2.2.2.2.2.1].length) * 8 ≤ 140737488355328 ∧ (x.2.2.1.length + [x.1.2.2.2.2.2.2.1].length) ≤ 9223372036854775807)
 (let x9 : List Int := x.2.2.1 ++ [x.1.2.2.2.2.2.2.1];
 let x10 : Int := w64 (x.1.2.2.2.2.2.2.1 + (1 : Int));
 some (.inl ((x.1.1, (), (), (), (), x.1.2.2.2.2.2.1, x10, ()), ((x.2.1.1.1, (), (), (), x.2.1.1.2.2.2.2.1, x.2.1.1.2.2.2.2.2.1, x.2.1.1.2.2.2.2.2.2.1, x.2.1.1.2.2.2.2.2.2.2.1, (), (), ()), (x.2.1.2.1.1, (), (), (), x.2.1.2.1.2.2.2.2.1, x.2.1.2.1.2.2.2.2.2.1, x.2.1.2.1.2.2.2.2.2.2.1, x.2.1.2.1.2.2.2.2.2.2.2.1, (), (), ()), ()), (x9, x.2.2.2.1, x.2.2.2.2.1, x.2.2.2.2.2.1, x.2.2.2.2.2.2.1, x.2.2.2.2.2.2.2.1, x.2.2.2.2.2.2.2.2.1, ())))))
 (let x11 : Int := w64 (x.1.2.2.2.2.2.2.1 + (1 : Int));
 some (.inl ((x.1.1, (), (), (), (), x.1.2.2.2.2.2.1, x11, ()), ((x.2.1.1.1, (), (), (), x.2.1.1.2.2.2.2.1, x.2.1.1.2.2.2.2.2.1, x.2.1.1.2.2.2.2.2.2.1, x.2.1.1.2.2.2.2.2.2.2.1, (), (), ()), (x.2.1.2.1.1, (), (), (), x.2.1.2.1.2.2.2.2.1, x.2.1.2.1.2.2.2.2.2.1, x.2.1.2.1.2.2.2.2.2.2.1, x.2.1.2.1.2.2.2.2.2.2.2.1, (), (), ()), ()), (x.2.2.1, x.2.2.2.1, x.2.2.2.2.1, x.2.2.2.2.2.1, x.2.2.2.2.2.2.1, x.2.2.2.2.2.2.2.1, x.2.2.2.2.2.2.2.2.1, ()))))))))))
 (some (.inr (((), (), (), ()), ((x.2.1.1.1, (), (), (), x.2.1.1.2.2.2.2.1, x.2.1.1.2.2.2.2.2.1, x.2.1.1.2.2.2.2.2.2.1, x.2.1.1.2.2.2.2.2.2.2.1, (), (), ()), (x.2.1.2.1.1, (), (), (), x.2.1.2.1.2.2.2.2.1, x.2.1.2.1.2.2.2.2.2.1, x.2.1.2.1.2.2.2.2.2.2.1, x.2.1.2.1.2.2.2.2.2.2.2.1, (), (), ()), ()), (x.2.2.1, x.2.2.2.2.1, x.2.2.2.2.2.1, x.2.2.2.2.2.2.1, x.2.2.2.2.2.2.2.1, x.2.2.2.2.2.2.2.2.1, ()))))
def spec_CastGalley_h0 : Sh := ⟨[(1, .c (.rd [] .str)), (4, .c (.box 0 0)), (7, .c (.box 1 0)), (10, .c (.own 0)), (43, .c (.own 1)), (44, .c (.int .i64)), (45, .c (.int .i64))], [(0, .cells [.str, .nil, .nil, .nil, .int .i64, .int .i64, .int .i64, .int .i64, .nil, .nil]), (1, .cells [.str, .own 2, .own 3, .own 4, .int .i64, .int .i64, .int .i64, .int .i64, .own 5, .own 6])], [(0, .i64), (1, .str), (2, .i64), (3, .i64), (4, .mats), (5, .mat), (6, .mat)]⟩
def spec_CastGalley_r0 : List Sh := [⟨[(4, .c (.box 0 0)), (7, .c (.box 1 0)), (10, .c (.own 0))], [(0, .cells [.str, .nil, .nil, .nil, .int .i64, .int .i64, .int .i64, .int .i64, .nil, .nil]), (1, .cells [.str, .own 1, .own 2, .own 3, .int .i64, .int .i64, .int .i64, .int .i64, .own 4, .own 5])], [(0, .i64), (1, .i64), (2, .i64), (3, .mats), (4, .mat), (5, .mat)]⟩]
noncomputable def spec_CastGalley_L0 : Lp := ⟨0, [], spec_CastGalley_h0, [], [(.exit 0, [])], spec_CastGalley_r0, loopC spec_CastGalley_s0⟩
noncomputable def spec_CastGalley (a0_0 : ByteArray) (a0_1 : List Int) (a0_2 : List Int) (a0_3 : List (List (Int × Int))) (a0_4 : Int) (a0_5 : Int) (a0_6 : Int) (a0_7 : Int) (a0_8 : List (Int × Int)) (a0_9 : List (Int × Int)) (a1 : List ByteArray) : Option (((ByteArray × Unit × Unit × Unit × Int × Int × Int × Int × Unit × Unit × Unit) × Unit × Bool × Unit) × Unit × (List Int × List Int × List (List (Int × Int)) × List (Int × Int) × List (Int × Int) × List Int × Unit)) :=
 (spec_MachineOk a0_0 a0_1 a0_2 a0_3 a0_4 a0_5 a0_6 a0_7 a0_8 a0_9).bind fun r1 =>
 br (!r1.1.1)
 (some (((ByteArray.empty, (), (), (), (0 : Int), (0 : Int), (0 : Int), (0 : Int), (), (), ()), (), false, ()), (), ([], [], [], [], [], [], ())))
 (let x2 : Bool := decide ((a0_8.length : Int) > (0 : Int));
 br x2
 (some (((ByteArray.empty, (), (), (), (0 : Int), (0 : Int), (0 : Int), (0 : Int), (), (), ()), (), false, ()), (), ([], [], [], [], [], [], ())))
 ((spec_GalleyOk a0_0 a0_1 a0_2 a0_5 a0_6 a0_7 a1).bind fun r3 =>
 br (!r3.1.1)
 (some (((ByteArray.empty, (), (), (), (0 : Int), (0 : Int), (0 : Int), (0 : Int), (), (), ()), (), false, ()), (), ([], [], [], [], [], [], ())))
 ((spec_SetLines a0_0 a0_1 a0_2 a0_3 a0_4 a0_5 a0_6 a0_7 a0_8 a0_9 a1).bind fun r4 =>
 br (!r4.1.2.2.1)
 (some (((ByteArray.empty, (), (), (), (0 : Int), (0 : Int), (0 : Int), (0 : Int), (), (), ()), (), false, ()), (), ([], [], [], [], [], [], ())))
 ((loopC spec_CastGalley_s0 ((a1, (), (), (), (), (r4.2.2.2.2.2.2.2.1.length : Int), (0 : Int), ()), ((ByteArray.empty, (), (), (), (0 : Int), (0 : Int), (0 : Int), (0 : Int), (), (), ()), (r4.1.1.1, (), (), (), r4.1.1.2.2.2.2.1, r4.1.1.2.2.2.2.2.1, r4.1.1.2.2.2.2.2.2.1, r4.1.1.2.2.2.2.2.2.2.1, (), (), ()), ()), ([], r4.2.2.2.2.2.2.2.1, r4.2.2.1, r4.2.2.2.1, r4.2.2.2.2.1, r4.2.2.2.2.2.1, r4.2.2.2.2.2.2.1, ()))).bind fun r12 =>
 some (((r12.2.1.2.1.1, (), (), (), r12.2.1.2.1.2.2.2.2.1, r12.2.1.2.1.2.2.2.2.2.1, r12.2.1.2.1.2.2.2.2.2.2.1, r12.2.1.2.1.2.2.2.2.2.2.2.1, (), (), ()), (), true, ()), (), (r12.2.2.2.1, r12.2.2.2.2.1, r12.2.2.2.2.2.1, r12.2.2.2.2.2.2.1, r12.2.2.2.2.2.2.2.1, r12.2.2.1, ()))))))
noncomputable def spec_CastGalley_C : Ctr := ⟨12, spec_CastGalley_arg, spec_CastGalley_res, fun x => spec_CastGalley x.1.1.1 x.1.1.2.1 x.1.1.2.2.1 x.1.1.2.2.2.1 x.1.1.2.2.2.2.1 x.1.1.2.2.2.2.2.1 x.1.1.2.2.2.2.2.2.1 x.1.1.2.2.2.2.2.2.2.1 x.1.1.2.2.2.2.2.2.2.2.1 x.1.1.2.2.2.2.2.2.2.2.2.1 x.1.2.1, none⟩
def spec_CastGalley_H : Hint := ⟨[], [], [], fun _ => []⟩
noncomputable def spec_CastGalley_T : List Ctr := [spec_MachineOk_C, spec_GalleyOk_C, spec_SetLines_C]
noncomputable def spec_CastGalley_Ls : List Lp := [spec_CastGalley_L0]
theorem spec_CastGalley_l0 : ∀ x, spec_CastGalley_s0 x = stepW E0 spec_CastGalley_T spec_CastGalley_Ls spec_CastGalley_H (loopAt (bodyOf Tryz.f12) 0) 0 spec_CastGalley_h0 [] [(.exit 0, [])] spec_CastGalley_r0 x := fun x => by kernel_rfl
theorem spec_CastGalley_e : ∀ x, spec_CastGalley_C.F x = runBodyW E0 spec_CastGalley_T spec_CastGalley_Ls spec_CastGalley_H 12 Tryz.f12.results.toList (bodyOf Tryz.f12) [(.bx 4 1, 6000000, .i64), (.bx 4 2, 6000001, .i64), (.bx 4 3, 6000002, .mats), (.bx 4 8, 6000003, .mat), (.bx 4 9, 6000004, .mat), (.tm 5, 6000005, .i64)] (spec_CastGalley_arg.mk' x) spec_CastGalley_res := fun x => by kernel_rfl
theorem spec_CastGalley_ok : spec_CastGalley_C.Ok E0 := fn_ok (T := spec_CastGalley_T) (h := spec_CastGalley_H) (Ls := spec_CastGalley_Ls) E0_mixed (T_cons spec_MachineOk_ok (T_cons spec_GalleyOk_ok (T_cons spec_SetLines_ok T_nil))) Tryz.func12 (bodyOf_some (by kernel_rfl)) (by kernel_rfl) (loops_of (ks := [0]) (by kernel_rfl) ⟨(loop_one (h := spec_CastGalley_H) (own := []) (head := spec_CastGalley_h0) (back := []) (exs := [(.exit 0, [])]) (res := spec_CastGalley_r0) (step := spec_CastGalley_s0) (by kernel_rfl) spec_CastGalley_l0), trivial⟩) spec_CastGalley_e
def Clone_int_arg : Sh := ⟨[(0, .c (.rd [] .i64))], [], []⟩
def Clone_int_res : List Sh := [⟨[(0, .c (.own 0))], [], [(0, .i64)]⟩]
noncomputable def Clone_int (a0 : List Int) : Option ((Unit × Unit) × Unit × (List Int × Unit)) :=
 br a0.isEmpty
 (both (some (((), ()), (), ([], ())))
 (ck ((([] : List Int).length + a0.length) * 8 ≤ 140737488355328 ∧ (([] : List Int).length + a0.length) ≤ 9223372036854775807)
 (let x1 : List Int := [] ++ a0;
 some (((), ()), (), (x1, ())))))
 (ck ((([] : List Int).length + a0.length) * 8 ≤ 140737488355328 ∧ (([] : List Int).length + a0.length) ≤ 9223372036854775807)
 (let x2 : List Int := [] ++ a0;
 some (((), ()), (), (x2, ()))))
noncomputable def Clone_int_C : Ctr := ⟨112, Clone_int_arg, Clone_int_res, fun x => Clone_int x.1.1, none⟩
def Clone_int_H : Hint := ⟨[], [], [], fun _ => []⟩
noncomputable def Clone_int_T : List Ctr := []
noncomputable def Clone_int_Ls : List Lp := []
theorem Clone_int_e : ∀ x, Clone_int_C.F x = runBodyW E0 Clone_int_T Clone_int_Ls Clone_int_H 112 Tryz.f112.results.toList (bodyOf Tryz.f112) [(.tm 2, 6000000, .i64)] (Clone_int_arg.mk' x) Clone_int_res := fun x => by kernel_rfl
theorem Clone_int_ok : Clone_int_C.Ok E0 := fn_ok (T := Clone_int_T) (h := Clone_int_H) (Ls := Clone_int_Ls) E0_mixed T_nil Tryz.func112 (bodyOf_some (by kernel_rfl)) (by kernel_rfl) (loops_of (ks := []) (by kernel_rfl) trivial) Clone_int_e
def Clone_Matrix_arg : Sh := ⟨[(0, .c (.rd [] .mat))], [], []⟩
def Clone_Matrix_res : List Sh := [⟨[(0, .c (.own 0))], [], [(0, .mat)]⟩]
noncomputable def Clone_Matrix (a0 : List (Int × Int)) : Option ((Unit × Unit) × Unit × (List (Int × Int) × Unit)) :=
 br a0.isEmpty
 (both (some (((), ()), (), ([], ())))
 (ck ((([] : List Int).length + a0.length) * 16 ≤ 140737488355328 ∧ (([] : List Int).length + a0.length) ≤ 9223372036854775807)
 (let x1 : List (Int × Int) := [] ++ a0;
 some (((), ()), (), (x1, ())))))
 (ck ((([] : List Int).length + a0.length) * 16 ≤ 140737488355328 ∧ (([] : List Int).length + a0.length) ≤ 9223372036854775807)
 (let x2 : List (Int × Int) := [] ++ a0;
 some (((), ()), (), (x2, ()))))
noncomputable def Clone_Matrix_C : Ctr := ⟨114, Clone_Matrix_arg, Clone_Matrix_res, fun x => Clone_Matrix x.1.1, none⟩
def Clone_Matrix_H : Hint := ⟨[], [], [], fun _ => []⟩
noncomputable def Clone_Matrix_T : List Ctr := []
noncomputable def Clone_Matrix_Ls : List Lp := []
theorem Clone_Matrix_e : ∀ x, Clone_Matrix_C.F x = runBodyW E0 Clone_Matrix_T Clone_Matrix_Ls Clone_Matrix_H 114 Tryz.f114.results.toList (bodyOf Tryz.f114) [(.tm 2, 6000000, .mat)] (Clone_Matrix_arg.mk' x) Clone_Matrix_res := fun x => by kernel_rfl
theorem Clone_Matrix_ok : Clone_Matrix_C.Ok E0 := fn_ok (T := Clone_Matrix_T) (h := Clone_Matrix_H) (Ls := Clone_Matrix_Ls) E0_mixed T_nil Tryz.func114 (bodyOf_some (by kernel_rfl)) (by kernel_rfl) (loops_of (ks := []) (by kernel_rfl) trivial) Clone_Matrix_e
def impl_copyMagazine_arg : Sh := ⟨[(0, .c (.rd [] .mats))], [], []⟩
def impl_copyMagazine_res : List Sh := [⟨[(0, .c (.own 0))], [], [(0, .mats)]⟩]
noncomputable def impl_copyMagazine_s0 (x : (Unit × List (List (Int × Int)) × Int × Int × Unit) × Unit × (List (List (Int × Int)) × Unit)) : Option (((Unit × List (List (Int × Int)) × Int × Int × Unit) × Unit × (List (List (Int × Int)) × Unit)) ⊕ ((Unit × Unit) × Unit × (List (List (Int × Int)) × Unit))) :=
 let x1 : Bool := decide (x.1.2.2.2.1 < x.1.2.2.1);
 br x1
 (ck (0 ≤ x.1.2.2.2.1)
 (ck (x.1.2.2.2.1.toNat < x.1.2.1.length)
 (let x2 : List (Int × Int) := x.1.2.1.getD x.1.2.2.2.1.toNat [];
 (Clone_Matrix x2).bind fun r3 =>
 ck ((x.2.2.1.length + 1) * 24 ≤ 140737488355328 ∧ (x.2.2.1.length + 1) ≤ 9223372036854775807)
 (let x4 : List (List (Int × Int)) := x.2.2.1 ++ [r3.2.2.1];
 let x5 : Int := w64 (x.1.2.2.2.1 + (1 : Int));
 some (.inl (((), x.1.2.1, x.1.2.2.1, x5, ()), (), (x4, ())))))))
 (some (.inr (((), ()), (), (x.2.2.1, ()))))
def impl_copyMagazine_h0 : Sh := ⟨[(3, .c (.own 0)), (7, .c (.rd [] .mats)), (8, .c (.int .i64)), (9, .c (.int .i64))], [], [(0, .mats)]⟩
def impl_copyMagazine_r0 : List Sh := [⟨[(3, .c (.own 0))], [], [(0, .mats)]⟩]
noncomputable def impl_copyMagazine_L0 : Lp := ⟨0, [], impl_copyMagazine_h0, [], [(.exit 0, [])], impl_copyMagazine_r0, loopC impl_copyMagazine_s0⟩
noncomputable def impl_copyMagazine (a0 : List (List (Int × Int))) : Option ((Unit × Unit) × Unit × (List (List (Int × Int)) × Unit)) :=
 (loopC impl_copyMagazine_s0 (((), a0, (a0.length : Int), (0 : Int), ()), (), ([], ()))).bind fun r6 =>
 some (((), ()), (), (r6.2.2.1, ()))
noncomputable def impl_copyMagazine_C : Ctr := ⟨113, impl_copyMagazine_arg, impl_copyMagazine_res, fun x => impl_copyMagazine x.1.1, none⟩
def impl_copyMagazine_H : Hint := ⟨[], [], [], fun _ => []⟩
noncomputable def impl_copyMagazine_T : List Ctr := [Clone_Matrix_C]
noncomputable def impl_copyMagazine_Ls : List Lp := [impl_copyMagazine_L0]
theorem impl_copyMagazine_l0 : ∀ x, impl_copyMagazine_s0 x = stepW E0 impl_copyMagazine_T impl_copyMagazine_Ls impl_copyMagazine_H (loopAt (bodyOf Tryz.f113) 0) 0 impl_copyMagazine_h0 [] [(.exit 0, [])] impl_copyMagazine_r0 x := fun x => by kernel_rfl
theorem impl_copyMagazine_e : ∀ x, impl_copyMagazine_C.F x = runBodyW E0 impl_copyMagazine_T impl_copyMagazine_Ls impl_copyMagazine_H 113 Tryz.f113.results.toList (bodyOf Tryz.f113) [] (impl_copyMagazine_arg.mk' x) impl_copyMagazine_res := fun x => by kernel_rfl
theorem impl_copyMagazine_ok : impl_copyMagazine_C.Ok E0 := fn_ok (T := impl_copyMagazine_T) (h := impl_copyMagazine_H) (Ls := impl_copyMagazine_Ls) E0_mixed (T_cons Clone_Matrix_ok T_nil) Tryz.func113 (bodyOf_some (by kernel_rfl)) (by kernel_rfl) (loops_of (ks := [0]) (by kernel_rfl) ⟨(loop_one (h := impl_copyMagazine_H) (own := []) (head := impl_copyMagazine_h0) (back := []) (exs := [(.exit 0, [])]) (res := impl_copyMagazine_r0) (step := impl_copyMagazine_s0) (by kernel_rfl) impl_copyMagazine_l0), trivial⟩) impl_copyMagazine_e
def impl_copyMachine_arg : Sh := ⟨[(0, .agg [.str, .rd [] .i64, .rd [] .i64, .rd [] .mats, .int .i64, .int .i64, .int .i64, .int .i64, .rd [] .mat, .rd [] .mat])], [], []⟩
def impl_copyMachine_res : List Sh := [⟨[(0, .agg [.str, .own 0, .own 1, .own 2, .int .i64, .int .i64, .int .i64, .int .i64, .own 3, .own 4])], [], [(0, .i64), (1, .i64), (2, .mats), (3, .mat), (4, .mat)]⟩]
noncomputable def impl_copyMachine (a0_0 : ByteArray) (a0_1 : List Int) (a0_2 : List Int) (a0_3 : List (List (Int × Int))) (a0_4 : Int) (a0_5 : Int) (a0_6 : Int) (a0_7 : Int) (a0_8 : List (Int × Int)) (a0_9 : List (Int × Int)) : Option (((ByteArray × Unit × Unit × Unit × Int × Int × Int × Int × Unit × Unit × Unit) × Unit) × Unit × (List Int × List Int × List (List (Int × Int)) × List (Int × Int) × List (Int × Int) × Unit)) :=
 (Clone_int a0_1).bind fun r1 =>
 (Clone_int a0_2).bind fun r2 =>
 (impl_copyMagazine a0_3).bind fun r3 =>
 (Clone_Matrix a0_8).bind fun r4 =>
 (Clone_Matrix a0_9).bind fun r5 =>
 some (((a0_0, (), (), (), a0_4, a0_5, a0_6, a0_7, (), (), ()), ()), (), (r1.2.2.1, r2.2.2.1, r3.2.2.1, r4.2.2.1, r5.2.2.1, ()))
noncomputable def impl_copyMachine_C : Ctr := ⟨78, impl_copyMachine_arg, impl_copyMachine_res, fun x => impl_copyMachine x.1.1.1 x.1.1.2.1 x.1.1.2.2.1 x.1.1.2.2.2.1 x.1.1.2.2.2.2.1 x.1.1.2.2.2.2.2.1 x.1.1.2.2.2.2.2.2.1 x.1.1.2.2.2.2.2.2.2.1 x.1.1.2.2.2.2.2.2.2.2.1 x.1.1.2.2.2.2.2.2.2.2.2.1, none⟩
def impl_copyMachine_H : Hint := ⟨[], [], [], fun _ => []⟩
noncomputable def impl_copyMachine_T : List Ctr := [Clone_int_C, impl_copyMagazine_C, Clone_Matrix_C]
noncomputable def impl_copyMachine_Ls : List Lp := []
theorem impl_copyMachine_e : ∀ x, impl_copyMachine_C.F x = runBodyW E0 impl_copyMachine_T impl_copyMachine_Ls impl_copyMachine_H 78 Tryz.f78.results.toList (bodyOf Tryz.f78) [] (impl_copyMachine_arg.mk' x) impl_copyMachine_res := fun x => by kernel_rfl
theorem impl_copyMachine_ok : impl_copyMachine_C.Ok E0 := fn_ok (T := impl_copyMachine_T) (h := impl_copyMachine_H) (Ls := impl_copyMachine_Ls) E0_mixed (T_cons Clone_int_ok (T_cons impl_copyMagazine_ok (T_cons Clone_Matrix_ok T_nil))) Tryz.func78 (bodyOf_some (by kernel_rfl)) (by kernel_rfl) (loops_of (ks := []) (by kernel_rfl) trivial) impl_copyMachine_e
def impl_KeyText_arg : Sh := ⟨[(0, .agg [.str, .rd [] .i64, .rd [] .i64, .rd [] .mats, .int .i64, .int .i64, .int .i64, .int .i64, .rd [] .mat, .rd [] .mat]), (1, .c (.str))], [], []⟩
def impl_KeyText_res : List Sh := [⟨[(0, .agg [.str, .own 0, .own 1, .own 2, .int .i64, .int .i64, .int .i64, .int .i64, .own 3, .own 4]), (1, .c (.int .i64))], [], [(0, .i64), (1, .i64), (2, .mats), (3, .mat), (4, .mat)]⟩]
noncomputable def impl_KeyText_s0 (x : (ByteArray × Unit × Unit × Int × Int × Unit) × ((ByteArray × Unit × Unit × Unit × Int × Int × Int × Int × Unit × Unit × Unit) × (ByteArray × Unit × Unit × Unit × Int × Int × Int × Int × Unit × Unit × Unit) × Unit) × (List Int × List Int × List (List (Int × Int)) × List (Int × Int) × List (Int × Int) × Unit)) : Option (((ByteArray × Unit × Unit × Int × Int × Unit) × ((ByteArray × Unit × Unit × Unit × Int × Int × Int × Int × Unit × Unit × Unit) × (ByteArray × Unit × Unit × Unit × Int × Int × Int × Int × Unit × Unit × Unit) × Unit) × (List Int × List Int × List (List (Int × Int)) × List (Int × Int) × List (Int × Int) × Unit)) ⊕ (((Unit × Int × Unit) × ((ByteArray × Unit × Unit × Unit × Int × Int × Int × Int × Unit × Unit × Unit) × Unit) × (List Int × List Int × List (List (Int × Int)) × List (Int × Int) × List (Int × Int) × Unit)) ⊕ ((ByteArray × Unit × Unit × Unit) × ((ByteArray × Unit × Unit × Unit × Int × Int × Int × Int × Unit × Unit × Unit) × (ByteArray × Unit × Unit × Unit × Int × Int × Int × Int × Unit × Unit × Unit) × Unit) × (List Int × List Int × List (List (Int × Int)) × List (Int × Int) × List (Int × Int) × Unit)))) :=
 let x3 : Bool := decide (x.1.2.2.2.2.1 < x.1.2.2.2.1);
 br x3
 (ck (0 ≤ x.1.2.2.2.2.1 ∧ x.1.2.2.2.2.1.toNat < x.1.1.size)
 (let x4 : Int := byteAt x.1.1 x.1.2.2.2.2.1.toNat;
 let x5 : Bool := x4 == (32 : Int);
 br x5
 (let x6 : Bool := x.2.1.1.2.2.2.2.1 == (0 : Int);
 br x6
 (some (.inr (.inl (((), x.1.2.2.2.2.1, ()), ((x.2.1.1.1, (), (), (), x.2.1.1.2.2.2.2.1, x.2.1.1.2.2.2.2.2.1, x.2.1.1.2.2.2.2.2.2.1, x.2.1.1.2.2.2.2.2.2.2.1, (), (), ()), ()), (x.2.2.1, x.2.2.2.1, x.2.2.2.2.1, x.2.2.2.2.2.1, x.2.2.2.2.2.2.1, ())))))
 (let w13 : Option (((ByteArray × Unit × Unit × Int × Int × Unit) × ((ByteArray × Unit × Unit × Unit × Int × Int × Int × Int × Unit × Unit × Unit) × (ByteArray × Unit × Unit × Unit × Int × Int × Int × Int × Unit × Unit × Unit) × Unit) × (List Int × List Int × List (List (Int × Int)) × List (Int × Int) × List (Int × Int) × Unit)) ⊕ (((Unit × Int × Unit) × ((ByteArray × Unit × Unit × Unit × Int × Int × Int × Int × Unit × Unit × Unit) × Unit) × (List Int × List Int × List (List (Int × Int)) × List (Int × Int) × List (Int × Int) × Unit)) ⊕ ((ByteArray × Unit × Unit × Unit) × ((ByteArray × Unit × Unit × Unit × Int × Int × Int × Int × Unit × Unit × Unit) × (ByteArray × Unit × Unit × Unit × Int × Int × Int × Int × Unit × Unit × Unit) × Unit) × (List Int × List Int × List (List (Int × Int)) × List (Int × Int) × List (Int × Int) × Unit)))) := ((Clone_Matrix x.2.2.2.2.2.1).bind fun r7 =>
 ck ((r7.2.2.1.length + [((-1 : Int), (0 : Int))].length) * 16 ≤ 140737488355328 ∧ (r7.2.2.1.length + [((-1 : Int), (0 : Int))].length) ≤ 9223372036854775807)
 (let x8 : List (Int × Int) := r7.2.2.1 ++ [((-1 : Int), (0 : Int))];
 (impl_items x.2.1.1.1 x.2.2.1 x.2.2.2.1 x8).bind fun r9 =>
 (impl_fits x.2.1.1.2.2.2.2.2.1 x.2.1.1.2.2.2.2.2.2.1 x.2.1.1.2.2.2.2.2.2.2.1 r9.2.2.1).bind fun r10 =>
 br (!r10.1.1)
 (some (.inr (.inl (((), x.1.2.2.2.2.1, ()), ((x.2.1.1.1, (), (), (), x.2.1.1.2.2.2.2.1, x.2.1.1.2.2.2.2.2.1, x.2.1.1.2.2.2.2.2.2.1, x.2.1.1.2.2.2.2.2.2.2.1, (), (), ()), ()), (x.2.2.1, x.2.2.2.1, x.2.2.2.2.1, x.2.2.2.2.2.1, x.2.2.2.2.2.2.1, ())))))
 (let x11 : Int := w64 (x.2.1.1.2.2.2.2.1 - (1 : Int));
 let x12 : Int := w64 (x.1.2.2.2.2.1 + (1 : Int));
 some (.inl ((x.1.1, (), (), x.1.2.2.2.1, x12, ()), ((x.2.1.1.1, (), (), (), x11, x.2.1.1.2.2.2.2.2.1, x.2.1.1.2.2.2.2.2.2.1, x.2.1.1.2.2.2.2.2.2.2.1, (), (), ()), (x.2.1.2.1.1, (), (), (), x.2.1.2.1.2.2.2.2.1, x.2.1.2.1.2.2.2.2.2.1, x.2.1.2.1.2.2.2.2.2.2.1, x.2.1.2.1.2.2.2.2.2.2.2.1, (), (), ()), ()), (x.2.2.1, x.2.2.2.1, x.2.2.2.2.1, x8, x.2.2.2.2.2.2.1, ()))))));
 both w13 (w13)))
 (ck (0 ≤ x.1.2.2.2.2.1 ∧ x.1.2.2.2.2.1.toNat < x.1.1.size)
 (let x14 : Int := w64 x4;
 (impl_key x.2.1.1.1 x.2.2.1 x.2.2.2.1 x14).bind fun r15 =>
 let x16 : Bool := decide (r15.1.1 < (0 : Int));
 br x16
 (some (.inr (.inl (((), x.1.2.2.2.2.1, ()), ((x.2.1.1.1, (), (), (), x.2.1.1.2.2.2.2.1, x.2.1.1.2.2.2.2.2.1, x.2.1.1.2.2.2.2.2.2.1, x.2.1.1.2.2.2.2.2.2.2.1, (), (), ()), ()), (x.2.2.1, x.2.2.2.1, x.2.2.2.2.1, x.2.2.2.2.2.1, x.2.2.2.2.2.2.1, ())))))
 (ck (0 ≤ r15.1.1)
 (ck (r15.1.1.toNat < x.2.2.2.2.1.length)
 (ck (r15.1.1.toNat < x.2.2.2.2.1.length)
 (ck (r15.1.1.toNat < x.2.2.2.2.1.length)
 (let x17 : Bool := ((x.2.2.2.2.1.getD r15.1.1.toNat []).length : Int) == (0 : Int);
 br x17
 (some (.inr (.inl (((), x.1.2.2.2.2.1, ()), ((x.2.1.1.1, (), (), (), x.2.1.1.2.2.2.2.1, x.2.1.1.2.2.2.2.2.1, x.2.1.1.2.2.2.2.2.2.1, x.2.1.1.2.2.2.2.2.2.2.1, (), (), ()), ()), (x.2.2.1, x.2.2.2.1, x.2.2.2.2.1, x.2.2.2.2.2.1, x.2.2.2.2.2.2.1, ())))))
 (ck (0 ≤ r15.1.1)
 (ck (r15.1.1.toNat < x.2.2.2.2.1.length)
 (ck (r15.1.1.toNat < x.2.2.2.2.1.length)
 (ck (r15.1.1.toNat < x.2.2.2.2.1.length ∧ 0 < (x.2.2.2.2.1.getD r15.1.1.toNat []).length)
 (ck (r15.1.1.toNat < x.2.2.2.2.1.length ∧ 0 < (x.2.2.2.2.1.getD r15.1.1.toNat []).length)
 (let x18 : Int := ((x.2.2.2.2.1.getD r15.1.1.toNat []).getD 0 (0, 0)).1;
 let x19 : Int := ((x.2.2.2.2.1.getD r15.1.1.toNat []).getD 0 (0, 0)).2;
 let w30 : Option (((ByteArray × Unit × Unit × Int × Int × Unit) × ((ByteArray × Unit × Unit × Unit × Int × Int × Int × Int × Unit × Unit × Unit) × (ByteArray × Unit × Unit × Unit × Int × Int × Int × Int × Unit × Unit × Unit) × Unit) × (List Int × List Int × List (List (Int × Int)) × List (Int × Int) × List (Int × Int) × Unit)) ⊕ (((Unit × Int × Unit) × ((ByteArray × Unit × Unit × Unit × Int × Int × Int × Int × Unit × Unit × Unit) × Unit) × (List Int × List Int × List (List (Int × Int)) × List (Int × Int) × List (Int × Int) × Unit)) ⊕ ((ByteArray × Unit × Unit × Unit) × ((ByteArray × Unit × Unit × Unit × Int × Int × Int × Int × Unit × Unit × Unit) × (ByteArray × Unit × Unit × Unit × Int × Int × Int × Int × Unit × Unit × Unit) × Unit) × (List Int × List Int × List (List (Int × Int)) × List (Int × Int) × List (Int × Int) × Unit)))) := ((Clone_Matrix x.2.2.2.2.2.1).bind fun r20 =>
 ck ((r20.2.2.1.length + [(x18, x19)].length) * 16 ≤ 140737488355328 ∧ (r20.2.2.1.length + [(x18, x19)].length) ≤ 9223372036854775807)
 (let x21 : List (Int × Int) := r20.2.2.1 ++ [(x18, x19)];
 (impl_items x.2.1.1.1 x.2.2.1 x.2.2.2.1 x21).bind fun r22 =>
 (impl_fits x.2.1.1.2.2.2.2.2.1 x.2.1.1.2.2.2.2.2.2.1 x.2.1.1.2.2.2.2.2.2.2.1 r22.2.2.1).bind fun r23 =>
 br (!r23.1.1)
 (some (.inr (.inl (((), x.1.2.2.2.2.1, ()), ((x.2.1.1.1, (), (), (), x.2.1.1.2.2.2.2.1, x.2.1.1.2.2.2.2.2.1, x.2.1.1.2.2.2.2.2.2.1, x.2.1.1.2.2.2.2.2.2.2.1, (), (), ()), ()), (x.2.2.1, x.2.2.2.1, x.2.2.2.2.1, x.2.2.2.2.2.1, x.2.2.2.2.2.2.1, ())))))
 (br x16
 (let x24 : Int := w64 (x.2.1.1.2.2.2.2.1 - (1 : Int));
 let x25 : Int := w64 (x.1.2.2.2.2.1 + (1 : Int));
 some (.inl ((x.1.1, (), (), x.1.2.2.2.1, x25, ()), ((x.2.1.1.1, (), (), (), x24, x.2.1.1.2.2.2.2.2.1, x.2.1.1.2.2.2.2.2.2.1, x.2.1.1.2.2.2.2.2.2.2.1, (), (), ()), (x.2.1.2.1.1, (), (), (), x.2.1.2.1.2.2.2.2.1, x.2.1.2.1.2.2.2.2.2.1, x.2.1.2.1.2.2.2.2.2.2.1, x.2.1.2.1.2.2.2.2.2.2.2.1, (), (), ()), ()), (x.2.2.1, x.2.2.2.1, x.2.2.2.2.1, x21, x.2.2.2.2.2.2.1, ()))))
 (ck (0 ≤ r15.1.1)
 (ck (r15.1.1.toNat < x.2.2.2.2.1.length)
 (ck (r15.1.1.toNat < x.2.2.2.2.1.length)
 (ck (r15.1.1.toNat < x.2.2.2.2.1.length)
 (let x26 : List (Int × Int) := x.2.2.2.2.1.getD r15.1.1.toNat [];
 ck (1 ≤ x26.length ∧ x26.length ≤ x26.length)
 (let x27 : List (Int × Int) := cut x26 1 x26.length;
 ck (0 ≤ r15.1.1)
 (ck (r15.1.1.toNat < x.2.2.2.2.1.length)
 (ck (r15.1.1.toNat = r15.1.1.toNat ∧ r15.1.1.toNat < x.2.2.2.2.1.length)
 (let x28 : List (List (Int × Int)) := x.2.2.2.2.1.set r15.1.1.toNat x27;
 let x29 : Int := w64 (x.1.2.2.2.2.1 + (1 : Int));
 some (.inl ((x.1.1, (), (), x.1.2.2.2.1, x29, ()), ((x.2.1.1.1, (), (), (), x.2.1.1.2.2.2.2.1, x.2.1.1.2.2.2.2.2.1, x.2.1.1.2.2.2.2.2.2.1, x.2.1.1.2.2.2.2.2.2.2.1, (), (), ()), (x.2.1.2.1.1, (), (), (), x.2.1.2.1.2.2.2.2.1, x.2.1.2.1.2.2.2.2.2.1, x.2.1.2.1.2.2.2.2.2.2.1, x.2.1.2.1.2.2.2.2.2.2.2.1, (), (), ()), ()), (x.2.2.1, x.2.2.2.1, x28, x21, x.2.2.2.2.2.2.1, ())))))))))))))));
 both w30 (w30))))))))))))))))
 (some (.inr (.inr ((x.1.1, (), (), ()), ((x.2.1.1.1, (), (), (), x.2.1.1.2.2.2.2.1, x.2.1.1.2.2.2.2.2.1, x.2.1.1.2.2.2.2.2.2.1, x.2.1.1.2.2.2.2.2.2.2.1, (), (), ()), (x.2.1.2.1.1, (), (), (), x.2.1.2.1.2.2.2.2.1, x.2.1.2.1.2.2.2.2.2.1, x.2.1.2.1.2.2.2.2.2.2.1, x.2.1.2.1.2.2.2.2.2.2.2.1, (), (), ()), ()), (x.2.2.1, x.2.2.2.1, x.2.2.2.2.1, x.2.2.2.2.2.1, x.2.2.2.2.2.2.1, ())))))
def impl_KeyText_h0 : Sh := ⟨[(1, .c (.str)), (2, .c (.box 0 0)), (4, .c (.box 1 0)), (17, .c (.int .i64)), (18, .c (.int .i64))], [(0, .cells [.str, .own 0, .own 1, .own 2, .int .i64, .int .i64, .int .i64, .int .i64, .own 3, .own 4]), (1, .cells [.str, .nil, .nil, .nil, .int .i64, .int .i64, .int .i64, .int .i64, .nil, .nil])], [(0, .i64), (1, .i64), (2, .mats), (3, .mat), (4, .mat)]⟩
def impl_KeyText_r0 : List Sh := [⟨[(4, .c (.box 0 0)), (5, .c (.int .i64))], [(0, .cells [.str, .own 0, .own 1, .own 2, .int .i64, .int .i64, .int .i64, .int .i64, .own 3, .own 4])], [(0, .i64), (1, .i64), (2, .mats), (3, .mat), (4, .mat)]⟩, ⟨[(1, .c (.str)), (2, .c (.box 0 0)), (4, .c (.box 1 0))], [(0, .cells [.str, .own 0, .own 1, .own 2, .int .i64, .int .i64, .int .i64, .int .i64, .own 3, .own 4]), (1, .cells [.str, .nil, .nil, .nil, .int .i64, .int .i64, .int .i64, .int .i64, .nil, .nil])], [(0, .i64), (1, .i64), (2, .mats), (3, .mat), (4, .mat)]⟩]
noncomputable def impl_KeyText_L0 : Lp := ⟨0, [], impl_KeyText_h0, [], [(.ret, []), (.exit 0, [])], impl_KeyText_r0, loopC impl_KeyText_s0⟩
noncomputable def impl_KeyText (a0_0 : ByteArray) (a0_1 : List Int) (a0_2 : List Int) (a0_3 : List (List (Int × Int))) (a0_4 : Int) (a0_5 : Int) (a0_6 : Int) (a0_7 : Int) (a0_8 : List (Int × Int)) (a0_9 : List (Int × Int)) (a1 : ByteArray) : Option (((ByteArray × Unit × Unit × Unit × Int × Int × Int × Int × Unit × Unit × Unit) × Int × Unit) × Unit × (List Int × List Int × List (List (Int × Int)) × List (Int × Int) × List (Int × Int) × Unit)) :=
 (impl_MachineOk a0_0 a0_1 a0_2 a0_3 a0_4 a0_5 a0_6 a0_7 a0_8 a0_9).bind fun r1 =>
 br (!r1.1.1)
 (some (((ByteArray.empty, (), (), (), (0 : Int), (0 : Int), (0 : Int), (0 : Int), (), (), ()), (-1 : Int), ()), (), ([], [], [], [], [], ())))
 ((impl_copyMachine a0_0 a0_1 a0_2 a0_3 a0_4 a0_5 a0_6 a0_7 a0_8 a0_9).bind fun r2 =>
 (loopC impl_KeyText_s0 ((a1, (), (), (a1.size : Int), (0 : Int), ()), ((r2.1.1.1, (), (), (), r2.1.1.2.2.2.2.1, r2.1.1.2.2.2.2.2.1, r2.1.1.2.2.2.2.2.2.1, r2.1.1.2.2.2.2.2.2.2.1, (), (), ()), (ByteArray.empty, (), (), (), (0 : Int), (0 : Int), (0 : Int), (0 : Int), (), (), ()), ()), (r2.2.2.1, r2.2.2.2.1, r2.2.2.2.2.1, r2.2.2.2.2.2.1, r2.2.2.2.2.2.2.1, ()))).bind fun r31 =>
 sumK r31 (fun y34 =>
 some (((y34.2.1.1.1, (), (), (), y34.2.1.1.2.2.2.2.1, y34.2.1.1.2.2.2.2.2.1, y34.2.1.1.2.2.2.2.2.2.1, y34.2.1.1.2.2.2.2.2.2.2.1, (), (), ()), y34.1.2.1, ()), (), (y34.2.2.1, y34.2.2.2.1, y34.2.2.2.2.1, y34.2.2.2.2.2.1, y34.2.2.2.2.2.2.1, ()))) (fun y35 =>
 some (((y35.2.1.1.1, (), (), (), y35.2.1.1.2.2.2.2.1, y35.2.1.1.2.2.2.2.2.1, y35.2.1.1.2.2.2.2.2.2.1, y35.2.1.1.2.2.2.2.2.2.2.1, (), (), ()), (y35.1.1.size : Int), ()), (), (y35.2.2.1, y35.2.2.2.1, y35.2.2.2.2.1, y35.2.2.2.2.2.1, y35.2.2.2.2.2.2.1, ()))))
noncomputable def impl_KeyText_C : Ctr := ⟨79, impl_KeyText_arg, impl_KeyText_res, fun x => impl_KeyText x.1.1.1 x.1.1.2.1 x.1.1.2.2.1 x.1.1.2.2.2.1 x.1.1.2.2.2.2.1 x.1.1.2.2.2.2.2.1 x.1.1.2.2.2.2.2.2.1 x.1.1.2.2.2.2.2.2.2.1 x.1.1.2.2.2.2.2.2.2.2.1 x.1.1.2.2.2.2.2.2.2.2.2.1 x.1.2.1, none⟩
def impl_KeyText_H : Hint := ⟨[88], [], [], fun _ => []⟩
noncomputable def impl_KeyText_T : List Ctr := [impl_MachineOk_C, impl_copyMachine_C, Clone_Matrix_C, impl_items_C, impl_fits_C, impl_key_C]
noncomputable def impl_KeyText_Ls : List Lp := [impl_KeyText_L0]
theorem impl_KeyText_l0 : ∀ x, impl_KeyText_s0 x = stepW E0 impl_KeyText_T impl_KeyText_Ls impl_KeyText_H (loopAt (bodyOf Tryz.f79) 0) 0 impl_KeyText_h0 [] [(.ret, []), (.exit 0, [])] impl_KeyText_r0 x := fun x => by kernel_rfl
theorem impl_KeyText_e : ∀ x, impl_KeyText_C.F x = runBodyW E0 impl_KeyText_T impl_KeyText_Ls impl_KeyText_H 79 Tryz.f79.results.toList (bodyOf Tryz.f79) [(.bx 4 1, 6000000, .i64), (.bx 4 2, 6000001, .i64), (.bx 4 3, 6000002, .mats), (.bx 4 8, 6000003, .mat), (.bx 4 9, 6000004, .mat)] (impl_KeyText_arg.mk' x) impl_KeyText_res := fun x => by kernel_rfl
theorem impl_KeyText_ok : impl_KeyText_C.Ok E0 := fn_ok (T := impl_KeyText_T) (h := impl_KeyText_H) (Ls := impl_KeyText_Ls) E0_mixed (T_cons impl_MachineOk_ok (T_cons impl_copyMachine_ok (T_cons Clone_Matrix_ok (T_cons impl_items_ok (T_cons impl_fits_ok (T_cons impl_key_ok T_nil)))))) Tryz.func79 (bodyOf_some (by kernel_rfl)) (by kernel_rfl) (loops_of (ks := [0]) (by kernel_rfl) ⟨(loop_one (h := impl_KeyText_H) (own := []) (head := impl_KeyText_h0) (back := []) (exs := [(.ret, []), (.exit 0, [])]) (res := impl_KeyText_r0) (step := impl_KeyText_s0) (by kernel_rfl) impl_KeyText_l0), trivial⟩) impl_KeyText_e
def impl_ItemsOf_arg : Sh := ⟨[(0, .agg [.str, .rd [] .i64, .rd [] .i64, .rd [] .mats, .int .i64, .int .i64, .int .i64, .int .i64, .rd [] .mat, .rd [] .mat])], [], []⟩
def impl_ItemsOf_res : List Sh := [⟨[(0, .c (.own 0))], [], [(0, .i64)]⟩]
noncomputable def impl_ItemsOf (a0_0 : ByteArray) (a0_1 : List Int) (a0_2 : List Int) (a0_3 : List (List (Int × Int))) (a0_4 : Int) (a0_5 : Int) (a0_6 : Int) (a0_7 : Int) (a0_8 : List (Int × Int)) (a0_9 : List (Int × Int)) : Option ((Unit × Unit) × Unit × (List Int × Unit)) :=
 (impl_MachineOk a0_0 a0_1 a0_2 a0_3 a0_4 a0_5 a0_6 a0_7 a0_8 a0_9).bind fun r1 =>
 br (!r1.1.1)
 (some (((), ()), (), ([], ())))
 ((impl_items a0_0 a0_1 a0_2 a0_8).bind fun r2 =>
 some (((), ()), (), (r2.2.2.1, ())))
noncomputable def impl_ItemsOf_C : Ctr := ⟨117, impl_ItemsOf_arg, impl_ItemsOf_res, fun x => impl_ItemsOf x.1.1.1 x.1.1.2.1 x.1.1.2.2.1 x.1.1.2.2.2.1 x.1.1.2.2.2.2.1 x.1.1.2.2.2.2.2.1 x.1.1.2.2.2.2.2.2.1 x.1.1.2.2.2.2.2.2.2.1 x.1.1.2.2.2.2.2.2.2.2.1 x.1.1.2.2.2.2.2.2.2.2.2.1, none⟩
def impl_ItemsOf_H : Hint := ⟨[], [], [], fun _ => []⟩
noncomputable def impl_ItemsOf_T : List Ctr := [impl_MachineOk_C, impl_items_C]
noncomputable def impl_ItemsOf_Ls : List Lp := []
theorem impl_ItemsOf_e : ∀ x, impl_ItemsOf_C.F x = runBodyW E0 impl_ItemsOf_T impl_ItemsOf_Ls impl_ItemsOf_H 117 Tryz.f117.results.toList (bodyOf Tryz.f117) [(.tm 2, 6000000, .i64)] (impl_ItemsOf_arg.mk' x) impl_ItemsOf_res := fun x => by kernel_rfl
theorem impl_ItemsOf_ok : impl_ItemsOf_C.Ok E0 := fn_ok (T := impl_ItemsOf_T) (h := impl_ItemsOf_H) (Ls := impl_ItemsOf_Ls) E0_mixed (T_cons impl_MachineOk_ok (T_cons impl_items_ok T_nil)) Tryz.func117 (bodyOf_some (by kernel_rfl)) (by kernel_rfl) (loops_of (ks := []) (by kernel_rfl) trivial) impl_ItemsOf_e
def impl_IsFull_arg : Sh := ⟨[(0, .agg [.int .i64, .int .i64, .int .i64]), (1, .c (.rd [] .i64))], [], []⟩
def impl_IsFull_res : List Sh := [⟨[(0, .c (.bool))], [], []⟩]
noncomputable def impl_IsFull (a0_0 : Int) (a0_1 : Int) (a0_2 : Int) (a1 : List Int) : Option ((Bool × Unit) × Unit × Unit) :=
 (impl_lettersAndBands a1).bind fun r1 =>
 (impl_MeasureOk a0_0 a0_1 a0_2).bind fun r2 =>
 br r2.1.1
 ((impl_LineOk a1).bind fun r3 =>
 br r3.1.1
 ((impl_full a0_0 a0_1 a0_2 r1.1.1 r1.1.2.1).bind fun r4 =>
 some ((r4.1.1, ()), (), ()))
 (some ((false, ()), (), ())))
 (some ((false, ()), (), ()))
noncomputable def impl_IsFull_C : Ctr := ⟨116, impl_IsFull_arg, impl_IsFull_res, fun x => impl_IsFull x.1.1.1 x.1.1.2.1 x.1.1.2.2.1 x.1.2.1, none⟩
def impl_IsFull_H : Hint := ⟨[], [], [], fun _ => []⟩
noncomputable def impl_IsFull_T : List Ctr := [impl_lettersAndBands_C, impl_MeasureOk_C, impl_LineOk_C, impl_full_C]
noncomputable def impl_IsFull_Ls : List Lp := []
theorem impl_IsFull_e : ∀ x, impl_IsFull_C.F x = runBodyW E0 impl_IsFull_T impl_IsFull_Ls impl_IsFull_H 116 Tryz.f116.results.toList (bodyOf Tryz.f116) [] (impl_IsFull_arg.mk' x) impl_IsFull_res := fun x => by kernel_rfl
theorem impl_IsFull_ok : impl_IsFull_C.Ok E0 := fn_ok (T := impl_IsFull_T) (h := impl_IsFull_H) (Ls := impl_IsFull_Ls) E0_mixed (T_cons impl_lettersAndBands_ok (T_cons impl_MeasureOk_ok (T_cons impl_LineOk_ok (T_cons impl_full_ok T_nil)))) Tryz.func116 (bodyOf_some (by kernel_rfl)) (by kernel_rfl) (loops_of (ks := []) (by kernel_rfl) trivial) impl_IsFull_e
def impl_LineText_arg : Sh := ⟨[(0, .agg [.str, .rd [] .i64, .rd [] .i64, .rd [] .mats, .int .i64, .int .i64, .int .i64, .int .i64, .rd [] .mat, .rd [] .mat])], [], []⟩
def impl_LineText_res : List Sh := [⟨[(0, .c (.str))], [], []⟩]
noncomputable def impl_LineText_s0 (x : (Unit × Unit × List (Int × Int) × Int × Int × Unit) × ((ByteArray × List Int × List Int × List (List (Int × Int)) × Int × Int × Int × Int × List (Int × Int) × List (Int × Int) × Unit) × Unit) × (List Int × Unit)) : Option (((Unit × Unit × List (Int × Int) × Int × Int × Unit) × ((ByteArray × List Int × List Int × List (List (Int × Int)) × Int × Int × Int × Int × List (Int × Int) × List (Int × Int) × Unit) × Unit) × (List Int × Unit)) ⊕ ((Unit × Unit) × Unit × (List Int × Unit))) :=
 let x2 : Bool := decide (x.1.2.2.2.2.1 < x.1.2.2.2.1);
 br x2
 (ck (0 ≤ x.1.2.2.2.2.1)
 (ck (x.1.2.2.2.2.1.toNat < x.1.2.2.1.length)
 (let x3 : Int × Int := x.1.2.2.1.getD x.1.2.2.2.2.1.toNat (0, 0);
 (impl_isBand x3.1 x3.2).bind fun r4 =>
 br r4.1.1
 (ck ((x.2.2.1.length + [(32 : Int)].length) * 1 ≤ 140737488355328 ∧ (x.2.2.1.length + [(32 : Int)].length) ≤ 9223372036854775807)
 (let x5 : List Int := x.2.2.1 ++ [(32 : Int)];
 let x6 : Int := w64 (x.1.2.2.2.2.1 + (1 : Int));
 some (.inl (((), (), x.1.2.2.1, x.1.2.2.2.1, x6, ()), ((x.2.1.1.1, x.2.1.1.2.1, x.2.1.1.2.2.1, x.2.1.1.2.2.2.1, x.2.1.1.2.2.2.2.1, x.2.1.1.2.2.2.2.2.1, x.2.1.1.2.2.2.2.2.2.1, x.2.1.1.2.2.2.2.2.2.2.1, x.2.1.1.2.2.2.2.2.2.2.2.1, x.2.1.1.2.2.2.2.2.2.2.2.2.1, ()), ()), (x5, ())))))
 (ck (0 ≤ x3.1 ∧ x3.1.toNat < x.2.1.1.1.size)
 (let x7 : Int := byteAt x.2.1.1.1 x3.1.toNat;
 ck ((x.2.2.1.length + [x7].length) * 1 ≤ 140737488355328 ∧ (x.2.2.1.length + [x7].length) ≤ 9223372036854775807)
 (let x8 : List Int := x.2.2.1 ++ [x7];
 let x9 : Int := w64 (x.1.2.2.2.2.1 + (1 : Int));
 some (.inl (((), (), x.1.2.2.1, x.1.2.2.2.1, x9, ()), ((x.2.1.1.1, x.2.1.1.2.1, x.2.1.1.2.2.1, x.2.1.1.2.2.2.1, x.2.1.1.2.2.2.2.1, x.2.1.1.2.2.2.2.2.1, x.2.1.1.2.2.2.2.2.2.1, x.2.1.1.2.2.2.2.2.2.2.1, x.2.1.1.2.2.2.2.2.2.2.2.1, x.2.1.1.2.2.2.2.2.2.2.2.2.1, ()), ()), (x8, ())))))))))
 (some (.inr (((), ()), (), (x.2.2.1, ()))))
def impl_LineText_h0 : Sh := ⟨[(1, .c (.box 0 0)), (3, .c (.own 0)), (11, .c (.rd [] .mat)), (12, .c (.int .i64)), (13, .c (.int .i64))], [(0, .cells [.str, .rd [] .i64, .rd [] .i64, .rd [] .mats, .int .i64, .int .i64, .int .i64, .int .i64, .rd [] .mat, .rd [] .mat])], [(0, .u8)]⟩
def impl_LineText_r0 : List Sh := [⟨[(3, .c (.own 0))], [], [(0, .u8)]⟩]
noncomputable def impl_LineText_L0 : Lp := ⟨0, [], impl_LineText_h0, [], [(.exit 0, [])], impl_LineText_r0, loopC impl_LineText_s0⟩
noncomputable def impl_LineText (a0_0 : ByteArray) (a0_1 : List Int) (a0_2 : List Int) (a0_3 : List (List (Int × Int))) (a0_4 : Int) (a0_5 : Int) (a0_6 : Int) (a0_7 : Int) (a0_8 : List (Int × Int)) (a0_9 : List (Int × Int)) : Option ((ByteArray × Unit) × Unit × Unit) :=
 (impl_MachineOk a0_0 a0_1 a0_2 a0_3 a0_4 a0_5 a0_6 a0_7 a0_8 a0_9).bind fun r1 =>
 br (!r1.1.1)
 (some ((ByteArray.empty, ()), (), ()))
 ((loopC impl_LineText_s0 (((), (), a0_8, (a0_8.length : Int), (0 : Int), ()), ((a0_0, a0_1, a0_2, a0_3, a0_4, a0_5, a0_6, a0_7, a0_8, a0_9, ()), ()), ([], ()))).bind fun r10 =>
 let x11 : ByteArray := ofBytes r10.2.2.1;
 some ((x11, ()), (), ()))
noncomputable def impl_LineText_C : Ctr := ⟨118, impl_LineText_arg, impl_LineText_res, fun x => impl_LineText x.1.1.1 x.1.1.2.1 x.1.1.2.2.1 x.1.1.2.2.2.1 x.1.1.2.2.2.2.1 x.1.1.2.2.2.2.2.1 x.1.1.2.2.2.2.2.2.1 x.1.1.2.2.2.2.2.2.2.1 x.1.1.2.2.2.2.2.2.2.2.1 x.1.1.2.2.2.2.2.2.2.2.2.1, none⟩
def impl_LineText_H : Hint := ⟨[], [], [], fun _ => []⟩
noncomputable def impl_LineText_T : List Ctr := [impl_MachineOk_C, impl_isBand_C]
noncomputable def impl_LineText_Ls : List Lp := [impl_LineText_L0]
theorem impl_LineText_l0 : ∀ x, impl_LineText_s0 x = stepW E0 impl_LineText_T impl_LineText_Ls impl_LineText_H (loopAt (bodyOf Tryz.f118) 0) 0 impl_LineText_h0 [] [(.exit 0, [])] impl_LineText_r0 x := fun x => by kernel_rfl
theorem impl_LineText_e : ∀ x, impl_LineText_C.F x = runBodyW E0 impl_LineText_T impl_LineText_Ls impl_LineText_H 118 Tryz.f118.results.toList (bodyOf Tryz.f118) [] (impl_LineText_arg.mk' x) impl_LineText_res := fun x => by kernel_rfl
theorem impl_LineText_ok : impl_LineText_C.Ok E0 := fn_ok (T := impl_LineText_T) (h := impl_LineText_H) (Ls := impl_LineText_Ls) E0_mixed (T_cons impl_MachineOk_ok (T_cons impl_isBand_ok T_nil)) Tryz.func118 (bodyOf_some (by kernel_rfl)) (by kernel_rfl) (loops_of (ks := [0]) (by kernel_rfl) ⟨(loop_one (h := impl_LineText_H) (own := []) (head := impl_LineText_h0) (back := []) (exs := [(.exit 0, [])]) (res := impl_LineText_r0) (step := impl_LineText_s0) (by kernel_rfl) impl_LineText_l0), trivial⟩) impl_LineText_e
def impl_BandWidths_arg : Sh := ⟨[(0, .agg [.int .i64, .int .i64, .int .i64]), (1, .c (.rd [] .i64))], [], []⟩
def impl_BandWidths_res : List Sh := [⟨[(0, .c (.own 0))], [], [(0, .i64)]⟩]
noncomputable def impl_BandWidths_s0 (x : (Unit × Int × Int × Unit × List Int × Int × Int × Unit) × ((Int × Int × Int × Unit) × Unit) × (List Int × Unit)) : Option (((Unit × Int × Int × Unit × List Int × Int × Int × Unit) × ((Int × Int × Int × Unit) × Unit) × (List Int × Unit)) ⊕ ((Unit × Unit) × Unit × (List Int × Unit))) :=
 let x3 : Bool := decide (x.1.2.2.2.2.2.2.1 < x.1.2.2.2.2.2.1);
 br x3
 (ck (0 ≤ x.1.2.2.2.2.2.2.1)
 (ck (x.1.2.2.2.2.2.2.1.toNat < x.1.2.2.2.2.1.length)
 (let x4 : Int := x.1.2.2.2.2.1.getD x.1.2.2.2.2.2.2.1.toNat 0;
 let x5 : Bool := decide (x4 > (0 : Int));
 br x5
 (let x6 : Int := w64 (x.1.2.2.2.2.2.2.1 + (1 : Int));
 some (.inl (((), x.1.2.1, x.1.2.2.1, (), x.1.2.2.2.2.1, x.1.2.2.2.2.2.1, x6, ()), ((x.2.1.1.1, x.2.1.1.2.1, x.2.1.1.2.2.1, ()), ()), (x.2.2.1, ()))))
 (let x7 : Int := w64 (x.2.1.1.2.1 + x.1.2.1);
 let x8 : Bool := decide ((x.2.2.1.length : Int) < x.1.2.2.1);
 br x8
 (let x9 : Int := w64 (x7 + (1 : Int));
 ck ((x.2.2.1.length + [x9].length) * 8 ≤ 140737488355328 ∧ (x.2.2.1.length + [x9].length) ≤ 9223372036854775807)
 (let x10 : List Int := x.2.2.1 ++ [x9];
 let x11 : Int := w64 (x.1.2.2.2.2.2.2.1 + (1 : Int));
 some (.inl (((), x.1.2.1, x.1.2.2.1, (), x.1.2.2.2.2.1, x.1.2.2.2.2.2.1, x11, ()), ((x.2.1.1.1, x.2.1.1.2.1, x.2.1.1.2.2.1, ()), ()), (x10, ())))))
 (ck ((x.2.2.1.length + [x7].length) * 8 ≤ 140737488355328 ∧ (x.2.2.1.length + [x7].length) ≤ 9223372036854775807)
 (let x12 : List Int := x.2.2.1 ++ [x7];
 let x13 : Int := w64 (x.1.2.2.2.2.2.2.1 + (1 : Int));
 some (.inl (((), x.1.2.1, x.1.2.2.1, (), x.1.2.2.2.2.1, x.1.2.2.2.2.2.1, x13, ()), ((x.2.1.1.1, x.2.1.1.2.1, x.2.1.1.2.2.1, ()), ()), (x12, ())))))))))
 (some (.inr (((), ()), (), (x.2.2.1, ()))))
def impl_BandWidths_h0 : Sh := ⟨[(2, .c (.box 0 0)), (5, .c (.int .i64)), (8, .c (.int .i64)), (9, .c (.own 0)), (27, .c (.rd [] .i64)), (28, .c (.int .i64)), (29, .c (.int .i64))], [(0, .cells [.int .i64, .int .i64, .int .i64])], [(0, .i64)]⟩
def impl_BandWidths_r0 : List Sh := [⟨[(9, .c (.own 0))], [], [(0, .i64)]⟩]
noncomputable def impl_BandWidths_L0 : Lp := ⟨0, [], impl_BandWidths_h0, [], [(.exit 0, [])], impl_BandWidths_r0, loopC impl_BandWidths_s0⟩
noncomputable def impl_BandWidths (a0_0 : Int) (a0_1 : Int) (a0_2 : Int) (a1 : List Int) : Option ((Unit × Unit) × Unit × (List Int × Unit)) :=
 (impl_SpreadLine a0_0 a0_1 a0_2 a1).bind fun r1 =>
 br (!r1.1.2.2.1)
 (some (((), ()), (), ([], ())))
 ((impl_IsFull a0_0 a0_1 a0_2 a1).bind fun r2 =>
 br r2.1.1
 ((loopC impl_BandWidths_s0 (((), r1.1.1, r1.1.2.1, (), a1, (a1.length : Int), (0 : Int), ()), ((a0_0, a0_1, a0_2, ()), ()), ([], ()))).bind fun r14 =>
 some (((), ()), (), (r14.2.2.1, ())))
 ((loopC impl_BandWidths_s0 (((), r1.1.1, (0 : Int), (), a1, (a1.length : Int), (0 : Int), ()), ((a0_0, a0_1, a0_2, ()), ()), ([], ()))).bind fun r15 =>
 some (((), ()), (), (r15.2.2.1, ()))))
noncomputable def impl_BandWidths_C : Ctr := ⟨142, impl_BandWidths_arg, impl_BandWidths_res, fun x => impl_BandWidths x.1.1.1 x.1.1.2.1 x.1.1.2.2.1 x.1.2.1, none⟩
def impl_BandWidths_H : Hint := ⟨[], [], [], fun _ => []⟩
noncomputable def impl_BandWidths_T : List Ctr := [impl_SpreadLine_C, impl_IsFull_C]
noncomputable def impl_BandWidths_Ls : List Lp := [impl_BandWidths_L0]
theorem impl_BandWidths_l0 : ∀ x, impl_BandWidths_s0 x = stepW E0 impl_BandWidths_T impl_BandWidths_Ls impl_BandWidths_H (loopAt (bodyOf Tryz.f142) 0) 0 impl_BandWidths_h0 [] [(.exit 0, [])] impl_BandWidths_r0 x := fun x => by kernel_rfl
theorem impl_BandWidths_e : ∀ x, impl_BandWidths_C.F x = runBodyW E0 impl_BandWidths_T impl_BandWidths_Ls impl_BandWidths_H 142 Tryz.f142.results.toList (bodyOf Tryz.f142) [(.tm 4, 6000000, .i64)] (impl_BandWidths_arg.mk' x) impl_BandWidths_res := fun x => by kernel_rfl
theorem impl_BandWidths_ok : impl_BandWidths_C.Ok E0 := fn_ok (T := impl_BandWidths_T) (h := impl_BandWidths_H) (Ls := impl_BandWidths_Ls) E0_mixed (T_cons impl_SpreadLine_ok (T_cons impl_IsFull_ok T_nil)) Tryz.func142 (bodyOf_some (by kernel_rfl)) (by kernel_rfl) (loops_of (ks := [0]) (by kernel_rfl) ⟨(loop_one (h := impl_BandWidths_H) (own := []) (head := impl_BandWidths_h0) (back := []) (exs := [(.exit 0, [])]) (res := impl_BandWidths_r0) (step := impl_BandWidths_s0) (by kernel_rfl) impl_BandWidths_l0), trivial⟩) impl_BandWidths_e
def impl_PlacesOf_arg : Sh := ⟨[(0, .agg [.int .i64, .int .i64, .int .i64]), (1, .c (.rd [] .i64))], [], []⟩
def impl_PlacesOf_res : List Sh := [⟨[(0, .c (.own 0))], [], [(0, .i64)]⟩]
noncomputable def impl_PlacesOf_s0 (x : (List Int × Unit × Int × List Int × Int × Int × Unit) × Unit × (List Int × List Int × Unit)) : Option (((List Int × Unit × Int × List Int × Int × Int × Unit) × Unit × (List Int × List Int × Unit)) ⊕ ((Unit × Unit) × Unit × (List Int × Unit))) :=
 let x3 : Bool := decide (x.1.2.2.2.2.2.1 < x.1.2.2.2.2.1);
 br x3
 (ck (0 ≤ x.1.2.2.2.2.2.1)
 (ck (x.1.2.2.2.2.2.1.toNat < x.1.2.2.2.1.length)
 (let x4 : Int := x.1.2.2.2.1.getD x.1.2.2.2.2.2.1.toNat 0;
 ck ((x.2.2.2.1.length + [x.1.2.2.1].length) * 8 ≤ 140737488355328 ∧ (x.2.2.2.1.length + [x.1.2.2.1].length) ≤ 9223372036854775807)
 (let x5 : List Int := x.2.2.2.1 ++ [x.1.2.2.1];
 let x6 : Bool := x4 == (0 : Int);
 br x6
 (ck (0 < x.1.1.length)
 (let x7 : Int := x.1.1.getD 0 0;
 ck (1 ≤ x.1.1.length ∧ x.1.1.length ≤ x.1.1.length)
 (let x8 : List Int := cut x.1.1 1 x.1.1.length;
 let x9 : Int := w64 (x.1.2.2.1 + x7);
 let x10 : Int := w64 (x.1.2.2.2.2.2.1 + (1 : Int));
 some (.inl ((x8, (), x9, x.1.2.2.2.1, x.1.2.2.2.2.1, x10, ()), (), (x.2.2.1, x5, ()))))))
 (let x11 : Int := w64 (x.1.2.2.1 + x4);
 let x12 : Int := w64 (x.1.2.2.2.2.2.1 + (1 : Int));
 some (.inl ((x.1.1, (), x11, x.1.2.2.2.1, x.1.2.2.2.2.1, x12, ()), (), (x.2.2.1, x5, ()))))))))
 (some (.inr (((), ()), (), (x.2.2.2.1, ()))))
def impl_PlacesOf_h0 : Sh := ⟨[(5, .c (.rd [0] .i64)), (6, .c (.own 1)), (7, .c (.int .i64)), (18, .c (.rd [] .i64)), (19, .c (.int .i64)), (20, .c (.int .i64))], [], [(0, .i64), (1, .i64)]⟩
def impl_PlacesOf_r0 : List Sh := [⟨[(6, .c (.own 0))], [], [(0, .i64)]⟩]
noncomputable def impl_PlacesOf_L0 : Lp := ⟨0, [], impl_PlacesOf_h0, [], [(.exit 0, [])], impl_PlacesOf_r0, loopC impl_PlacesOf_s0⟩
noncomputable def impl_PlacesOf (a0_0 : Int) (a0_1 : Int) (a0_2 : Int) (a1 : List Int) : Option ((Unit × Unit) × Unit × (List Int × Unit)) :=
 (impl_fits a0_0 a0_1 a0_2 a1).bind fun r1 =>
 br (!r1.1.1)
 (some (((), ()), (), ([], ())))
 ((impl_BandWidths a0_0 a0_1 a0_2 a1).bind fun r2 =>
 (loopC impl_PlacesOf_s0 ((r2.2.2.1, (), (0 : Int), a1, (a1.length : Int), (0 : Int), ()), (), (r2.2.2.1, [], ()))).bind fun r13 =>
 some (((), ()), (), (r13.2.2.1, ())))
noncomputable def impl_PlacesOf_C : Ctr := ⟨119, impl_PlacesOf_arg, impl_PlacesOf_res, fun x => impl_PlacesOf x.1.1.1 x.1.1.2.1 x.1.1.2.2.1 x.1.2.1, none⟩
def impl_PlacesOf_H : Hint := ⟨[], [], [], fun _ => []⟩
noncomputable def impl_PlacesOf_T : List Ctr := [impl_fits_C, impl_BandWidths_C]
noncomputable def impl_PlacesOf_Ls : List Lp := [impl_PlacesOf_L0]
theorem impl_PlacesOf_l0 : ∀ x, impl_PlacesOf_s0 x = stepW E0 impl_PlacesOf_T impl_PlacesOf_Ls impl_PlacesOf_H (loopAt (bodyOf Tryz.f119) 0) 0 impl_PlacesOf_h0 [] [(.exit 0, [])] impl_PlacesOf_r0 x := fun x => by kernel_rfl
theorem impl_PlacesOf_e : ∀ x, impl_PlacesOf_C.F x = runBodyW E0 impl_PlacesOf_T impl_PlacesOf_Ls impl_PlacesOf_H 119 Tryz.f119.results.toList (bodyOf Tryz.f119) [(.tm 4, 6000000, .i64)] (impl_PlacesOf_arg.mk' x) impl_PlacesOf_res := fun x => by kernel_rfl
theorem impl_PlacesOf_ok : impl_PlacesOf_C.Ok E0 := fn_ok (T := impl_PlacesOf_T) (h := impl_PlacesOf_H) (Ls := impl_PlacesOf_Ls) E0_mixed (T_cons impl_fits_ok (T_cons impl_BandWidths_ok T_nil)) Tryz.func119 (bodyOf_some (by kernel_rfl)) (by kernel_rfl) (loops_of (ks := [0]) (by kernel_rfl) ⟨(loop_one (h := impl_PlacesOf_H) (own := []) (head := impl_PlacesOf_h0) (back := []) (exs := [(.exit 0, [])]) (res := impl_PlacesOf_r0) (step := impl_PlacesOf_s0) (by kernel_rfl) impl_PlacesOf_l0), trivial⟩) impl_PlacesOf_e
def impl_CastLine_arg : Sh := ⟨[(0, .agg [.str, .rd [] .i64, .rd [] .i64, .rd [] .mats, .int .i64, .int .i64, .int .i64, .int .i64, .rd [] .mat, .rd [] .mat]), (1, .c (.bool))], [], []⟩
def impl_CastLine_res : List Sh := [⟨[(0, .agg [.str, .own 0, .own 1, .own 2, .int .i64, .int .i64, .int .i64, .int .i64, .nil, .own 3]), (1, .c (.str)), (2, .c (.own 4)), (3, .c (.bool))], [], [(0, .i64), (1, .i64), (2, .mats), (3, .mat), (4, .i64)]⟩]
noncomputable def impl_CastLine_s0 (x : (Unit × Unit × ByteArray × Unit × Unit × Int × Int × Unit) × ((ByteArray × Unit × Unit × Unit × Int × Int × Int × Int × Unit × Unit × Unit) × (ByteArray × Unit × Unit × Unit × Int × Int × Int × Int × Unit × Unit × Unit) × Unit) × (List Int × List (Int × Int) × List Int × List Int × List (List (Int × Int)) × List (Int × Int) × Unit)) : Option (((Unit × Unit × ByteArray × Unit × Unit × Int × Int × Unit) × ((ByteArray × Unit × Unit × Unit × Int × Int × Int × Int × Unit × Unit × Unit) × (ByteArray × Unit × Unit × Unit × Int × Int × Int × Int × Unit × Unit × Unit) × Unit) × (List Int × List (Int × Int) × List Int × List Int × List (List (Int × Int)) × List (Int × Int) × Unit)) ⊕ ((Unit × Unit × ByteArray × Unit × Unit) × ((ByteArray × Unit × Unit × Unit × Int × Int × Int × Int × Unit × Unit × Unit) × (ByteArray × Unit × Unit × Unit × Int × Int × Int × Int × Unit × Unit × Unit) × Unit) × (List Int × List Int × List Int × List (List (Int × Int)) × List (Int × Int) × List (Int × Int) × Unit))) :=
 let x9 : Bool := decide (x.1.2.2.2.2.2.2.1 < x.1.2.2.2.2.2.1);
 br x9
 (ck (0 ≤ x.1.2.2.2.2.2.2.1)
 (ck (x.1.2.2.2.2.2.2.1.toNat < x.2.2.2.1.length)
 (ck (x.1.2.2.2.2.2.2.1.toNat < x.2.2.2.1.length)
 (let x10 : Int := (x.2.2.2.1.getD x.1.2.2.2.2.2.2.1.toNat (0, 0)).1;
 let x11 : Int := (x.2.2.2.1.getD x.1.2.2.2.2.2.2.1.toNat (0, 0)).2;
 (impl_isBand x10 x11).bind fun r12 =>
 br r12.1.1
 (let x13 : Int := w64 (x.2.1.1.2.2.2.2.1 + (1 : Int));
 let x14 : Int := w64 (x.1.2.2.2.2.2.2.1 + (1 : Int));
 some (.inl (((), (), x.1.2.2.1, (), (), x.1.2.2.2.2.2.1, x14, ()), ((x.2.1.1.1, (), (), (), x13, x.2.1.1.2.2.2.2.2.1, x.2.1.1.2.2.2.2.2.2.1, x.2.1.1.2.2.2.2.2.2.2.1, (), (), ()), (x.2.1.2.1.1, (), (), (), x.2.1.2.1.2.2.2.2.1, x.2.1.2.1.2.2.2.2.2.1, x.2.1.2.1.2.2.2.2.2.2.1, x.2.1.2.1.2.2.2.2.2.2.2.1, (), (), ()), ()), (x.2.2.1, x.2.2.2.1, x.2.2.2.2.1, x.2.2.2.2.2.1, x.2.2.2.2.2.2.1, x.2.2.2.2.2.2.2.1, ()))))
 (ck ((x.2.2.2.2.2.2.2.1.length + [(x10, x11)].length) * 16 ≤ 140737488355328 ∧ (x.2.2.2.2.2.2.2.1.length + [(x10, x11)].length) ≤ 9223372036854775807)
 (let x15 : List (Int × Int) := x.2.2.2.2.2.2.2.1 ++ [(x10, x11)];
 let x16 : Int := w64 (x.1.2.2.2.2.2.2.1 + (1 : Int));
 some (.inl (((), (), x.1.2.2.1, (), (), x.1.2.2.2.2.2.1, x16, ()), ((x.2.1.1.1, (), (), (), x.2.1.1.2.2.2.2.1, x.2.1.1.2.2.2.2.2.1, x.2.1.1.2.2.2.2.2.2.1, x.2.1.1.2.2.2.2.2.2.2.1, (), (), ()), (x.2.1.2.1.1, (), (), (), x.2.1.2.1.2.2.2.2.1, x.2.1.2.1.2.2.2.2.2.1, x.2.1.2.1.2.2.2.2.2.2.1, x.2.1.2.1.2.2.2.2.2.2.2.1, (), (), ()), ()), (x.2.2.1, x.2.2.2.1, x.2.2.2.2.1, x.2.2.2.2.2.1, x.2.2.2.2.2.2.1, x15, ())))))))))
 (some (.inr (((), (), x.1.2.2.1, (), ()), ((x.2.1.1.1, (), (), (), x.2.1.1.2.2.2.2.1, x.2.1.1.2.2.2.2.2.1, x.2.1.1.2.2.2.2.2.2.1, x.2.1.1.2.2.2.2.2.2.2.1, (), (), ()), (x.2.1.2.1.1, (), (), (), x.2.1.2.1.2.2.2.2.1, x.2.1.2.1.2.2.2.2.2.1, x.2.1.2.1.2.2.2.2.2.2.1, x.2.1.2.1.2.2.2.2.2.2.2.1, (), (), ()), ()), (x.2.2.1, x.2.2.2.2.1, x.2.2.2.2.2.1, x.2.2.2.2.2.2.1, x.2.2.2.1, x.2.2.2.2.2.2.2.1, ()))))
def impl_CastLine_h0 : Sh := ⟨[(2, .c (.box 0 0)), (4, .c (.box 1 0)), (8, .c (.str)), (9, .c (.own 0)), (44, .c (.own 1)), (45, .c (.int .i64)), (46, .c (.int .i64))], [(0, .cells [.str, .own 2, .own 3, .own 4, .int .i64, .int .i64, .int .i64, .int .i64, .own 1, .own 5]), (1, .cells [.str, .nil, .nil, .nil, .int .i64, .int .i64, .int .i64, .int .i64, .nil, .nil])], [(0, .i64), (1, .mat), (2, .i64), (3, .i64), (4, .mats), (5, .mat)]⟩
def impl_CastLine_r0 : List Sh := [⟨[(2, .c (.box 0 0)), (4, .c (.box 1 0)), (8, .c (.str)), (9, .c (.own 0))], [(0, .cells [.str, .own 1, .own 2, .own 3, .int .i64, .int .i64, .int .i64, .int .i64, .own 4, .own 5]), (1, .cells [.str, .nil, .nil, .nil, .int .i64, .int .i64, .int .i64, .int .i64, .nil, .nil])], [(0, .i64), (1, .i64), (2, .i64), (3, .mats), (4, .mat), (5, .mat)]⟩]
noncomputable def impl_CastLine_L0 : Lp := ⟨0, [], impl_CastLine_h0, [], [(.exit 0, [])], impl_CastLine_r0, loopC impl_CastLine_s0⟩
noncomputable def impl_CastLine (a0_0 : ByteArray) (a0_1 : List Int) (a0_2 : List Int) (a0_3 : List (List (Int × Int))) (a0_4 : Int) (a0_5 : Int) (a0_6 : Int) (a0_7 : Int) (a0_8 : List (Int × Int)) (a0_9 : List (Int × Int)) (a1 : Bool) : Option (((ByteArray × Unit × Unit × Unit × Int × Int × Int × Int × Unit × Unit × Unit) × ByteArray × Unit × Bool × Unit) × Unit × (List Int × List Int × List (List (Int × Int)) × List (Int × Int) × List Int × Unit)) :=
 (impl_MachineOk a0_0 a0_1 a0_2 a0_3 a0_4 a0_5 a0_6 a0_7 a0_8 a0_9).bind fun r1 =>
 br (!r1.1.1)
 (some (((ByteArray.empty, (), (), (), (0 : Int), (0 : Int), (0 : Int), (0 : Int), (), (), ()), ByteArray.empty, (), false, ()), (), ([], [], [], [], [], ())))
 (let x2 : Bool := (a0_8.length : Int) == (0 : Int);
 br x2
 (some (((ByteArray.empty, (), (), (), (0 : Int), (0 : Int), (0 : Int), (0 : Int), (), (), ()), ByteArray.empty, (), false, ()), (), ([], [], [], [], [], ())))
 (br (!a1)
 ((impl_ItemsOf a0_0 a0_1 a0_2 a0_3 a0_4 a0_5 a0_6 a0_7 a0_8 a0_9).bind fun r3 =>
 (impl_IsFull a0_5 a0_6 a0_7 r3.2.2.1).bind fun r4 =>
 br (!r4.1.1)
 (some (((ByteArray.empty, (), (), (), (0 : Int), (0 : Int), (0 : Int), (0 : Int), (), (), ()), ByteArray.empty, (), false, ()), (), ([], [], [], [], [], ())))
 ((impl_LineText a0_0 a0_1 a0_2 a0_3 a0_4 a0_5 a0_6 a0_7 a0_8 a0_9).bind fun r5 =>
 (impl_ItemsOf a0_0 a0_1 a0_2 a0_3 a0_4 a0_5 a0_6 a0_7 a0_8 a0_9).bind fun r6 =>
 (impl_PlacesOf a0_5 a0_6 a0_7 r6.2.2.1).bind fun r7 =>
 (impl_copyMachine a0_0 a0_1 a0_2 a0_3 a0_4 a0_5 a0_6 a0_7 a0_8 a0_9).bind fun r8 =>
 (loopC impl_CastLine_s0 (((), (), r5.1.1, (), (), (r8.2.2.2.2.2.1.length : Int), (0 : Int), ()), ((r8.1.1.1, (), (), (), r8.1.1.2.2.2.2.1, r8.1.1.2.2.2.2.2.1, r8.1.1.2.2.2.2.2.2.1, r8.1.1.2.2.2.2.2.2.2.1, (), (), ()), (ByteArray.empty, (), (), (), (0 : Int), (0 : Int), (0 : Int), (0 : Int), (), (), ()), ()), (r7.2.2.1, r8.2.2.2.2.2.1, r8.2.2.1, r8.2.2.2.1, r8.2.2.2.2.1, r8.2.2.2.2.2.2.1, ()))).bind fun r17 =>
 (impl_MachineOk r17.2.1.1.1 r17.2.2.2.1 r17.2.2.2.2.1 r17.2.2.2.2.2.1 r17.2.1.1.2.2.2.2.1 r17.2.1.1.2.2.2.2.2.1 r17.2.1.1.2.2.2.2.2.2.1 r17.2.1.1.2.2.2.2.2.2.2.1 [] r17.2.2.2.2.2.2.2.1).bind fun r18 =>
 br (!r18.1.1)
 (some (((ByteArray.empty, (), (), (), (0 : Int), (0 : Int), (0 : Int), (0 : Int), (), (), ()), ByteArray.empty, (), false, ()), (), ([], [], [], [], [], ())))
 (some (((r17.2.1.1.1, (), (), (), r17.2.1.1.2.2.2.2.1, r17.2.1.1.2.2.2.2.2.1, r17.2.1.1.2.2.2.2.2.2.1, r17.2.1.1.2.2.2.2.2.2.2.1, (), (), ()), r17.1.2.2.1, (), true, ()), (), (r17.2.2.2.1, r17.2.2.2.2.1, r17.2.2.2.2.2.1, r17.2.2.2.2.2.2.2.1, r17.2.2.1, ())))))
 ((impl_LineText a0_0 a0_1 a0_2 a0_3 a0_4 a0_5 a0_6 a0_7 a0_8 a0_9).bind fun r19 =>
 (impl_ItemsOf a0_0 a0_1 a0_2 a0_3 a0_4 a0_5 a0_6 a0_7 a0_8 a0_9).bind fun r20 =>
 (impl_PlacesOf a0_5 a0_6 a0_7 r20.2.2.1).bind fun r21 =>
 (impl_copyMachine a0_0 a0_1 a0_2 a0_3 a0_4 a0_5 a0_6 a0_7 a0_8 a0_9).bind fun r22 =>
 (loopC impl_CastLine_s0 (((), (), r19.1.1, (), (), (r22.2.2.2.2.2.1.length : Int), (0 : Int), ()), ((r22.1.1.1, (), (), (), r22.1.1.2.2.2.2.1, r22.1.1.2.2.2.2.2.1, r22.1.1.2.2.2.2.2.2.1, r22.1.1.2.2.2.2.2.2.2.1, (), (), ()), (ByteArray.empty, (), (), (), (0 : Int), (0 : Int), (0 : Int), (0 : Int), (), (), ()), ()), (r21.2.2.1, r22.2.2.2.2.2.1, r22.2.2.1, r22.2.2.2.1, r22.2.2.2.2.1, r22.2.2.2.2.2.2.1, ()))).bind fun r23 =>
 (impl_MachineOk r23.2.1.1.1 r23.2.2.2.1 r23.2.2.2.2.1 r23.2.2.2.2.2.1 r23.2.1.1.2.2.2.2.1 r23.2.1.1.2.2.2.2.2.1 r23.2.1.1.2.2.2.2.2.2.1 r23.2.1.1.2.2.2.2.2.2.2.1 [] r23.2.2.2.2.2.2.2.1).bind fun r24 =>
 br (!r24.1.1)
 (some (((ByteArray.empty, (), (), (), (0 : Int), (0 : Int), (0 : Int), (0 : Int), (), (), ()), ByteArray.empty, (), false, ()), (), ([], [], [], [], [], ())))
 (some (((r23.2.1.1.1, (), (), (), r23.2.1.1.2.2.2.2.1, r23.2.1.1.2.2.2.2.2.1, r23.2.1.1.2.2.2.2.2.2.1, r23.2.1.1.2.2.2.2.2.2.2.1, (), (), ()), r23.1.2.2.1, (), true, ()), (), (r23.2.2.2.1, r23.2.2.2.2.1, r23.2.2.2.2.2.1, r23.2.2.2.2.2.2.2.1, r23.2.2.1, ()))))))
noncomputable def impl_CastLine_C : Ctr := ⟨80, impl_CastLine_arg, impl_CastLine_res, fun x => impl_CastLine x.1.1.1 x.1.1.2.1 x.1.1.2.2.1 x.1.1.2.2.2.1 x.1.1.2.2.2.2.1 x.1.1.2.2.2.2.2.1 x.1.1.2.2.2.2.2.2.1 x.1.1.2.2.2.2.2.2.2.1 x.1.1.2.2.2.2.2.2.2.2.1 x.1.1.2.2.2.2.2.2.2.2.2.1 x.1.2.1, none⟩
def impl_CastLine_H : Hint := ⟨[], [], [], fun _ => []⟩
noncomputable def impl_CastLine_T : List Ctr := [impl_MachineOk_C, impl_ItemsOf_C, impl_IsFull_C, impl_LineText_C, impl_PlacesOf_C, impl_copyMachine_C, impl_isBand_C]
noncomputable def impl_CastLine_Ls : List Lp := [impl_CastLine_L0]
theorem impl_CastLine_l0 : ∀ x, impl_CastLine_s0 x = stepW E0 impl_CastLine_T impl_CastLine_Ls impl_CastLine_H (loopAt (bodyOf Tryz.f80) 0) 0 impl_CastLine_h0 [] [(.exit 0, [])] impl_CastLine_r0 x := fun x => by kernel_rfl
theorem impl_CastLine_e : ∀ x, impl_CastLine_C.F x = runBodyW E0 impl_CastLine_T impl_CastLine_Ls impl_CastLine_H 80 Tryz.f80.results.toList (bodyOf Tryz.f80) [(.bx 4 1, 6000000, .i64), (.bx 4 2, 6000001, .i64), (.bx 4 3, 6000002, .mats), (.bx 4 9, 6000003, .mat), (.tm 6, 6000004, .i64)] (impl_CastLine_arg.mk' x) impl_CastLine_res := fun x => by kernel_rfl
theorem impl_CastLine_ok : impl_CastLine_C.Ok E0 := fn_ok (T := impl_CastLine_T) (h := impl_CastLine_H) (Ls := impl_CastLine_Ls) E0_mixed (T_cons impl_MachineOk_ok (T_cons impl_ItemsOf_ok (T_cons impl_IsFull_ok (T_cons impl_LineText_ok (T_cons impl_PlacesOf_ok (T_cons impl_copyMachine_ok (T_cons impl_isBand_ok T_nil))))))) Tryz.func80 (bodyOf_some (by kernel_rfl)) (by kernel_rfl) (loops_of (ks := [0]) (by kernel_rfl) ⟨(loop_one (h := impl_CastLine_H) (own := []) (head := impl_CastLine_h0) (back := []) (exs := [(.exit 0, [])]) (res := impl_CastLine_r0) (step := impl_CastLine_s0) (by kernel_rfl) impl_CastLine_l0), trivial⟩) impl_CastLine_e
def impl_DropMatrix_arg : Sh := ⟨[(0, .agg [.str, .rd [] .i64, .rd [] .i64]), (1, .c (.rd [] .mats)), (2, .agg [.int .i64, .int .i64])], [], []⟩
def impl_DropMatrix_res : List Sh := [⟨[(0, .c (.own 0)), (1, .c (.int .i64)), (2, .c (.bool))], [], [(0, .mats)]⟩]
noncomputable def impl_DropMatrix (a0_0 : ByteArray) (a0_1 : List Int) (a0_2 : List Int) (a1 : List (List (Int × Int))) (a2_0 : Int) (a2_1 : Int) : Option ((Unit × Int × Bool × Unit) × Unit × (List (List (Int × Int)) × Unit)) :=
 (impl_MagazineOk a0_0 a0_1 a0_2 a1).bind fun r1 =>
 br (!r1.1.1)
 (some (((), (0 : Int), false, ()), (), ([], ())))
 ((impl_ofFont a0_0 a0_1 a0_2 a2_0 a2_1).bind fun r2 =>
 br (!r2.1.1)
 (some (((), (0 : Int), false, ()), (), ([], ())))
 ((impl_fall a0_2 a2_1).bind fun r3 =>
 ck (0 ≤ r3.1.1)
 (ck (r3.1.1.toNat < a1.length)
 (let x4 : List (Int × Int) := a1.getD r3.1.1.toNat [];
 let x5 : Bool := (x4.length : Int) == (20 : Int);
 br x5
 (some (((), (0 : Int), false, ()), (), ([], ())))
 ((impl_copyMagazine a1).bind fun r6 =>
 ck (0 ≤ r3.1.1)
 (ck (r3.1.1.toNat < r6.2.2.1.length)
 (ck (r3.1.1.toNat < r6.2.2.1.length)
 (ck (r3.1.1.toNat < r6.2.2.1.length)
 (ck (r3.1.1.toNat < r6.2.2.1.length)
 (let x7 : List (Int × Int) := r6.2.2.1.getD r3.1.1.toNat [];
 ck ((x7.length + [(a2_0, a2_1)].length) * 16 ≤ 140737488355328 ∧ (x7.length + [(a2_0, a2_1)].length) ≤ 9223372036854775807)
 (let x8 : List (Int × Int) := x7 ++ [(a2_0, a2_1)];
 ck (0 ≤ r3.1.1)
 (ck (r3.1.1.toNat < r6.2.2.1.length)
 (ck (r3.1.1.toNat = r3.1.1.toNat ∧ r3.1.1.toNat < r6.2.2.1.length)
 (let x9 : List (List (Int × Int)) := r6.2.2.1.set r3.1.1.toNat x8;
 some (((), r3.1.1, true, ()), (), (x9, ()))))))))))))))))
noncomputable def impl_DropMatrix_C : Ctr := ⟨120, impl_DropMatrix_arg, impl_DropMatrix_res, fun x => impl_DropMatrix x.1.1.1 x.1.1.2.1 x.1.1.2.2.1 x.1.2.1 x.1.2.2.1.1 x.1.2.2.1.2.1, none⟩
def impl_DropMatrix_H : Hint := ⟨[], [], [], fun _ => []⟩
noncomputable def impl_DropMatrix_T : List Ctr := [impl_MagazineOk_C, impl_ofFont_C, impl_fall_C, impl_copyMagazine_C]
noncomputable def impl_DropMatrix_Ls : List Lp := []
theorem impl_DropMatrix_e : ∀ x, impl_DropMatrix_C.F x = runBodyW E0 impl_DropMatrix_T impl_DropMatrix_Ls impl_DropMatrix_H 120 Tryz.f120.results.toList (bodyOf Tryz.f120) [(.tm 6, 6000000, .mats)] (impl_DropMatrix_arg.mk' x) impl_DropMatrix_res := fun x => by kernel_rfl
theorem impl_DropMatrix_ok : impl_DropMatrix_C.Ok E0 := fn_ok (T := impl_DropMatrix_T) (h := impl_DropMatrix_H) (Ls := impl_DropMatrix_Ls) E0_mixed (T_cons impl_MagazineOk_ok (T_cons impl_ofFont_ok (T_cons impl_fall_ok (T_cons impl_copyMagazine_ok T_nil)))) Tryz.func120 (bodyOf_some (by kernel_rfl)) (by kernel_rfl) (loops_of (ks := []) (by kernel_rfl) trivial) impl_DropMatrix_e
def impl_DropWaiting_arg : Sh := ⟨[(0, .agg [.str, .rd [] .i64, .rd [] .i64, .rd [] .mats, .int .i64, .int .i64, .int .i64, .int .i64, .rd [] .mat, .rd [] .mat]), (1, .c (.int .i64))], [], []⟩
def impl_DropWaiting_res : List Sh := [⟨[(0, .agg [.str, .own 0, .own 1, .own 2, .int .i64, .int .i64, .int .i64, .int .i64, .own 3, .own 4]), (1, .c (.int .i64))], [], [(0, .i64), (1, .i64), (2, .mats), (3, .mat), (4, .mat)]⟩]
noncomputable def impl_DropWaiting_s0 (x : (Int × Unit × Unit × Int × Unit) × ((ByteArray × Unit × Unit × Unit × Int × Int × Int × Int × Unit × Unit × Unit) × (ByteArray × Unit × Unit × Unit × Int × Int × Int × Int × Unit × Unit × Unit) × Unit) × (List Int × List Int × List (List (Int × Int)) × List (Int × Int) × List (Int × Int) × Unit)) : Option (((Int × Unit × Unit × Int × Unit) × ((ByteArray × Unit × Unit × Unit × Int × Int × Int × Int × Unit × Unit × Unit) × (ByteArray × Unit × Unit × Unit × Int × Int × Int × Int × Unit × Unit × Unit) × Unit) × (List Int × List Int × List (List (Int × Int)) × List (Int × Int) × List (Int × Int) × Unit)) ⊕ ((Unit × Unit × Int × Unit) × ((ByteArray × Unit × Unit × Unit × Int × Int × Int × Int × Unit × Unit × Unit) × (ByteArray × Unit × Unit × Unit × Int × Int × Int × Int × Unit × Unit × Unit) × Unit) × (List Int × List Int × List (List (Int × Int)) × List (Int × Int) × List (Int × Int) × Unit))) :=
 let x4 : Bool := decide (x.1.2.2.2.1 < x.1.1);
 br x4
 (let x5 : Bool := decide ((x.2.2.2.2.2.2.1.length : Int) > (0 : Int));
 br x5
 (ck (0 < x.2.2.2.2.2.2.1.length)
 (ck (0 < x.2.2.2.2.2.2.1.length)
 (let x6 : Int := (x.2.2.2.2.2.2.1.getD 0 (0, 0)).1;
 let x7 : Int := (x.2.2.2.2.2.2.1.getD 0 (0, 0)).2;
 (impl_DropMatrix x.2.1.1.1 x.2.2.1 x.2.2.2.1 x.2.2.2.2.1 x6 x7).bind fun r8 =>
 br (!r8.1.2.2.1)
 (some (.inr (((), (), x.1.2.2.2.1, ()), ((x.2.1.1.1, (), (), (), x.2.1.1.2.2.2.2.1, x.2.1.1.2.2.2.2.2.1, x.2.1.1.2.2.2.2.2.2.1, x.2.1.1.2.2.2.2.2.2.2.1, (), (), ()), (x.2.1.2.1.1, (), (), (), x.2.1.2.1.2.2.2.2.1, x.2.1.2.1.2.2.2.2.2.1, x.2.1.2.1.2.2.2.2.2.2.1, x.2.1.2.1.2.2.2.2.2.2.2.1, (), (), ()), ()), (x.2.2.1, x.2.2.2.1, x.2.2.2.2.1, x.2.2.2.2.2.1, x.2.2.2.2.2.2.1, ()))))
 (ck (1 ≤ x.2.2.2.2.2.2.1.length ∧ x.2.2.2.2.2.2.1.length ≤ x.2.2.2.2.2.2.1.length)
 (let x9 : List (Int × Int) := cut x.2.2.2.2.2.2.1 1 x.2.2.2.2.2.2.1.length;
 let x10 : Int := w64 (x.1.2.2.2.1 + (1 : Int));
 some (.inl ((x.1.1, (), (), x10, ()), ((x.2.1.1.1, (), (), (), x.2.1.1.2.2.2.2.1, x.2.1.1.2.2.2.2.2.1, x.2.1.1.2.2.2.2.2.2.1, x.2.1.1.2.2.2.2.2.2.2.1, (), (), ()), (x.2.1.2.1.1, (), (), (), x.2.1.2.1.2.2.2.2.1, x.2.1.2.1.2.2.2.2.2.1, x.2.1.2.1.2.2.2.2.2.2.1, x.2.1.2.1.2.2.2.2.2.2.2.1, (), (), ()), ()), (x.2.2.1, x.2.2.2.1, r8.2.2.1, x.2.2.2.2.2.1, x9, ()))))))))
 (some (.inr (((), (), x.1.2.2.2.1, ()), ((x.2.1.1.1, (), (), (), x.2.1.1.2.2.2.2.1, x.2.1.1.2.2.2.2.2.1, x.2.1.1.2.2.2.2.2.2.1, x.2.1.1.2.2.2.2.2.2.2.1, (), (), ()), (x.2.1.2.1.1, (), (), (), x.2.1.2.1.2.2.2.2.1, x.2.1.2.1.2.2.2.2.2.1, x.2.1.2.1.2.2.2.2.2.2.1, x.2.1.2.1.2.2.2.2.2.2.2.1, (), (), ()), ()), (x.2.2.1, x.2.2.2.1, x.2.2.2.2.1, x.2.2.2.2.2.1, x.2.2.2.2.2.2.1, ())))))
 (some (.inr (((), (), x.1.2.2.2.1, ()), ((x.2.1.1.1, (), (), (), x.2.1.1.2.2.2.2.1, x.2.1.1.2.2.2.2.2.1, x.2.1.1.2.2.2.2.2.2.1, x.2.1.1.2.2.2.2.2.2.2.1, (), (), ()), (x.2.1.2.1.1, (), (), (), x.2.1.2.1.2.2.2.2.1, x.2.1.2.1.2.2.2.2.2.1, x.2.1.2.1.2.2.2.2.2.2.1, x.2.1.2.1.2.2.2.2.2.2.2.1, (), (), ()), ()), (x.2.2.1, x.2.2.2.1, x.2.2.2.2.1, x.2.2.2.2.2.1, x.2.2.2.2.2.2.1, ()))))
def impl_DropWaiting_h0 : Sh := ⟨[(1, .c (.int .i64)), (2, .c (.box 0 0)), (4, .c (.box 1 0)), (6, .c (.int .i64))], [(0, .cells [.str, .own 0, .own 1, .own 2, .int .i64, .int .i64, .int .i64, .int .i64, .own 3, .own 4]), (1, .cells [.str, .nil, .nil, .nil, .int .i64, .int .i64, .int .i64, .int .i64, .nil, .nil])], [(0, .i64), (1, .i64), (2, .mats), (3, .mat), (4, .mat)]⟩
def impl_DropWaiting_r0 : List Sh := [⟨[(2, .c (.box 0 0)), (4, .c (.box 1 0)), (6, .c (.int .i64))], [(0, .cells [.str, .own 0, .own 1, .own 2, .int .i64, .int .i64, .int .i64, .int .i64, .own 3, .own 4]), (1, .cells [.str, .nil, .nil, .nil, .int .i64, .int .i64, .int .i64, .int .i64, .nil, .nil])], [(0, .i64), (1, .i64), (2, .mats), (3, .mat), (4, .mat)]⟩]
noncomputable def impl_DropWaiting_L0 : Lp := ⟨0, [], impl_DropWaiting_h0, [], [(.exit 0, [])], impl_DropWaiting_r0, loopC impl_DropWaiting_s0⟩
noncomputable def impl_DropWaiting (a0_0 : ByteArray) (a0_1 : List Int) (a0_2 : List Int) (a0_3 : List (List (Int × Int))) (a0_4 : Int) (a0_5 : Int) (a0_6 : Int) (a0_7 : Int) (a0_8 : List (Int × Int)) (a0_9 : List (Int × Int)) (a1 : Int) : Option (((ByteArray × Unit × Unit × Unit × Int × Int × Int × Int × Unit × Unit × Unit) × Int × Unit) × Unit × (List Int × List Int × List (List (Int × Int)) × List (Int × Int) × List (Int × Int) × Unit)) :=
 (impl_MachineOk a0_0 a0_1 a0_2 a0_3 a0_4 a0_5 a0_6 a0_7 a0_8 a0_9).bind fun r1 =>
 br (!r1.1.1)
 (some (((ByteArray.empty, (), (), (), (0 : Int), (0 : Int), (0 : Int), (0 : Int), (), (), ()), (-1 : Int), ()), (), ([], [], [], [], [], ())))
 (let x2 : Bool := decide (a1 < (0 : Int));
 br x2
 (some (((ByteArray.empty, (), (), (), (0 : Int), (0 : Int), (0 : Int), (0 : Int), (), (), ()), (-1 : Int), ()), (), ([], [], [], [], [], ())))
 ((impl_copyMachine a0_0 a0_1 a0_2 a0_3 a0_4 a0_5 a0_6 a0_7 a0_8 a0_9).bind fun r3 =>
 (loopC impl_DropWaiting_s0 ((a1, (), (), (0 : Int), ()), ((r3.1.1.1, (), (), (), r3.1.1.2.2.2.2.1, r3.1.1.2.2.2.2.2.1, r3.1.1.2.2.2.2.2.2.1, r3.1.1.2.2.2.2.2.2.2.1, (), (), ()), (ByteArray.empty, (), (), (), (0 : Int), (0 : Int), (0 : Int), (0 : Int), (), (), ()), ()), (r3.2.2.1, r3.2.2.2.1, r3.2.2.2.2.1, r3.2.2.2.2.2.1, r3.2.2.2.2.2.2.1, ()))).bind fun r11 =>
 some (((r11.2.1.1.1, (), (), (), r11.2.1.1.2.2.2.2.1, r11.2.1.1.2.2.2.2.2.1, r11.2.1.1.2.2.2.2.2.2.1, r11.2.1.1.2.2.2.2.2.2.2.1, (), (), ()), r11.1.2.2.1, ()), (), (r11.2.2.1, r11.2.2.2.1, r11.2.2.2.2.1, r11.2.2.2.2.2.1, r11.2.2.2.2.2.2.1, ()))))
noncomputable def impl_DropWaiting_C : Ctr := ⟨81, impl_DropWaiting_arg, impl_DropWaiting_res, fun x => impl_DropWaiting x.1.1.1 x.1.1.2.1 x.1.1.2.2.1 x.1.1.2.2.2.1 x.1.1.2.2.2.2.1 x.1.1.2.2.2.2.2.1 x.1.1.2.2.2.2.2.2.1 x.1.1.2.2.2.2.2.2.2.1 x.1.1.2.2.2.2.2.2.2.2.1 x.1.1.2.2.2.2.2.2.2.2.2.1 x.1.2.1, none⟩
def impl_DropWaiting_H : Hint := ⟨[47], [], [], fun _ => []⟩
noncomputable def impl_DropWaiting_T : List Ctr := [impl_MachineOk_C, impl_copyMachine_C, impl_DropMatrix_C]
noncomputable def impl_DropWaiting_Ls : List Lp := [impl_DropWaiting_L0]
theorem impl_DropWaiting_l0 : ∀ x, impl_DropWaiting_s0 x = stepW E0 impl_DropWaiting_T impl_DropWaiting_Ls impl_DropWaiting_H (loopAt (bodyOf Tryz.f81) 0) 0 impl_DropWaiting_h0 [] [(.exit 0, [])] impl_DropWaiting_r0 x := fun x => by kernel_rfl
theorem impl_DropWaiting_e : ∀ x, impl_DropWaiting_C.F x = runBodyW E0 impl_DropWaiting_T impl_DropWaiting_Ls impl_DropWaiting_H 81 Tryz.f81.results.toList (bodyOf Tryz.f81) [(.bx 4 1, 6000000, .i64), (.bx 4 2, 6000001, .i64), (.bx 4 3, 6000002, .mats), (.bx 4 8, 6000003, .mat), (.bx 4 9, 6000004, .mat)] (impl_DropWaiting_arg.mk' x) impl_DropWaiting_res := fun x => by kernel_rfl
theorem impl_DropWaiting_ok : impl_DropWaiting_C.Ok E0 := fn_ok (T := impl_DropWaiting_T) (h := impl_DropWaiting_H) (Ls := impl_DropWaiting_Ls) E0_mixed (T_cons impl_MachineOk_ok (T_cons impl_copyMachine_ok (T_cons impl_DropMatrix_ok T_nil))) Tryz.func81 (bodyOf_some (by kernel_rfl)) (by kernel_rfl) (loops_of (ks := [0]) (by kernel_rfl) ⟨(loop_one (h := impl_DropWaiting_H) (own := []) (head := impl_DropWaiting_h0) (back := []) (exs := [(.exit 0, [])]) (res := impl_DropWaiting_r0) (step := impl_DropWaiting_s0) (by kernel_rfl) impl_DropWaiting_l0), trivial⟩) impl_DropWaiting_e
def impl_SetLines_arg : Sh := ⟨[(0, .agg [.str, .rd [] .i64, .rd [] .i64, .rd [] .mats, .int .i64, .int .i64, .int .i64, .int .i64, .rd [] .mat, .rd [] .mat]), (1, .c (.rd [] .str))], [], []⟩
def impl_SetLines_res : List Sh := [⟨[(0, .agg [.str, .own 0, .own 1, .own 2, .int .i64, .int .i64, .int .i64, .int .i64, .own 3, .own 4]), (1, .c (.own 5)), (2, .c (.bool))], [], [(0, .i64), (1, .i64), (2, .mats), (3, .mat), (4, .mat), (5, .str)]⟩]
noncomputable def impl_SetLines_s0 (x : (Unit × Unit × Unit × List ByteArray × Int × Int × Unit) × ((ByteArray × Unit × Unit × Unit × Int × Int × Int × Int × Unit × Unit × Unit) × (ByteArray × Unit × Unit × Unit × Int × Int × Int × Int × Unit × Unit × Unit) × Unit) × (List ByteArray × List Int × List Int × List (List (Int × Int)) × List (Int × Int) × List (Int × Int) × Unit)) : Option (((Unit × Unit × Unit × List ByteArray × Int × Int × Unit) × ((ByteArray × Unit × Unit × Unit × Int × Int × Int × Int × Unit × Unit × Unit) × (ByteArray × Unit × Unit × Unit × Int × Int × Int × Int × Unit × Unit × Unit) × Unit) × (List ByteArray × List Int × List Int × List (List (Int × Int)) × List (Int × Int) × List (Int × Int) × Unit)) ⊕ (((Unit × Unit × Bool × Unit) × ((ByteArray × Unit × Unit × Unit × Int × Int × Int × Int × Unit × Unit × Unit) × Unit) × Unit) ⊕ ((Unit × Unit × Unit × Unit) × ((ByteArray × Unit × Unit × Unit × Int × Int × Int × Int × Unit × Unit × Unit) × (ByteArray × Unit × Unit × Unit × Int × Int × Int × Int × Unit × Unit × Unit) × Unit) × (List ByteArray × List Int × List Int × List (List (Int × Int)) × List (Int × Int) × List (Int × Int) × Unit)))) :=
 let x3 : Bool := decide (x.1.2.2.2.2.2.1 < x.1.2.2.2.2.1);
 br x3
 (ck (0 ≤ x.1.2.2.2.2.2.1)
 (ck (x.1.2.2.2.2.2.1.toNat < x.1.2.2.2.1.length)
 (let x4 : ByteArray := x.1.2.2.2.1.getD x.1.2.2.2.2.2.1.toNat ByteArray.empty;
 (impl_KeyText x.2.1.1.1 x.2.2.2.1 x.2.2.2.2.1 x.2.2.2.2.2.1 x.2.1.1.2.2.2.2.1 x.2.1.1.2.2.2.2.2.1 x.2.1.1.2.2.2.2.2.2.1 x.2.1.1.2.2.2.2.2.2.2.1 x.2.2.2.2.2.2.1 x.2.2.2.2.2.2.2.1 x4).bind fun r5 =>
 let x6 : Bool := r5.1.2.1 != (x4.size : Int);
 br x6
 (some (.inr (.inl (((), (), false, ()), ((ByteArray.empty, (), (), (), (0 : Int), (0 : Int), (0 : Int), (0 : Int), (), (), ()), ()), ()))))
 ((impl_CastLine r5.1.1.1 r5.2.2.1 r5.2.2.2.1 r5.2.2.2.2.1 r5.1.1.2.2.2.2.1 r5.1.1.2.2.2.2.2.1 r5.1.1.2.2.2.2.2.2.1 r5.1.1.2.2.2.2.2.2.2.1 r5.2.2.2.2.2.1 r5.2.2.2.2.2.2.1 true).bind fun r7 =>
 br (!r7.1.2.2.2.1)
 (some (.inr (.inl (((), (), false, ()), ((ByteArray.empty, (), (), (), (0 : Int), (0 : Int), (0 : Int), (0 : Int), (), (), ()), ()), ()))))
 (ck ((x.2.2.1.length + [r7.1.2.1].length) * 16 ≤ 140737488355328 ∧ (x.2.2.1.length + [r7.1.2.1].length) ≤ 9223372036854775807)
 (let x8 : List ByteArray := x.2.2.1 ++ [r7.1.2.1];
 (impl_DropWaiting r7.1.1.1 r7.2.2.1 r7.2.2.2.1 r7.2.2.2.2.1 r7.1.1.2.2.2.2.1 r7.1.1.2.2.2.2.2.1 r7.1.1.2.2.2.2.2.2.1 r7.1.1.2.2.2.2.2.2.2.1 [] r7.2.2.2.2.2.1 (240 : Int)).bind fun r9 =>
 let x10 : Int := w64 (x.1.2.2.2.2.2.1 + (1 : Int));
 some (.inl (((), (), (), x.1.2.2.2.1, x.1.2.2.2.2.1, x10, ()), ((r9.1.1.1, (), (), (), r9.1.1.2.2.2.2.1, r9.1.1.2.2.2.2.2.1, r9.1.1.2.2.2.2.2.2.1, r9.1.1.2.2.2.2.2.2.2.1, (), (), ()), (x.2.1.2.1.1, (), (), (), x.2.1.2.1.2.2.2.2.1, x.2.1.2.1.2.2.2.2.2.1, x.2.1.2.1.2.2.2.2.2.2.1, x.2.1.2.1.2.2.2.2.2.2.2.1, (), (), ()), ()), (x8, r9.2.2.1, r9.2.2.2.1, r9.2.2.2.2.1, r9.2.2.2.2.2.1, r9.2.2.2.2.2.2.1, ())))))))))
 (some (.inr (.inr (((), (), (), ()), ((x.2.1.1.1, (), (), (), x.2.1.1.2.2.2.2.1, x.2.1.1.2.2.2.2.2.1, x.2.1.1.2.2.2.2.2.2.1, x.2.1.1.2.2.2.2.2.2.2.1, (), (), ()), (x.2.1.2.1.1, (), (), (), x.2.1.2.1.2.2.2.2.1, x.2.1.2.1.2.2.2.2.2.1, x.2.1.2.1.2.2.2.2.2.2.1, x.2.1.2.1.2.2.2.2.2.2.2.1, (), (), ()), ()), (x.2.2.1, x.2.2.2.1, x.2.2.2.2.1, x.2.2.2.2.2.1, x.2.2.2.2.2.2.1, x.2.2.2.2.2.2.2.1, ())))))
def impl_SetLines_h0 : Sh := ⟨[(2, .c (.box 0 0)), (4, .c (.box 1 0)), (7, .c (.own 0)), (20, .c (.rd [] .str)), (21, .c (.int .i64)), (22, .c (.int .i64))], [(0, .cells [.str, .own 1, .own 2, .own 3, .int .i64, .int .i64, .int .i64, .int .i64, .own 4, .own 5]), (1, .cells [.str, .nil, .nil, .nil, .int .i64, .int .i64, .int .i64, .int .i64, .nil, .nil])], [(0, .str), (1, .i64), (2, .i64), (3, .mats), (4, .mat), (5, .mat)]⟩
def impl_SetLines_r0 : List Sh := [⟨[(4, .c (.box 0 0)), (5, .c (.nil)), (6, .c (.bool))], [(0, .cells [.str, .nil, .nil, .nil, .int .i64, .int .i64, .int .i64, .int .i64, .nil, .nil])], []⟩, ⟨[(2, .c (.box 0 0)), (4, .c (.box 1 0)), (7, .c (.own 0))], [(0, .cells [.str, .own 1, .own 2, .own 3, .int .i64, .int .i64, .int .i64, .int .i64, .own 4, .own 5]), (1, .cells [.str, .nil, .nil, .nil, .int .i64, .int .i64, .int .i64, .int .i64, .nil, .nil])], [(0, .str), (1, .i64), (2, .i64), (3, .mats), (4, .mat), (5, .mat)]⟩]
noncomputable def impl_SetLines_L0 : Lp := ⟨0, [], impl_SetLines_h0, [], [(.ret, []), (.exit 0, [])], impl_SetLines_r0, loopC impl_SetLines_s0⟩
noncomputable def impl_SetLines (a0_0 : ByteArray) (a0_1 : List Int) (a0_2 : List Int) (a0_3 : List (List (Int × Int))) (a0_4 : Int) (a0_5 : Int) (a0_6 : Int) (a0_7 : Int) (a0_8 : List (Int × Int)) (a0_9 : List (Int × Int)) (a1 : List ByteArray) : Option (((ByteArray × Unit × Unit × Unit × Int × Int × Int × Int × Unit × Unit × Unit) × Unit × Bool × Unit) × Unit × (List Int × List Int × List (List (Int × Int)) × List (Int × Int) × List (Int × Int) × List ByteArray × Unit)) :=
 (impl_MachineOk a0_0 a0_1 a0_2 a0_3 a0_4 a0_5 a0_6 a0_7 a0_8 a0_9).bind fun r1 =>
 br (!r1.1.1)
 (some (((ByteArray.empty, (), (), (), (0 : Int), (0 : Int), (0 : Int), (0 : Int), (), (), ()), (), false, ()), (), ([], [], [], [], [], [], ())))
 ((impl_copyMachine a0_0 a0_1 a0_2 a0_3 a0_4 a0_5 a0_6 a0_7 a0_8 a0_9).bind fun r2 =>
 (loopC impl_SetLines_s0 (((), (), (), a1, (a1.length : Int), (0 : Int), ()), ((r2.1.1.1, (), (), (), r2.1.1.2.2.2.2.1, r2.1.1.2.2.2.2.2.1, r2.1.1.2.2.2.2.2.2.1, r2.1.1.2.2.2.2.2.2.2.1, (), (), ()), (ByteArray.empty, (), (), (), (0 : Int), (0 : Int), (0 : Int), (0 : Int), (), (), ()), ()), ([], r2.2.2.1, r2.2.2.2.1, r2.2.2.2.2.1, r2.2.2.2.2.2.1, r2.2.2.2.2.2.2.1, ()))).bind fun r11 =>
 sumK r11 (fun y14 =>
 some (((y14.2.1.1.1, (), (), (), y14.2.1.1.2.2.2.2.1, y14.2.1.1.2.2.2.2.2.1, y14.2.1.1.2.2.2.2.2.2.1, y14.2.1.1.2.2.2.2.2.2.2.1, (), (), ()), (), y14.1.2.2.1, ()), (), ([], [], [], [], [], [], ()))) (fun y15 =>
 some (((y15.2.1.1.1, (), (), (), y15.2.1.1.2.2.2.2.1, y15.2.1.1.2.2.2.2.2.1, y15.2.1.1.2.2.2.2.2.2.1, y15.2.1.1.2.2.2.2.2.2.2.1, (), (), ()), (), true, ()), (), (y15.2.2.2.1, y15.2.2.2.2.1, y15.2.2.2.2.2.1, y15.2.2.2.2.2.2.1, y15.2.2.2.2.2.2.2.1, y15.2.2.1, ()))))
noncomputable def impl_SetLines_C : Ctr := ⟨36, impl_SetLines_arg, impl_SetLines_res, fun x => impl_SetLines x.1.1.1 x.1.1.2.1 x.1.1.2.2.1 x.1.1.2.2.2.1 x.1.1.2.2.2.2.1 x.1.1.2.2.2.2.2.1 x.1.1.2.2.2.2.2.2.1 x.1.1.2.2.2.2.2.2.2.1 x.1.1.2.2.2.2.2.2.2.2.1 x.1.1.2.2.2.2.2.2.2.2.2.1 x.1.2.1, none⟩
def impl_SetLines_H : Hint := ⟨[], [], [], fun _ => []⟩
noncomputable def impl_SetLines_T : List Ctr := [impl_MachineOk_C, impl_copyMachine_C, impl_KeyText_C, impl_CastLine_C, impl_DropWaiting_C]
noncomputable def impl_SetLines_Ls : List Lp := [impl_SetLines_L0]
theorem impl_SetLines_l0 : ∀ x, impl_SetLines_s0 x = stepW E0 impl_SetLines_T impl_SetLines_Ls impl_SetLines_H (loopAt (bodyOf Tryz.f36) 0) 0 impl_SetLines_h0 [] [(.ret, []), (.exit 0, [])] impl_SetLines_r0 x := fun x => by kernel_rfl
theorem impl_SetLines_e : ∀ x, impl_SetLines_C.F x = runBodyW E0 impl_SetLines_T impl_SetLines_Ls impl_SetLines_H 36 Tryz.f36.results.toList (bodyOf Tryz.f36) [(.bx 4 1, 6000000, .i64), (.bx 4 2, 6000001, .i64), (.bx 4 3, 6000002, .mats), (.bx 4 8, 6000003, .mat), (.bx 4 9, 6000004, .mat), (.tm 5, 6000005, .str)] (impl_SetLines_arg.mk' x) impl_SetLines_res := fun x => by kernel_rfl
theorem impl_SetLines_ok : impl_SetLines_C.Ok E0 := fn_ok (T := impl_SetLines_T) (h := impl_SetLines_H) (Ls := impl_SetLines_Ls) E0_mixed (T_cons impl_MachineOk_ok (T_cons impl_copyMachine_ok (T_cons impl_KeyText_ok (T_cons impl_CastLine_ok (T_cons impl_DropWaiting_ok T_nil))))) Tryz.func36 (bodyOf_some (by kernel_rfl)) (by kernel_rfl) (loops_of (ks := [0]) (by kernel_rfl) ⟨(loop_one (h := impl_SetLines_H) (own := []) (head := impl_SetLines_h0) (back := []) (exs := [(.ret, []), (.exit 0, [])]) (res := impl_SetLines_r0) (step := impl_SetLines_s0) (by kernel_rfl) impl_SetLines_l0), trivial⟩) impl_SetLines_e
def impl_CastGalley_arg : Sh := ⟨[(0, .agg [.str, .rd [] .i64, .rd [] .i64, .rd [] .mats, .int .i64, .int .i64, .int .i64, .int .i64, .rd [] .mat, .rd [] .mat]), (1, .c (.rd [] .str))], [], []⟩
def impl_CastGalley_res : List Sh := [⟨[(0, .agg [.str, .own 0, .own 1, .own 2, .int .i64, .int .i64, .int .i64, .int .i64, .own 3, .own 4]), (1, .c (.own 5)), (2, .c (.bool))], [], [(0, .i64), (1, .i64), (2, .mats), (3, .mat), (4, .mat), (5, .i64)]⟩]
noncomputable def impl_CastGalley_s0 (x : (Unit × Unit × Unit × Unit × List ByteArray × Int × Int × Unit) × ((ByteArray × Unit × Unit × Unit × Int × Int × Int × Int × Unit × Unit × Unit) × (ByteArray × Unit × Unit × Unit × Int × Int × Int × Int × Unit × Unit × Unit) × Unit) × (List ByteArray × List Int × List Int × List Int × List (List (Int × Int)) × List (Int × Int) × List (Int × Int) × Unit)) : Option (((Unit × Unit × Unit × Unit × List ByteArray × Int × Int × Unit) × ((ByteArray × Unit × Unit × Unit × Int × Int × Int × Int × Unit × Unit × Unit) × (ByteArray × Unit × Unit × Unit × Int × Int × Int × Int × Unit × Unit × Unit) × Unit) × (List ByteArray × List Int × List Int × List Int × List (List (Int × Int)) × List (Int × Int) × List (Int × Int) × Unit)) ⊕ ((Unit × Unit × Unit × Unit) × ((ByteArray × Unit × Unit × Unit × Int × Int × Int × Int × Unit × Unit × Unit) × (ByteArray × Unit × Unit × Unit × Int × Int × Int × Int × Unit × Unit × Unit) × Unit) × (List Int × List Int × List Int × List (List (Int × Int)) × List (Int × Int) × List (Int × Int) × Unit))) :=
 let x5 : Bool := decide (x.1.2.2.2.2.2.2.1 < x.1.2.2.2.2.2.1);
 br x5
 (ck (0 ≤ x.1.2.2.2.2.2.2.1)
 (ck (x.1.2.2.2.2.2.2.1.toNat < x.1.2.2.2.2.1.length)
 (let x6 : ByteArray := x.1.2.2.2.2.1.getD x.1.2.2.2.2.2.2.1.toNat ByteArray.empty;
 ck (0 ≤ x.1.2.2.2.2.2.2.1)
 (ck (x.1.2.2.2.2.2.2.1.toNat < x.2.2.1.length)
 (ck (x.1.2.2.2.2.2.2.1.toNat < x.2.2.1.length)
 (let x7 : ByteArray := x.2.2.1.getD x.1.2.2.2.2.2.2.1.toNat ByteArray.empty;
 let x8 : Bool := !strEq x7 x6;
 br x8
 (ck ((x.2.2.2.1.length + [x.1.2.2.2.2.2.2.1].length) * 8 ≤ 140737488355328 ∧ (x.2.2.2.1.length + [x.1.2.2.2.2.2.2.1].length) ≤ 9223372036854775807)
 (let x9 : List Int := x.2.2.2.1 ++ [x.1.2.2.2.2.2.2.1];
 let x10 : Int := w64 (x.1.2.2.2.2.2.2.1 + (1 : Int));
 some (.inl (((), (), (), (), x.1.2.2.2.2.1, x.1.2.2.2.2.2.1, x10, ()), ((x.2.1.1.1, (), (), (), x.2.1.1.2.2.2.2.1, x.2.1.1.2.2.2.2.2.1, x.2.1.1.2.2.2.2.2.2.1, x.2.1.1.2.2.2.2.2.2.2.1, (), (), ()), (x.2.1.2.1.1, (), (), (), x.2.1.2.1.2.2.2.2.1, x.2.1.2.1.2.2.2.2.2.1, x.2.1.2.1.2.2.2.2.2.2.1, x.2.1.2.1.2.2.2.2.2.2.2.1, (), (), ()), ()), (x.2.2.1, x9, x.2.2.2.2.1, x.2.2.2.2.2.1, x.2.2.2.2.2.2.1, x.2.2.2.2.2.2.2.1, x.2.2.2.2.2.2.2.2.1, ())))))
 (let x11 : Int := w64 (x.1.2.2.2.2.2.2.1 + (1 : Int));
 some (.inl (((), (), (), (), x.1.2.2.2.2.1, x.1.2.2.2.2.2.1, x11, ()), ((x.2.1.1.1, (), (), (), x.2.1.1.2.2.2.2.1, x.2.1.1.2.2.2.2.2.1, x.2.1.1.2.2.2.2.2.2.1, x.2.1.1.2.2.2.2.2.2.2.1, (), (), ()), (x.2.1.2.1.1, (), (), (), x.2.1.2.1.2.2.2.2.1, x.2.1.2.1.2.2.2.2.2.1, x.2.1.2.1.2.2.2.2.2.2.1, x.2.1.2.1.2.2.2.2.2.2.2.1, (), (), ()), ()), (x.2.2.1, x.2.2.2.1, x.2.2.2.2.1, x.2.2.2.2.2.1, x.2.2.2.2.2.2.1, x.2.2.2.2.2.2.2.1, x.2.2.2.2.2.2.2.2.1, ()))))))))))
 (some (.inr (((), (), (), ()), ((x.2.1.1.1, (), (), (), x.2.1.1.2.2.2.2.1, x.2.1.1.2.2.2.2.2.1, x.2.1.1.2.2.2.2.2.2.1, x.2.1.1.2.2.2.2.2.2.2.1, (), (), ()), (x.2.1.2.1.1, (), (), (), x.2.1.2.1.2.2.2.2.1, x.2.1.2.1.2.2.2.2.2.1, x.2.1.2.1.2.2.2.2.2.2.1, x.2.1.2.1.2.2.2.2.2.2.2.1, (), (), ()), ()), (x.2.2.2.1, x.2.2.2.2.1, x.2.2.2.2.2.1, x.2.2.2.2.2.2.1, x.2.2.2.2.2.2.2.1, x.2.2.2.2.2.2.2.2.1, ()))))
def impl_CastGalley_h0 : Sh := ⟨[(4, .c (.box 0 0)), (7, .c (.box 1 0)), (8, .c (.own 0)), (10, .c (.own 1)), (43, .c (.rd [] .str)), (44, .c (.int .i64)), (45, .c (.int .i64))], [(0, .cells [.str, .nil, .nil, .nil, .int .i64, .int .i64, .int .i64, .int .i64, .nil, .nil]), (1, .cells [.str, .own 2, .own 3, .own 4, .int .i64, .int .i64, .int .i64, .int .i64, .own 5, .own 6])], [(0, .str), (1, .i64), (2, .i64), (3, .i64), (4, .mats), (5, .mat), (6, .mat)]⟩
def impl_CastGalley_r0 : List Sh := [⟨[(4, .c (.box 0 0)), (7, .c (.box 1 0)), (10, .c (.own 0))], [(0, .cells [.str, .nil, .nil, .nil, .int .i64, .int .i64, .int .i64, .int .i64, .nil, .nil]), (1, .cells [.str, .own 1, .own 2, .own 3, .int .i64, .int .i64, .int .i64, .int .i64, .own 4, .own 5])], [(0, .i64), (1, .i64), (2, .i64), (3, .mats), (4, .mat), (5, .mat)]⟩]
noncomputable def impl_CastGalley_L0 : Lp := ⟨0, [], impl_CastGalley_h0, [], [(.exit 0, [])], impl_CastGalley_r0, loopC impl_CastGalley_s0⟩
noncomputable def impl_CastGalley (a0_0 : ByteArray) (a0_1 : List Int) (a0_2 : List Int) (a0_3 : List (List (Int × Int))) (a0_4 : Int) (a0_5 : Int) (a0_6 : Int) (a0_7 : Int) (a0_8 : List (Int × Int)) (a0_9 : List (Int × Int)) (a1 : List ByteArray) : Option (((ByteArray × Unit × Unit × Unit × Int × Int × Int × Int × Unit × Unit × Unit) × Unit × Bool × Unit) × Unit × (List Int × List Int × List (List (Int × Int)) × List (Int × Int) × List (Int × Int) × List Int × Unit)) :=
 (impl_MachineOk a0_0 a0_1 a0_2 a0_3 a0_4 a0_5 a0_6 a0_7 a0_8 a0_9).bind fun r1 =>
 br (!r1.1.1)
 (some (((ByteArray.empty, (), (), (), (0 : Int), (0 : Int), (0 : Int), (0 : Int), (), (), ()), (), false, ()), (), ([], [], [], [], [], [], ())))
 (let x2 : Bool := decide ((a0_8.length : Int) > (0 : Int));
 br x2
 (some (((ByteArray.empty, (), (), (), (0 : Int), (0 : Int), (0 : Int), (0 : Int), (), (), ()), (), false, ()), (), ([], [], [], [], [], [], ())))
 ((impl_GalleyOk a0_0 a0_1 a0_2 a0_5 a0_6 a0_7 a1).bind fun r3 =>
 br (!r3.1.1)
 (some (((ByteArray.empty, (), (), (), (0 : Int), (0 : Int), (0 : Int), (0 : Int), (), (), ()), (), false, ()), (), ([], [], [], [], [], [], ())))
 ((impl_SetLines a0_0 a0_1 a0_2 a0_3 a0_4 a0_5 a0_6 a0_7 a0_8 a0_9 a1).bind fun r4 =>
 br (!r4.1.2.2.1)
 (some (((ByteArray.empty, (), (), (), (0 : Int), (0 : Int), (0 : Int), (0 : Int), (), (), ()), (), false, ()), (), ([], [], [], [], [], [], ())))
 ((loopC impl_CastGalley_s0 (((), (), (), (), a1, (a1.length : Int), (0 : Int), ()), ((ByteArray.empty, (), (), (), (0 : Int), (0 : Int), (0 : Int), (0 : Int), (), (), ()), (r4.1.1.1, (), (), (), r4.1.1.2.2.2.2.1, r4.1.1.2.2.2.2.2.1, r4.1.1.2.2.2.2.2.2.1, r4.1.1.2.2.2.2.2.2.2.1, (), (), ()), ()), (r4.2.2.2.2.2.2.2.1, [], r4.2.2.1, r4.2.2.2.1, r4.2.2.2.2.1, r4.2.2.2.2.2.1, r4.2.2.2.2.2.2.1, ()))).bind fun r12 =>
 some (((r12.2.1.2.1.1, (), (), (), r12.2.1.2.1.2.2.2.2.1, r12.2.1.2.1.2.2.2.2.2.1, r12.2.1.2.1.2.2.2.2.2.2.1, r12.2.1.2.1.2.2.2.2.2.2.2.1, (), (), ()), (), true, ()), (), (r12.2.2.2.1, r12.2.2.2.2.1, r12.2.2.2.2.2.1, r12.2.2.2.2.2.2.1, r12.2.2.2.2.2.2.2.1, r12.2.2.1, ()))))))
noncomputable def impl_CastGalley_C : Ctr := ⟨15, impl_CastGalley_arg, impl_CastGalley_res, fun x => impl_CastGalley x.1.1.1 x.1.1.2.1 x.1.1.2.2.1 x.1.1.2.2.2.1 x.1.1.2.2.2.2.1 x.1.1.2.2.2.2.2.1 x.1.1.2.2.2.2.2.2.1 x.1.1.2.2.2.2.2.2.2.1 x.1.1.2.2.2.2.2.2.2.2.1 x.1.1.2.2.2.2.2.2.2.2.2.1 x.1.2.1, none⟩
def impl_CastGalley_H : Hint := ⟨[], [], [], fun _ => []⟩
noncomputable def impl_CastGalley_T : List Ctr := [impl_MachineOk_C, impl_GalleyOk_C, impl_SetLines_C]
noncomputable def impl_CastGalley_Ls : List Lp := [impl_CastGalley_L0]
theorem impl_CastGalley_l0 : ∀ x, impl_CastGalley_s0 x = stepW E0 impl_CastGalley_T impl_CastGalley_Ls impl_CastGalley_H (loopAt (bodyOf Tryz.f15) 0) 0 impl_CastGalley_h0 [] [(.exit 0, [])] impl_CastGalley_r0 x := fun x => by kernel_rfl
theorem impl_CastGalley_e : ∀ x, impl_CastGalley_C.F x = runBodyW E0 impl_CastGalley_T impl_CastGalley_Ls impl_CastGalley_H 15 Tryz.f15.results.toList (bodyOf Tryz.f15) [(.bx 4 1, 6000000, .i64), (.bx 4 2, 6000001, .i64), (.bx 4 3, 6000002, .mats), (.bx 4 8, 6000003, .mat), (.bx 4 9, 6000004, .mat), (.tm 5, 6000005, .i64)] (impl_CastGalley_arg.mk' x) impl_CastGalley_res := fun x => by kernel_rfl
theorem impl_CastGalley_ok : impl_CastGalley_C.Ok E0 := fn_ok (T := impl_CastGalley_T) (h := impl_CastGalley_H) (Ls := impl_CastGalley_Ls) E0_mixed (T_cons impl_MachineOk_ok (T_cons impl_GalleyOk_ok (T_cons impl_SetLines_ok T_nil))) Tryz.func15 (bodyOf_some (by kernel_rfl)) (by kernel_rfl) (loops_of (ks := [0]) (by kernel_rfl) ⟨(loop_one (h := impl_CastGalley_H) (own := []) (head := impl_CastGalley_h0) (back := []) (exs := [(.exit 0, [])]) (res := impl_CastGalley_r0) (step := impl_CastGalley_s0) (by kernel_rfl) impl_CastGalley_l0), trivial⟩) impl_CastGalley_e
def laws_markIntS_arg : Sh := ⟨[(0, .c (.own 0)), (1, .c (.int .i64))], [], [(0, .i64)]⟩
def laws_markIntS_res : List Sh := [⟨[(0, .c (.int .i64)), (1, .c (.own 0))], [], [(0, .i64)]⟩]
noncomputable def laws_markIntS_s0 (x : (Unit × Int × Int × Unit) × Unit × (List Int × Unit)) : Option (((Unit × Int × Int × Unit) × Unit × (List Int × Unit)) ⊕ ((Unit × Int × Unit) × Unit × (List Int × Unit))) :=
 let x1 : Bool := decide (x.1.2.2.1 < (x.2.2.1.length : Int));
 br x1
 (ck (0 ≤ x.1.2.2.1)
 (ck (x.1.2.2.1.toNat < x.2.2.1.length)
 (ck (x.1.2.2.1.toNat < x.2.2.1.length)
 (let x2 : List Int := x.2.2.1.set x.1.2.2.1.toNat x.1.2.1;
 let x3 : Int := w64 (x.1.2.1 + (1 : Int));
 let x4 : Int := w64 (x.1.2.2.1 + (1 : Int));
 some (.inl (((), x3, x4, ()), (), (x2, ())))))))
 (some (.inr (((), x.1.2.1, ()), (), (x.2.2.1, ()))))
def laws_markIntS_h0 : Sh := ⟨[(0, .c (.own 0)), (1, .c (.int .i64)), (5, .c (.int .i64))], [], [(0, .i64)]⟩
def laws_markIntS_r0 : List Sh := [⟨[(0, .c (.own 0)), (1, .c (.int .i64))], [], [(0, .i64)]⟩]
noncomputable def laws_markIntS_L0 : Lp := ⟨0, [], laws_markIntS_h0, [], [(.exit 0, [])], laws_markIntS_r0, loopC laws_markIntS_s0⟩
noncomputable def laws_markIntS (a1 : Int) (o0 : List Int) : Option ((Int × Unit × Unit) × Unit × (List Int × Unit)) :=
 (loopC laws_markIntS_s0 (((), a1, (0 : Int), ()), (), (o0, ()))).bind fun r5 =>
 some ((r5.1.2.1, (), ()), (), (r5.2.2.1, ()))
noncomputable def laws_markIntS_C : Ctr := ⟨21, laws_markIntS_arg, laws_markIntS_res, fun x => laws_markIntS x.1.2.1 x.2.2.1, none⟩
def laws_markIntS_H : Hint := ⟨[], [], [], fun _ => []⟩
noncomputable def laws_markIntS_T : List Ctr := []
noncomputable def laws_markIntS_Ls : List Lp := [laws_markIntS_L0]
theorem laws_markIntS_l0 : ∀ x, laws_markIntS_s0 x = stepW E0 laws_markIntS_T laws_markIntS_Ls laws_markIntS_H (loopAt (bodyOf Tryz.f21) 0) 0 laws_markIntS_h0 [] [(.exit 0, [])] laws_markIntS_r0 x := fun x => by kernel_rfl
theorem laws_markIntS_e : ∀ x, laws_markIntS_C.F x = runBodyW E0 laws_markIntS_T laws_markIntS_Ls laws_markIntS_H 21 Tryz.f21.results.toList (bodyOf Tryz.f21) [] (laws_markIntS_arg.mk' x) laws_markIntS_res := fun x => by kernel_rfl
theorem laws_markIntS_ok : laws_markIntS_C.Ok E0 := fn_ok (T := laws_markIntS_T) (h := laws_markIntS_H) (Ls := laws_markIntS_Ls) E0_mixed T_nil Tryz.func21 (bodyOf_some (by kernel_rfl)) (by kernel_rfl) (loops_of (ks := [0]) (by kernel_rfl) ⟨(loop_one (h := laws_markIntS_H) (own := []) (head := laws_markIntS_h0) (back := []) (exs := [(.exit 0, [])]) (res := laws_markIntS_r0) (step := laws_markIntS_s0) (by kernel_rfl) laws_markIntS_l0), trivial⟩) laws_markIntS_e
def laws_markFont_arg : Sh := ⟨[(0, .agg [.str, .own 0, .own 1]), (1, .c (.int .i64))], [], [(0, .i64), (1, .i64)]⟩
def laws_markFont_res : List Sh := [⟨[(0, .c (.int .i64)), (1, .agg [.str, .own 0, .own 1])], [], [(0, .i64), (1, .i64)]⟩]
noncomputable def laws_markFont (a0_0 : ByteArray) (a1 : Int) (o0 : List Int) (o1 : List Int) : Option ((Int × (ByteArray × Unit × Unit × Unit) × Unit) × Unit × (List Int × List Int × Unit)) :=
 (laws_markIntS a1 o0).bind fun r1 =>
 (laws_markIntS r1.1.1 o1).bind fun r2 =>
 some ((r2.1.1, (a0_0, (), (), ()), ()), (), (r1.2.2.1, r2.2.2.1, ()))
noncomputable def laws_markFont_C : Ctr := ⟨41, laws_markFont_arg, laws_markFont_res, fun x => laws_markFont x.1.1.1 x.1.2.1 x.2.2.1 x.2.2.2.1, none⟩
def laws_markFont_H : Hint := ⟨[], [], [], fun _ => []⟩
noncomputable def laws_markFont_T : List Ctr := [laws_markIntS_C]
noncomputable def laws_markFont_Ls : List Lp := []
theorem laws_markFont_e : ∀ x, laws_markFont_C.F x = runBodyW E0 laws_markFont_T laws_markFont_Ls laws_markFont_H 41 Tryz.f41.results.toList (bodyOf Tryz.f41) [] (laws_markFont_arg.mk' x) laws_markFont_res := fun x => by kernel_rfl
theorem laws_markFont_ok : laws_markFont_C.Ok E0 := fn_ok (T := laws_markFont_T) (h := laws_markFont_H) (Ls := laws_markFont_Ls) E0_mixed (T_cons laws_markIntS_ok T_nil) Tryz.func41 (bodyOf_some (by kernel_rfl)) (by kernel_rfl) (loops_of (ks := []) (by kernel_rfl) trivial) laws_markFont_e
def laws_markMatrixS_arg : Sh := ⟨[(0, .c (.own 0)), (1, .c (.int .i64))], [], [(0, .mat)]⟩
def laws_markMatrixS_res : List Sh := [⟨[(0, .c (.int .i64)), (1, .c (.own 0))], [], [(0, .mat)]⟩]
noncomputable def laws_markMatrixS_s0 (x : (Unit × Int × Int × Unit) × Unit × (List (Int × Int) × Unit)) : Option (((Unit × Int × Int × Unit) × Unit × (List (Int × Int) × Unit)) ⊕ ((Unit × Int × Unit) × Unit × (List (Int × Int) × Unit))) :=
 let x1 : Bool := decide (x.1.2.2.1 < (x.2.2.1.length : Int));
 br x1
 (ck (0 ≤ x.1.2.2.1)
 (ck (x.1.2.2.1.toNat < x.2.2.1.length)
 (ck (x.1.2.2.1.toNat < x.2.2.1.length)
 (let x2 : List (Int × Int) := x.2.2.1.set x.1.2.2.1.toNat (x.1.2.1, (x.2.2.1.getD x.1.2.2.1.toNat (0, 0)).2);
 let x3 : Int := w64 (x.1.2.1 + (1 : Int));
 ck (0 ≤ x.1.2.2.1)
 (ck (x.1.2.2.1.toNat < x2.length)
 (ck (x.1.2.2.1.toNat < x2.length)
 (let x4 : List (Int × Int) := x2.set x.1.2.2.1.toNat ((x2.getD x.1.2.2.1.toNat (0, 0)).1, x3);
 let x5 : Int := w64 (x3 + (1 : Int));
 let x6 : Int := w64 (x.1.2.2.1 + (1 : Int));
 some (.inl (((), x5, x6, ()), (), (x4, ()))))))))))
 (some (.inr (((), x.1.2.1, ()), (), (x.2.2.1, ()))))
def laws_markMatrixS_h0 : Sh := ⟨[(0, .c (.own 0)), (1, .c (.int .i64)), (5, .c (.int .i64))], [], [(0, .mat)]⟩
def laws_markMatrixS_r0 : List Sh := [⟨[(0, .c (.own 0)), (1, .c (.int .i64))], [], [(0, .mat)]⟩]
noncomputable def laws_markMatrixS_L0 : Lp := ⟨0, [], laws_markMatrixS_h0, [], [(.exit 0, [])], laws_markMatrixS_r0, loopC laws_markMatrixS_s0⟩
noncomputable def laws_markMatrixS (a1 : Int) (o0 : List (Int × Int)) : Option ((Int × Unit × Unit) × Unit × (List (Int × Int) × Unit)) :=
 (loopC laws_markMatrixS_s0 (((), a1, (0 : Int), ()), (), (o0, ()))).bind fun r7 =>
 some ((r7.1.2.1, (), ()), (), (r7.2.2.1, ()))
noncomputable def laws_markMatrixS_C : Ctr := ⟨43, laws_markMatrixS_arg, laws_markMatrixS_res, fun x => laws_markMatrixS x.1.2.1 x.2.2.1, none⟩
def laws_markMatrixS_H : Hint := ⟨[], [], [], fun _ => []⟩
noncomputable def laws_markMatrixS_T : List Ctr := []
noncomputable def laws_markMatrixS_Ls : List Lp := [laws_markMatrixS_L0]
theorem laws_markMatrixS_l0 : ∀ x, laws_markMatrixS_s0 x = stepW E0 laws_markMatrixS_T laws_markMatrixS_Ls laws_markMatrixS_H (loopAt (bodyOf Tryz.f43) 0) 0 laws_markMatrixS_h0 [] [(.exit 0, [])] laws_markMatrixS_r0 x := fun x => by kernel_rfl
theorem laws_markMatrixS_e : ∀ x, laws_markMatrixS_C.F x = runBodyW E0 laws_markMatrixS_T laws_markMatrixS_Ls laws_markMatrixS_H 43 Tryz.f43.results.toList (bodyOf Tryz.f43) [] (laws_markMatrixS_arg.mk' x) laws_markMatrixS_res := fun x => by kernel_rfl
theorem laws_markMatrixS_ok : laws_markMatrixS_C.Ok E0 := fn_ok (T := laws_markMatrixS_T) (h := laws_markMatrixS_H) (Ls := laws_markMatrixS_Ls) E0_mixed T_nil Tryz.func43 (bodyOf_some (by kernel_rfl)) (by kernel_rfl) (loops_of (ks := [0]) (by kernel_rfl) ⟨(loop_one (h := laws_markMatrixS_H) (own := []) (head := laws_markMatrixS_h0) (back := []) (exs := [(.exit 0, [])]) (res := laws_markMatrixS_r0) (step := laws_markMatrixS_s0) (by kernel_rfl) laws_markMatrixS_l0), trivial⟩) laws_markMatrixS_e
def laws_markMatrixSS_arg : Sh := ⟨[(0, .c (.own 0)), (1, .c (.int .i64))], [], [(0, .mats)]⟩
def laws_markMatrixSS_res : List Sh := [⟨[(0, .c (.int .i64)), (1, .c (.own 0))], [], [(0, .mats)]⟩]
noncomputable def laws_markMatrixSS_s0 (x : (Unit × Int × Int × Unit) × Unit × (List (List (Int × Int)) × Unit)) : Option (((Unit × Int × Int × Unit) × Unit × (List (List (Int × Int)) × Unit)) ⊕ ((Unit × Int × Unit) × Unit × (List (List (Int × Int)) × Unit))) :=
 let x1 : Bool := decide (x.1.2.2.1 < (x.2.2.1.length : Int));
 br x1
 (ck (0 ≤ x.1.2.2.1)
 (ck (x.1.2.2.1.toNat < x.2.2.1.length)
 (ck (x.1.2.2.1.toNat < x.2.2.1.length)
 (ck (x.1.2.2.1.toNat = x.1.2.2.1.toNat)
 (ck (x.1.2.2.1.toNat < x.2.2.1.length)
 (let x2 : List (Int × Int) := x.2.2.1.getD x.1.2.2.1.toNat [];
 ck (x.1.2.2.1.toNat = x.1.2.2.1.toNat ∧ x.1.2.2.1.toNat < x.2.2.1.length)
 ((laws_markMatrixS x.1.2.1 x2).bind fun r3 =>
 ck (x.1.2.2.1.toNat = x.1.2.2.1.toNat ∧ x.1.2.2.1.toNat < x.2.2.1.length)
 (let x4 : List (List (Int × Int)) := x.2.2.1.set x.1.2.2.1.toNat r3.2.2.1;
 let x5 : Int := w64 (x.1.2.2.1 + (1 : Int));
 some (.inl (((), r3.1.1, x5, ()), (), (x4, ())))))))))))
 (some (.inr (((), x.1.2.1, ()), (), (x.2.2.1, ()))))
def laws_markMatrixSS_h0 : Sh := ⟨[(0, .c (.own 0)), (1, .c (.int .i64)), (5, .c (.int .i64))], [], [(0, .mats)]⟩
def laws_markMatrixSS_r0 : List Sh := [⟨[(0, .c (.own 0)), (1, .c (.int .i64))], [], [(0, .mats)]⟩]
noncomputable def laws_markMatrixSS_L0 : Lp := ⟨0, [], laws_markMatrixSS_h0, [], [(.exit 0, [])], laws_markMatrixSS_r0, loopC laws_markMatrixSS_s0⟩
noncomputable def laws_markMatrixSS (a1 : Int) (o0 : List (List (Int × Int))) : Option ((Int × Unit × Unit) × Unit × (List (List (Int × Int)) × Unit)) :=
 (loopC laws_markMatrixSS_s0 (((), a1, (0 : Int), ()), (), (o0, ()))).bind fun r6 =>
 some ((r6.1.2.1, (), ()), (), (r6.2.2.1, ()))
noncomputable def laws_markMatrixSS_C : Ctr := ⟨42, laws_markMatrixSS_arg, laws_markMatrixSS_res, fun x => laws_markMatrixSS x.1.2.1 x.2.2.1, none⟩
def laws_markMatrixSS_H : Hint := ⟨[], [], [], fun _ => []⟩
noncomputable def laws_markMatrixSS_T : List Ctr := [laws_markMatrixS_C]
noncomputable def laws_markMatrixSS_Ls : List Lp := [laws_markMatrixSS_L0]
theorem laws_markMatrixSS_l0 : ∀ x, laws_markMatrixSS_s0 x = stepW E0 laws_markMatrixSS_T laws_markMatrixSS_Ls laws_markMatrixSS_H (loopAt (bodyOf Tryz.f42) 0) 0 laws_markMatrixSS_h0 [] [(.exit 0, [])] laws_markMatrixSS_r0 x := fun x => by kernel_rfl
theorem laws_markMatrixSS_e : ∀ x, laws_markMatrixSS_C.F x = runBodyW E0 laws_markMatrixSS_T laws_markMatrixSS_Ls laws_markMatrixSS_H 42 Tryz.f42.results.toList (bodyOf Tryz.f42) [] (laws_markMatrixSS_arg.mk' x) laws_markMatrixSS_res := fun x => by kernel_rfl
theorem laws_markMatrixSS_ok : laws_markMatrixSS_C.Ok E0 := fn_ok (T := laws_markMatrixSS_T) (h := laws_markMatrixSS_H) (Ls := laws_markMatrixSS_Ls) E0_mixed (T_cons laws_markMatrixS_ok T_nil) Tryz.func42 (bodyOf_some (by kernel_rfl)) (by kernel_rfl) (loops_of (ks := [0]) (by kernel_rfl) ⟨(loop_one (h := laws_markMatrixSS_H) (own := []) (head := laws_markMatrixSS_h0) (back := []) (exs := [(.exit 0, [])]) (res := laws_markMatrixSS_r0) (step := laws_markMatrixSS_s0) (by kernel_rfl) laws_markMatrixSS_l0), trivial⟩) laws_markMatrixSS_e
def laws_markMachine_arg : Sh := ⟨[(0, .agg [.str, .own 0, .own 1, .own 2, .int .i64, .int .i64, .int .i64, .int .i64, .own 3, .own 4]), (1, .c (.int .i64))], [], [(0, .i64), (1, .i64), (2, .mats), (3, .mat), (4, .mat)]⟩
def laws_markMachine_res : List Sh := [⟨[(0, .c (.int .i64)), (1, .agg [.str, .own 0, .own 1, .own 2, .int .i64, .int .i64, .int .i64, .int .i64, .own 3, .own 4])], [], [(0, .i64), (1, .i64), (2, .mats), (3, .mat), (4, .mat)]⟩]
noncomputable def laws_markMachine (a0_0 : ByteArray) (a0_4 : Int) (a0_5 : Int) (a0_6 : Int) (a0_7 : Int) (a1 : Int) (o0 : List Int) (o1 : List Int) (o2 : List (List (Int × Int))) (o3 : List (Int × Int)) (o4 : List (Int × Int)) : Option ((Int × (ByteArray × Unit × Unit × Unit × Int × Int × Int × Int × Unit × Unit × Unit) × Unit) × Unit × (List Int × List Int × List (List (Int × Int)) × List (Int × Int) × List (Int × Int) × Unit)) :=
 (laws_markFont a0_0 a1 o0 o1).bind fun r1 =>
 (laws_markMatrixSS r1.1.1 o2).bind fun r2 =>
 (laws_markMatrixS r2.1.1 o3).bind fun r3 =>
 (laws_markMatrixS r3.1.1 o4).bind fun r4 =>
 some ((r4.1.1, (a0_0, (), (), (), a0_4, a0_5, a0_6, a0_7, (), (), ()), ()), (), (r1.2.2.1, r1.2.2.2.1, r2.2.2.1, r3.2.2.1, r4.2.2.1, ()))
noncomputable def laws_markMachine_C : Ctr := ⟨19, laws_markMachine_arg, laws_markMachine_res, fun x => laws_markMachine x.1.1.1 x.1.1.2.2.2.2.1 x.1.1.2.2.2.2.2.1 x.1.1.2.2.2.2.2.2.1 x.1.1.2.2.2.2.2.2.2.1 x.1.2.1 x.2.2.1 x.2.2.2.1 x.2.2.2.2.1 x.2.2.2.2.2.1 x.2.2.2.2.2.2.1, none⟩
def laws_markMachine_H : Hint := ⟨[], [], [], fun _ => []⟩
noncomputable def laws_markMachine_T : List Ctr := [laws_markFont_C, laws_markMatrixSS_C, laws_markMatrixS_C]
noncomputable def laws_markMachine_Ls : List Lp := []
theorem laws_markMachine_e : ∀ x, laws_markMachine_C.F x = runBodyW E0 laws_markMachine_T laws_markMachine_Ls laws_markMachine_H 19 Tryz.f19.results.toList (bodyOf Tryz.f19) [] (laws_markMachine_arg.mk' x) laws_markMachine_res := fun x => by kernel_rfl
theorem laws_markMachine_ok : laws_markMachine_C.Ok E0 := fn_ok (T := laws_markMachine_T) (h := laws_markMachine_H) (Ls := laws_markMachine_Ls) E0_mixed (T_cons laws_markFont_ok (T_cons laws_markMatrixSS_ok (T_cons laws_markMatrixS_ok T_nil))) Tryz.func19 (bodyOf_some (by kernel_rfl)) (by kernel_rfl) (loops_of (ks := []) (by kernel_rfl) trivial) laws_markMachine_e
def laws_markText_arg : Sh := ⟨[(0, .c (.int .i64))], [], []⟩
def laws_markText_res : List Sh := [⟨[(0, .c (.str))], [], []⟩]
noncomputable def laws_markText_s0 (x : (Int × ByteArray × Unit) × Unit × Unit) : Option (((Int × ByteArray × Unit) × Unit × Unit) ⊕ ((ByteArray × Unit) × Unit × Unit)) :=
 let x2 : Bool := decide (x.1.1 > (0 : Int));
 br x2
 (let x3 : Int := x.1.1.tmod (10 : Int);
 let x4 : Int := w64 ((48 : Int) + x3);
 let x5 : Int := IntKind.u8.wrap x4;
 let x6 : ByteArray := ofBytes [x5];
 ck (((x6.size + x.1.2.1.size : Nat) : Int) ≤ IntKind.i64.max)
 (let x7 : ByteArray := x6 ++ x.1.2.1;
 let x8 : Int := w64 (x.1.1.tdiv (10 : Int));
 some (.inl ((x8, x7, ()), (), ()))))
 (some (.inr ((x.1.2.1, ()), (), ())))
def laws_markText_h0 : Sh := ⟨[(0, .c (.int .i64)), (3, .c (.str))], [], []⟩
def laws_markText_r0 : List Sh := [⟨[(3, .c (.str))], [], []⟩]
noncomputable def laws_markText_L0 : Lp := ⟨0, [], laws_markText_h0, [], [(.exit 0, [])], laws_markText_r0, loopC laws_markText_s0⟩
noncomputable def laws_markText (a0 : Int) : Option ((ByteArray × Unit) × Unit × Unit) :=
 let x1 : Bool := decide (a0 ≤ (0 : Int));
 br x1
 (some (((ByteArray.mk #[109, 48]), ()), (), ()))
 ((loopC laws_markText_s0 ((a0, ByteArray.empty, ()), (), ())).bind fun r9 =>
 ck ((((ByteArray.mk #[109]).size + r9.1.1.size : Nat) : Int) ≤ IntKind.i64.max)
 (let x10 : ByteArray := (ByteArray.mk #[109]) ++ r9.1.1;
 some ((x10, ()), (), ())))
noncomputable def laws_markText_C : Ctr := ⟨44, laws_markText_arg, laws_markText_res, fun x => laws_markText x.1.1, none⟩
def laws_markText_H : Hint := ⟨[], [], [], fun _ => []⟩
noncomputable def laws_markText_T : List Ctr := []
noncomputable def laws_markText_Ls : List Lp := [laws_markText_L0]
theorem laws_markText_l0 : ∀ x, laws_markText_s0 x = stepW E0 laws_markText_T laws_markText_Ls laws_markText_H (loopAt (bodyOf Tryz.f44) 0) 0 laws_markText_h0 [] [(.exit 0, [])] laws_markText_r0 x := fun x => by kernel_rfl
theorem laws_markText_e : ∀ x, laws_markText_C.F x = runBodyW E0 laws_markText_T laws_markText_Ls laws_markText_H 44 Tryz.f44.results.toList (bodyOf Tryz.f44) [] (laws_markText_arg.mk' x) laws_markText_res := fun x => by kernel_rfl
theorem laws_markText_ok : laws_markText_C.Ok E0 := fn_ok (T := laws_markText_T) (h := laws_markText_H) (Ls := laws_markText_Ls) E0_mixed T_nil Tryz.func44 (bodyOf_some (by kernel_rfl)) (by kernel_rfl) (loops_of (ks := [0]) (by kernel_rfl) ⟨(loop_one (h := laws_markText_H) (own := []) (head := laws_markText_h0) (back := []) (exs := [(.exit 0, [])]) (res := laws_markText_r0) (step := laws_markText_s0) (by kernel_rfl) laws_markText_l0), trivial⟩) laws_markText_e
def laws_markStringS_arg : Sh := ⟨[(0, .c (.own 0)), (1, .c (.int .i64))], [], [(0, .str)]⟩
def laws_markStringS_res : List Sh := [⟨[(0, .c (.int .i64)), (1, .c (.own 0))], [], [(0, .str)]⟩]
noncomputable def laws_markStringS_s0 (x : (Unit × Int × Int × Unit) × Unit × (List ByteArray × Unit)) : Option (((Unit × Int × Int × Unit) × Unit × (List ByteArray × Unit)) ⊕ ((Unit × Int × Unit) × Unit × (List ByteArray × Unit))) :=
 let x1 : Bool := decide (x.1.2.2.1 < (x.2.2.1.length : Int));
 br x1
 ((laws_markText x.1.2.1).bind fun r2 =>
 ck (0 ≤ x.1.2.2.1)
 (ck (x.1.2.2.1.toNat < x.2.2.1.length)
 (ck (x.1.2.2.1.toNat < x.2.2.1.length)
 (let x3 : List ByteArray := x.2.2.1.set x.1.2.2.1.toNat r2.1.1;
 let x4 : Int := w64 (x.1.2.1 + (1 : Int));
 let x5 : Int := w64 (x.1.2.2.1 + (1 : Int));
 some (.inl (((), x4, x5, ()), (), (x3, ())))))))
 (some (.inr (((), x.1.2.1, ()), (), (x.2.2.1, ()))))
def laws_markStringS_h0 : Sh := ⟨[(0, .c (.own 0)), (1, .c (.int .i64)), (5, .c (.int .i64))], [], [(0, .str)]⟩
def laws_markStringS_r0 : List Sh := [⟨[(0, .c (.own 0)), (1, .c (.int .i64))], [], [(0, .str)]⟩]
noncomputable def laws_markStringS_L0 : Lp := ⟨0, [], laws_markStringS_h0, [], [(.exit 0, [])], laws_markStringS_r0, loopC laws_markStringS_s0⟩
noncomputable def laws_markStringS (a1 : Int) (o0 : List ByteArray) : Option ((Int × Unit × Unit) × Unit × (List ByteArray × Unit)) :=
 (loopC laws_markStringS_s0 (((), a1, (0 : Int), ()), (), (o0, ()))).bind fun r6 =>
 some ((r6.1.2.1, (), ()), (), (r6.2.2.1, ()))
noncomputable def laws_markStringS_C : Ctr := ⟨20, laws_markStringS_arg, laws_markStringS_res, fun x => laws_markStringS x.1.2.1 x.2.2.1, none⟩
def laws_markStringS_H : Hint := ⟨[], [], [], fun _ => []⟩
noncomputable def laws_markStringS_T : List Ctr := [laws_markText_C]
noncomputable def laws_markStringS_Ls : List Lp := [laws_markStringS_L0]
theorem laws_markStringS_l0 : ∀ x, laws_markStringS_s0 x = stepW E0 laws_markStringS_T laws_markStringS_Ls laws_markStringS_H (loopAt (bodyOf Tryz.f20) 0) 0 laws_markStringS_h0 [] [(.exit 0, [])] laws_markStringS_r0 x := fun x => by kernel_rfl
theorem laws_markStringS_e : ∀ x, laws_markStringS_C.F x = runBodyW E0 laws_markStringS_T laws_markStringS_Ls laws_markStringS_H 20 Tryz.f20.results.toList (bodyOf Tryz.f20) [] (laws_markStringS_arg.mk' x) laws_markStringS_res := fun x => by kernel_rfl
theorem laws_markStringS_ok : laws_markStringS_C.Ok E0 := fn_ok (T := laws_markStringS_T) (h := laws_markStringS_H) (Ls := laws_markStringS_Ls) E0_mixed (T_cons laws_markText_ok T_nil) Tryz.func20 (bodyOf_some (by kernel_rfl)) (by kernel_rfl) (loops_of (ks := [0]) (by kernel_rfl) ⟨(loop_one (h := laws_markStringS_H) (own := []) (head := laws_markStringS_h0) (back := []) (exs := [(.exit 0, [])]) (res := laws_markStringS_r0) (step := laws_markStringS_s0) (by kernel_rfl) laws_markStringS_l0), trivial⟩) laws_markStringS_e
def laws_heldIntS_arg : Sh := ⟨[(0, .c (.rd [] .i64)), (1, .c (.int .i64))], [], []⟩
def laws_heldIntS_res : List Sh := [⟨[(0, .c (.int .i64))], [], []⟩]
noncomputable def laws_heldIntS_s0 (x : (List Int × Int × Int × Unit) × Unit × Unit) : Option (((List Int × Int × Int × Unit) × Unit × Unit) ⊕ (((Int × Unit) × Unit × Unit) ⊕ ((Int × Unit) × Unit × Unit))) :=
 let x1 : Bool := decide (x.1.2.2.1 < (x.1.1.length : Int));
 br x1
 (ck (0 ≤ x.1.2.2.1)
 (ck (x.1.2.2.1.toNat < x.1.1.length)
 (let x2 : Int := x.1.1.getD x.1.2.2.1.toNat 0;
 let x3 : Bool := x2 != x.1.2.1;
 br x3
 (some (.inr (.inl (((-1 : Int), ()), (), ()))))
 (let x4 : Int := w64 (x.1.2.1 + (1 : Int));
 let x5 : Int := w64 (x.1.2.2.1 + (1 : Int));
 some (.inl ((x.1.1, x4, x5, ()), (), ()))))))
 (some (.inr (.inr ((x.1.2.1, ()), (), ()))))
def laws_heldIntS_h0 : Sh := ⟨[(0, .c (.rd [] .i64)), (1, .c (.int .i64)), (5, .c (.int .i64))], [], []⟩
def laws_heldIntS_r0 : List Sh := [⟨[(4, .c (.int .i64))], [], []⟩, ⟨[(1, .c (.int .i64))], [], []⟩]
noncomputable def laws_heldIntS_L0 : Lp := ⟨0, [], laws_heldIntS_h0, [], [(.ret, []), (.exit 0, [])], laws_heldIntS_r0, loopC laws_heldIntS_s0⟩
noncomputable def laws_heldIntS (a0 : List Int) (a1 : Int) : Option ((Int × Unit) × Unit × Unit) :=
 (loopC laws_heldIntS_s0 ((a0, a1, (0 : Int), ()), (), ())).bind fun r6 =>
 sumK r6 (fun y9 =>
 some ((y9.1.1, ()), (), ())) (fun y10 =>
 some ((y10.1.1, ()), (), ()))
noncomputable def laws_heldIntS_C : Ctr := ⟨23, laws_heldIntS_arg, laws_heldIntS_res, fun x => laws_heldIntS x.1.1 x.1.2.1, none⟩
def laws_heldIntS_H : Hint := ⟨[], [], [], fun _ => []⟩
noncomputable def laws_heldIntS_T : List Ctr := []
noncomputable def laws_heldIntS_Ls : List Lp := [laws_heldIntS_L0]
theorem laws_heldIntS_l0 : ∀ x, laws_heldIntS_s0 x = stepW E0 laws_heldIntS_T laws_heldIntS_Ls laws_heldIntS_H (loopAt (bodyOf Tryz.f23) 0) 0 laws_heldIntS_h0 [] [(.ret, []), (.exit 0, [])] laws_heldIntS_r0 x := fun x => by kernel_rfl
theorem laws_heldIntS_e : ∀ x, laws_heldIntS_C.F x = runBodyW E0 laws_heldIntS_T laws_heldIntS_Ls laws_heldIntS_H 23 Tryz.f23.results.toList (bodyOf Tryz.f23) [] (laws_heldIntS_arg.mk' x) laws_heldIntS_res := fun x => by kernel_rfl
theorem laws_heldIntS_ok : laws_heldIntS_C.Ok E0 := fn_ok (T := laws_heldIntS_T) (h := laws_heldIntS_H) (Ls := laws_heldIntS_Ls) E0_mixed T_nil Tryz.func23 (bodyOf_some (by kernel_rfl)) (by kernel_rfl) (loops_of (ks := [0]) (by kernel_rfl) ⟨(loop_one (h := laws_heldIntS_H) (own := []) (head := laws_heldIntS_h0) (back := []) (exs := [(.ret, []), (.exit 0, [])]) (res := laws_heldIntS_r0) (step := laws_heldIntS_s0) (by kernel_rfl) laws_heldIntS_l0), trivial⟩) laws_heldIntS_e
def laws_heldFont_arg : Sh := ⟨[(0, .agg [.str, .rd [] .i64, .rd [] .i64]), (1, .c (.int .i64))], [], []⟩
def laws_heldFont_res : List Sh := [⟨[(0, .c (.int .i64))], [], []⟩]
noncomputable def laws_heldFont (a0_0 : ByteArray) (a0_1 : List Int) (a0_2 : List Int) (a1 : Int) : Option ((Int × Unit) × Unit × Unit) :=
 (laws_heldIntS a0_1 a1).bind fun r1 =>
 let x2 : Bool := decide (r1.1.1 < (0 : Int));
 br x2
 (some (((-1 : Int), ()), (), ()))
 ((laws_heldIntS a0_2 r1.1.1).bind fun r3 =>
 let x4 : Bool := decide (r3.1.1 < (0 : Int));
 br x4
 (some (((-1 : Int), ()), (), ()))
 (some ((r3.1.1, ()), (), ())))
noncomputable def laws_heldFont_C : Ctr := ⟨45, laws_heldFont_arg, laws_heldFont_res, fun x => laws_heldFont x.1.1.1 x.1.1.2.1 x.1.1.2.2.1 x.1.2.1, none⟩
def laws_heldFont_H : Hint := ⟨[], [], [], fun _ => []⟩
noncomputable def laws_heldFont_T : List Ctr := [laws_heldIntS_C]
noncomputable def laws_heldFont_Ls : List Lp := []
theorem laws_heldFont_e : ∀ x, laws_heldFont_C.F x = runBodyW E0 laws_heldFont_T laws_heldFont_Ls laws_heldFont_H 45 Tryz.f45.results.toList (bodyOf Tryz.f45) [] (laws_heldFont_arg.mk' x) laws_heldFont_res := fun x => by kernel_rfl
theorem laws_heldFont_ok : laws_heldFont_C.Ok E0 := fn_ok (T := laws_heldFont_T) (h := laws_heldFont_H) (Ls := laws_heldFont_Ls) E0_mixed (T_cons laws_heldIntS_ok T_nil) Tryz.func45 (bodyOf_some (by kernel_rfl)) (by kernel_rfl) (loops_of (ks := []) (by kernel_rfl) trivial) laws_heldFont_e
def laws_heldMatrixS_arg : Sh := ⟨[(0, .c (.rd [] .mat)), (1, .c (.int .i64))], [], []⟩
def laws_heldMatrixS_res : List Sh := [⟨[(0, .c (.int .i64))], [], []⟩]
noncomputable def laws_heldMatrixS_s0 (x : (List (Int × Int) × Int × Int × Unit) × Unit × Unit) : Option (((List (Int × Int) × Int × Int × Unit) × Unit × Unit) ⊕ (((Int × Unit) × Unit × Unit) ⊕ ((Int × Unit) × Unit × Unit))) :=
 let x1 : Bool := decide (x.1.2.2.1 < (x.1.1.length : Int));
 br x1
 (ck (0 ≤ x.1.2.2.1)
 (ck (x.1.2.2.1.toNat < x.1.1.length)
 (let x2 : Int × Int := x.1.1.getD x.1.2.2.1.toNat (0, 0);
 let x3 : Bool := x2.1 != x.1.2.1;
 br x3
 (some (.inr (.inl (((-1 : Int), ()), (), ()))))
 (let x4 : Int := w64 (x.1.2.1 + (1 : Int));
 ck (0 ≤ x.1.2.2.1)
 (ck (x.1.2.2.1.toNat < x.1.1.length)
 (let x5 : Bool := x2.2 != x4;
 br x5
 (some (.inr (.inl (((-1 : Int), ()), (), ()))))
 (let x6 : Int := w64 (x4 + (1 : Int));
 let x7 : Int := w64 (x.1.2.2.1 + (1 : Int));
 some (.inl ((x.1.1, x6, x7, ()), (), ())))))))))
 (some (.inr (.inr ((x.1.2.1, ()), (), ()))))
def laws_heldMatrixS_h0 : Sh := ⟨[(0, .c (.rd [] .mat)), (1, .c (.int .i64)), (5, .c (.int .i64))], [], []⟩
def laws_heldMatrixS_r0 : List Sh := [⟨[(4, .c (.int .i64))], [], []⟩, ⟨[(1, .c (.int .i64))], [], []⟩]
noncomputable def laws_heldMatrixS_L0 : Lp := ⟨0, [], laws_heldMatrixS_h0, [], [(.ret, []), (.exit 0, [])], laws_heldMatrixS_r0, loopC laws_heldMatrixS_s0⟩
noncomputable def laws_heldMatrixS (a0 : List (Int × Int)) (a1 : Int) : Option ((Int × Unit) × Unit × Unit) :=
 (loopC laws_heldMatrixS_s0 ((a0, a1, (0 : Int), ()), (), ())).bind fun r8 =>
 sumK r8 (fun y11 =>
 some ((y11.1.1, ()), (), ())) (fun y12 =>
 some ((y12.1.1, ()), (), ()))
noncomputable def laws_heldMatrixS_C : Ctr := ⟨47, laws_heldMatrixS_arg, laws_heldMatrixS_res, fun x => laws_heldMatrixS x.1.1 x.1.2.1, none⟩
def laws_heldMatrixS_H : Hint := ⟨[], [], [], fun _ => []⟩
noncomputable def laws_heldMatrixS_T : List Ctr := []
noncomputable def laws_heldMatrixS_Ls : List Lp := [laws_heldMatrixS_L0]
theorem laws_heldMatrixS_l0 : ∀ x, laws_heldMatrixS_s0 x = stepW E0 laws_heldMatrixS_T laws_heldMatrixS_Ls laws_heldMatrixS_H (loopAt (bodyOf Tryz.f47) 0) 0 laws_heldMatrixS_h0 [] [(.ret, []), (.exit 0, [])] laws_heldMatrixS_r0 x := fun x => by kernel_rfl
theorem laws_heldMatrixS_e : ∀ x, laws_heldMatrixS_C.F x = runBodyW E0 laws_heldMatrixS_T laws_heldMatrixS_Ls laws_heldMatrixS_H 47 Tryz.f47.results.toList (bodyOf Tryz.f47) [] (laws_heldMatrixS_arg.mk' x) laws_heldMatrixS_res := fun x => by kernel_rfl
theorem laws_heldMatrixS_ok : laws_heldMatrixS_C.Ok E0 := fn_ok (T := laws_heldMatrixS_T) (h := laws_heldMatrixS_H) (Ls := laws_heldMatrixS_Ls) E0_mixed T_nil Tryz.func47 (bodyOf_some (by kernel_rfl)) (by kernel_rfl) (loops_of (ks := [0]) (by kernel_rfl) ⟨(loop_one (h := laws_heldMatrixS_H) (own := []) (head := laws_heldMatrixS_h0) (back := []) (exs := [(.ret, []), (.exit 0, [])]) (res := laws_heldMatrixS_r0) (step := laws_heldMatrixS_s0) (by kernel_rfl) laws_heldMatrixS_l0), trivial⟩) laws_heldMatrixS_e
def laws_heldMatrixSS_arg : Sh := ⟨[(0, .c (.rd [] .mats)), (1, .c (.int .i64))], [], []⟩
def laws_heldMatrixSS_res : List Sh := [⟨[(0, .c (.int .i64))], [], []⟩]
noncomputable def laws_heldMatrixSS_s0 (x : (List (List (Int × Int)) × Int × Int × Unit) × Unit × Unit) : Option (((List (List (Int × Int)) × Int × Int × Unit) × Unit × Unit) ⊕ (((Int × Unit) × Unit × Unit) ⊕ ((Int × Unit) × Unit × Unit))) :=
 let x1 : Bool := decide (x.1.2.2.1 < (x.1.1.length : Int));
 br x1
 (ck (0 ≤ x.1.2.2.1)
 (ck (x.1.2.2.1.toNat < x.1.1.length)
 (let x2 : List (Int × Int) := x.1.1.getD x.1.2.2.1.toNat [];
 (laws_heldMatrixS x2 x.1.2.1).bind fun r3 =>
 let x4 : Bool := decide (r3.1.1 < (0 : Int));
 br x4
 (some (.inr (.inl (((-1 : Int), ()), (), ()))))
 (let x5 : Int := w64 (x.1.2.2.1 + (1 : Int));
 some (.inl ((x.1.1, r3.1.1, x5, ()), (), ()))))))
 (some (.inr (.inr ((x.1.2.1, ()), (), ()))))
def laws_heldMatrixSS_h0 : Sh := ⟨[(0, .c (.rd [] .mats)), (1, .c (.int .i64)), (5, .c (.int .i64))], [], []⟩
def laws_heldMatrixSS_r0 : List Sh := [⟨[(4, .c (.int .i64))], [], []⟩, ⟨[(1, .c (.int .i64))], [], []⟩]
noncomputable def laws_heldMatrixSS_L0 : Lp := ⟨0, [], laws_heldMatrixSS_h0, [], [(.ret, []), (.exit 0, [])], laws_heldMatrixSS_r0, loopC laws_heldMatrixSS_s0⟩
noncomputable def laws_heldMatrixSS (a0 : List (List (Int × Int))) (a1 : Int) : Option ((Int × Unit) × Unit × Unit) :=
 (loopC laws_heldMatrixSS_s0 ((a0, a1, (0 : Int), ()), (), ())).bind fun r6 =>
 sumK r6 (fun y9 =>
 some ((y9.1.1, ()), (), ())) (fun y10 =>
 some ((y10.1.1, ()), (), ()))
noncomputable def laws_heldMatrixSS_C : Ctr := ⟨46, laws_heldMatrixSS_arg, laws_heldMatrixSS_res, fun x => laws_heldMatrixSS x.1.1 x.1.2.1, none⟩
def laws_heldMatrixSS_H : Hint := ⟨[], [], [], fun _ => []⟩
noncomputable def laws_heldMatrixSS_T : List Ctr := [laws_heldMatrixS_C]
noncomputable def laws_heldMatrixSS_Ls : List Lp := [laws_heldMatrixSS_L0]
theorem laws_heldMatrixSS_l0 : ∀ x, laws_heldMatrixSS_s0 x = stepW E0 laws_heldMatrixSS_T laws_heldMatrixSS_Ls laws_heldMatrixSS_H (loopAt (bodyOf Tryz.f46) 0) 0 laws_heldMatrixSS_h0 [] [(.ret, []), (.exit 0, [])] laws_heldMatrixSS_r0 x := fun x => by kernel_rfl
theorem laws_heldMatrixSS_e : ∀ x, laws_heldMatrixSS_C.F x = runBodyW E0 laws_heldMatrixSS_T laws_heldMatrixSS_Ls laws_heldMatrixSS_H 46 Tryz.f46.results.toList (bodyOf Tryz.f46) [] (laws_heldMatrixSS_arg.mk' x) laws_heldMatrixSS_res := fun x => by kernel_rfl
theorem laws_heldMatrixSS_ok : laws_heldMatrixSS_C.Ok E0 := fn_ok (T := laws_heldMatrixSS_T) (h := laws_heldMatrixSS_H) (Ls := laws_heldMatrixSS_Ls) E0_mixed (T_cons laws_heldMatrixS_ok T_nil) Tryz.func46 (bodyOf_some (by kernel_rfl)) (by kernel_rfl) (loops_of (ks := [0]) (by kernel_rfl) ⟨(loop_one (h := laws_heldMatrixSS_H) (own := []) (head := laws_heldMatrixSS_h0) (back := []) (exs := [(.ret, []), (.exit 0, [])]) (res := laws_heldMatrixSS_r0) (step := laws_heldMatrixSS_s0) (by kernel_rfl) laws_heldMatrixSS_l0), trivial⟩) laws_heldMatrixSS_e
def laws_heldMachine_arg : Sh := ⟨[(0, .agg [.str, .rd [] .i64, .rd [] .i64, .rd [] .mats, .int .i64, .int .i64, .int .i64, .int .i64, .rd [] .mat, .rd [] .mat]), (1, .c (.int .i64))], [], []⟩
def laws_heldMachine_res : List Sh := [⟨[(0, .c (.int .i64))], [], []⟩]
noncomputable def laws_heldMachine (a0_0 : ByteArray) (a0_1 : List Int) (a0_2 : List Int) (a0_3 : List (List (Int × Int))) (a0_4 : Int) (a0_5 : Int) (a0_6 : Int) (a0_7 : Int) (a0_8 : List (Int × Int)) (a0_9 : List (Int × Int)) (a1 : Int) : Option ((Int × Unit) × Unit × Unit) :=
 (laws_heldFont a0_0 a0_1 a0_2 a1).bind fun r1 =>
 let x2 : Bool := decide (r1.1.1 < (0 : Int));
 br x2
 (some (((-1 : Int), ()), (), ()))
 ((laws_heldMatrixSS a0_3 r1.1.1).bind fun r3 =>
 let x4 : Bool := decide (r3.1.1 < (0 : Int));
 br x4
 (some (((-1 : Int), ()), (), ()))
 ((laws_heldMatrixS a0_8 r3.1.1).bind fun r5 =>
 let x6 : Bool := decide (r5.1.1 < (0 : Int));
 br x6
 (some (((-1 : Int), ()), (), ()))
 ((laws_heldMatrixS a0_9 r5.1.1).bind fun r7 =>
 let x8 : Bool := decide (r7.1.1 < (0 : Int));
 br x8
 (some (((-1 : Int), ()), (), ()))
 (some ((r7.1.1, ()), (), ())))))
noncomputable def laws_heldMachine_C : Ctr := ⟨22, laws_heldMachine_arg, laws_heldMachine_res, fun x => laws_heldMachine x.1.1.1 x.1.1.2.1 x.1.1.2.2.1 x.1.1.2.2.2.1 x.1.1.2.2.2.2.1 x.1.1.2.2.2.2.2.1 x.1.1.2.2.2.2.2.2.1 x.1.1.2.2.2.2.2.2.2.1 x.1.1.2.2.2.2.2.2.2.2.1 x.1.1.2.2.2.2.2.2.2.2.2.1 x.1.2.1, none⟩
def laws_heldMachine_H : Hint := ⟨[], [], [], fun _ => []⟩
noncomputable def laws_heldMachine_T : List Ctr := [laws_heldFont_C, laws_heldMatrixSS_C, laws_heldMatrixS_C]
noncomputable def laws_heldMachine_Ls : List Lp := []
theorem laws_heldMachine_e : ∀ x, laws_heldMachine_C.F x = runBodyW E0 laws_heldMachine_T laws_heldMachine_Ls laws_heldMachine_H 22 Tryz.f22.results.toList (bodyOf Tryz.f22) [] (laws_heldMachine_arg.mk' x) laws_heldMachine_res := fun x => by kernel_rfl
theorem laws_heldMachine_ok : laws_heldMachine_C.Ok E0 := fn_ok (T := laws_heldMachine_T) (h := laws_heldMachine_H) (Ls := laws_heldMachine_Ls) E0_mixed (T_cons laws_heldFont_ok (T_cons laws_heldMatrixSS_ok (T_cons laws_heldMatrixS_ok T_nil))) Tryz.func22 (bodyOf_some (by kernel_rfl)) (by kernel_rfl) (loops_of (ks := []) (by kernel_rfl) trivial) laws_heldMachine_e
def laws_FnExactCastGalley_arg : Sh := ⟨[(0, .agg [.str, .rd [] .i64, .rd [] .i64, .rd [] .mats, .int .i64, .int .i64, .int .i64, .int .i64, .rd [] .mat, .rd [] .mat]), (1, .c (.rd [] .str))], [], []⟩
def laws_FnExactCastGalley_res : List Sh := [⟨[(0, .c (.bool))], [], []⟩]
noncomputable def laws_FnExactCastGalley (a0_0 : ByteArray) (a0_1 : List Int) (a0_2 : List Int) (a0_3 : List (List (Int × Int))) (a0_4 : Int) (a0_5 : Int) (a0_6 : Int) (a0_7 : Int) (a0_8 : List (Int × Int)) (a0_9 : List (Int × Int)) (a1 : List ByteArray) : Option ((Bool × Unit) × Unit × Unit) :=
 (laws_szMachine a0_0 a0_1 a0_2 a0_3 a0_4 a0_5 a0_6 a0_7 a0_8 a0_9 (1048576 : Int)).bind fun r1 =>
 let x2 : Bool := decide (r1.1.1 < (0 : Int));
 br x2
 (some ((true, ()), (), ()))
 ((laws_szStringS a1 r1.1.1).bind fun r3 =>
 let x4 : Bool := decide (r3.1.1 < (0 : Int));
 br x4
 (some ((true, ()), (), ()))
 ((laws_toMachine a0_0 a0_1 a0_2 a0_3 a0_4 a0_5 a0_6 a0_7 a0_8 a0_9).bind fun r5 =>
 (laws_toStringS a1).bind fun r6 =>
 (spec_CastGalley r5.1.1.1 r5.2.2.1 r5.2.2.2.1 r5.2.2.2.2.1 r5.1.1.2.2.2.2.1 r5.1.1.2.2.2.2.2.1 r5.1.1.2.2.2.2.2.2.1 r5.1.1.2.2.2.2.2.2.2.1 r5.2.2.2.2.2.1 r5.2.2.2.2.2.2.1 r6.2.2.1).bind fun r7 =>
 (laws_toMachine a0_0 a0_1 a0_2 a0_3 a0_4 a0_5 a0_6 a0_7 a0_8 a0_9).bind fun r8 =>
 (laws_toStringS a1).bind fun r9 =>
 (impl_CastGalley r8.1.1.1 r8.2.2.1 r8.2.2.2.1 r8.2.2.2.2.1 r8.1.1.2.2.2.2.1 r8.1.1.2.2.2.2.2.1 r8.1.1.2.2.2.2.2.2.1 r8.1.1.2.2.2.2.2.2.2.1 r8.2.2.2.2.2.1 r8.2.2.2.2.2.2.1 r9.2.2.1).bind fun r10 =>
 (laws_eqMachine r10.1.1.1 r10.2.2.1 r10.2.2.2.1 r10.2.2.2.2.1 r10.1.1.2.2.2.2.1 r10.1.1.2.2.2.2.2.1 r10.1.1.2.2.2.2.2.2.1 r10.1.1.2.2.2.2.2.2.2.1 r10.2.2.2.2.2.1 r10.2.2.2.2.2.2.1 r7.1.1.1 r7.2.2.1 r7.2.2.2.1 r7.2.2.2.2.1 r7.1.1.2.2.2.2.1 r7.1.1.2.2.2.2.2.1 r7.1.1.2.2.2.2.2.2.1 r7.1.1.2.2.2.2.2.2.2.1 r7.2.2.2.2.2.1 r7.2.2.2.2.2.2.1).bind fun r11 =>
 br (!r11.1.1)
 (some ((false, ()), (), ()))
 ((laws_eqIntS r10.2.2.2.2.2.2.2.1 r7.2.2.2.2.2.2.2.1).bind fun r12 =>
 br (!r12.1.1)
 (some ((false, ()), (), ()))
 (let x13 : Bool := r10.1.2.2.1 != r7.1.2.2.1;
 br x13
 (some ((false, ()), (), ()))
 ((laws_toMachine a0_0 a0_1 a0_2 a0_3 a0_4 a0_5 a0_6 a0_7 a0_8 a0_9).bind fun r14 =>
 (laws_eqMachine r8.1.1.1 r8.2.2.1 r8.2.2.2.1 r8.2.2.2.2.1 r8.1.1.2.2.2.2.1 r8.1.1.2.2.2.2.2.1 r8.1.1.2.2.2.2.2.2.1 r8.1.1.2.2.2.2.2.2.2.1 r8.2.2.2.2.2.1 r8.2.2.2.2.2.2.1 r14.1.1.1 r14.2.2.1 r14.2.2.2.1 r14.2.2.2.2.1 r14.1.1.2.2.2.2.1 r14.1.1.2.2.2.2.2.1 r14.1.1.2.2.2.2.2.2.1 r14.1.1.2.2.2.2.2.2.2.1 r14.2.2.2.2.2.1 r14.2.2.2.2.2.2.1).bind fun r15 =>
 br (!r15.1.1)
 (some ((false, ()), (), ()))
 ((laws_toStringS a1).bind fun r16 =>
 (laws_eqStringS r9.2.2.1 r16.2.2.1).bind fun r17 =>
 br (!r17.1.1)
 (some ((false, ()), (), ()))
 ((laws_markMachine r8.1.1.1 r8.1.1.2.2.2.2.1 r8.1.1.2.2.2.2.2.1 r8.1.1.2.2.2.2.2.2.1 r8.1.1.2.2.2.2.2.2.2.1 (1 : Int) r8.2.2.1 r8.2.2.2.1 r8.2.2.2.2.1 r8.2.2.2.2.2.1 r8.2.2.2.2.2.2.1).bind fun r18 =>
 (laws_markStringS r18.1.1 r9.2.2.1).bind fun r19 =>
 let x20 : Bool := decide (r19.1.1 < (0 : Int));
 br x20
 (some ((false, ()), (), ()))
 ((laws_eqMachine r10.1.1.1 r10.2.2.1 r10.2.2.2.1 r10.2.2.2.2.1 r10.1.1.2.2.2.2.1 r10.1.1.2.2.2.2.2.1 r10.1.1.2.2.2.2.2.2.1 r10.1.1.2.2.2.2.2.2.2.1 r10.2.2.2.2.2.1 r10.2.2.2.2.2.2.1 r7.1.1.1 r7.2.2.1 r7.2.2.2.1 r7.2.2.2.2.1 r7.1.1.2.2.2.2.1 r7.1.1.2.2.2.2.2.1 r7.1.1.2.2.2.2.2.2.1 r7.1.1.2.2.2.2.2.2.2.1 r7.2.2.2.2.2.1 r7.2.2.2.2.2.2.1).bind fun r21 =>
 br (!r21.1.1)
 (some ((false, ()), (), ()))
 ((laws_eqIntS r10.2.2.2.2.2.2.2.1 r7.2.2.2.2.2.2.2.1).bind fun r22 =>
 br (!r22.1.1)
 (some ((false, ()), (), ()))
 (br x13
 (some ((false, ()), (), ()))
 ((laws_markMachine r10.1.1.1 r10.1.1.2.2.2.2.1 r10.1.1.2.2.2.2.2.1 r10.1.1.2.2.2.2.2.2.1 r10.1.1.2.2.2.2.2.2.2.1 (1 : Int) r10.2.2.1 r10.2.2.2.1 r10.2.2.2.2.1 r10.2.2.2.2.2.1 r10.2.2.2.2.2.2.1).bind fun r23 =>
 (laws_markIntS r23.1.1 r10.2.2.2.2.2.2.2.1).bind fun r24 =>
 (laws_heldMachine r10.1.1.1 r23.2.2.1 r23.2.2.2.1 r23.2.2.2.2.1 r10.1.1.2.2.2.2.1 r10.1.1.2.2.2.2.2.1 r10.1.1.2.2.2.2.2.2.1 r10.1.1.2.2.2.2.2.2.2.1 r23.2.2.2.2.2.1 r23.2.2.2.2.2.2.1 (1 : Int)).bind fun r25 =>
 let x26 : Bool := decide (r25.1.1 < (0 : Int));
 br x26
 (some ((false, ()), (), ()))
 ((laws_heldIntS r24.2.2.1 r25.1.1).bind fun r27 =>
 let x28 : Bool := decide (r27.1.1 < (0 : Int));
 br x28
 (some ((false, ()), (), ()))
 (let x29 : Bool := r27.1.1 != r24.1.1;
 br x29
 (some ((false, ()), (), ()))
 ((laws_toMachine a0_0 a0_1 a0_2 a0_3 a0_4 a0_5 a0_6 a0_7 a0_8 a0_9).bind fun r30 =>
 (laws_toStringS a1).bind fun r31 =>
 (impl_CastGalley r30.1.1.1 r30.2.2.1 r30.2.2.2.1 r30.2.2.2.2.1 r30.1.1.2.2.2.2.1 r30.1.1.2.2.2.2.2.1 r30.1.1.2.2.2.2.2.2.1 r30.1.1.2.2.2.2.2.2.2.1 r30.2.2.2.2.2.1 r30.2.2.2.2.2.2.1 r31.2.2.1).bind fun r32 =>
 (laws_eqMachine r32.1.1.1 r32.2.2.1 r32.2.2.2.1 r32.2.2.2.2.1 r32.1.1.2.2.2.2.1 r32.1.1.2.2.2.2.2.1 r32.1.1.2.2.2.2.2.2.1 r32.1.1.2.2.2.2.2.2.2.1 r32.2.2.2.2.2.1 r32.2.2.2.2.2.2.1 r7.1.1.1 r7.2.2.1 r7.2.2.2.1 r7.2.2.2.2.1 r7.1.1.2.2.2.2.1 r7.1.1.2.2.2.2.2.1 r7.1.1.2.2.2.2.2.2.1 r7.1.1.2.2.2.2.2.2.2.1 r7.2.2.2.2.2.1 r7.2.2.2.2.2.2.1).bind fun r33 =>
 br (!r33.1.1)
 (some ((false, ()), (), ()))
 ((laws_eqIntS r32.2.2.2.2.2.2.2.1 r7.2.2.2.2.2.2.2.1).bind fun r34 =>
 br (!r34.1.1)
 (some ((false, ()), (), ()))
 (let x35 : Bool := r32.1.2.2.1 != r7.1.2.2.1;
 br x35
 (some ((false, ()), (), ()))
 ((laws_heldMachine r10.1.1.1 r23.2.2.1 r23.2.2.2.1 r23.2.2.2.2.1 r10.1.1.2.2.2.2.1 r10.1.1.2.2.2.2.2.1 r10.1.1.2.2.2.2.2.2.1 r10.1.1.2.2.2.2.2.2.2.1 r23.2.2.2.2.2.1 r23.2.2.2.2.2.2.1 (1 : Int)).bind fun r36 =>
 let x37 : Bool := decide (r36.1.1 < (0 : Int));
 br x37
 (some ((false, ()), (), ()))
 ((laws_heldIntS r24.2.2.1 r36.1.1).bind fun r38 =>
 let x39 : Bool := decide (r38.1.1 < (0 : Int));
 br x39
 (some ((false, ()), (), ()))
 (let x40 : Bool := r38.1.1 != r24.1.1;
 br x40
 (some ((false, ()), (), ()))
 (some ((true, ()), (), ())))))))))))))))))))))
noncomputable def laws_FnExactCastGalley_C : Ctr := ⟨4, laws_FnExactCastGalley_arg, laws_FnExactCastGalley_res, fun x => laws_FnExactCastGalley x.1.1.1 x.1.1.2.1 x.1.1.2.2.1 x.1.1.2.2.2.1 x.1.1.2.2.2.2.1 x.1.1.2.2.2.2.2.1 x.1.1.2.2.2.2.2.2.1 x.1.1.2.2.2.2.2.2.2.1 x.1.1.2.2.2.2.2.2.2.2.1 x.1.1.2.2.2.2.2.2.2.2.2.1 x.1.2.1, none⟩
def laws_FnExactCastGalley_H : Hint := ⟨[], [], [], fun _ => []⟩
noncomputable def laws_FnExactCastGalley_T : List Ctr := [laws_szMachine_C, laws_szStringS_C, laws_toMachine_C, laws_toStringS_C, spec_CastGalley_C, impl_CastGalley_C, laws_eqMachine_C, laws_eqIntS_C, laws_eqStringS_C, laws_markMachine_C, laws_markStringS_C, laws_markIntS_C, laws_heldMachine_C, laws_heldIntS_C]
noncomputable def laws_FnExactCastGalley_Ls : List Lp := []
theorem laws_FnExactCastGalley_e : ∀ x, laws_FnExactCastGalley_C.F x = runBodyW E0 laws_FnExactCastGalley_T laws_FnExactCastGalley_Ls laws_FnExactCastGalley_H 4 Tryz.f4.results.toList (bodyOf Tryz.f4) [] (laws_FnExactCastGalley_arg.mk' x) laws_FnExactCastGalley_res := fun x => by kernel_rfl
theorem laws_FnExactCastGalley_ok : laws_FnExactCastGalley_C.Ok E0 := fn_ok (T := laws_FnExactCastGalley_T) (h := laws_FnExactCastGalley_H) (Ls := laws_FnExactCastGalley_Ls) E0_mixed (T_cons laws_szMachine_ok (T_cons laws_szStringS_ok (T_cons laws_toMachine_ok (T_cons laws_toStringS_ok (T_cons spec_CastGalley_ok (T_cons impl_CastGalley_ok (T_cons laws_eqMachine_ok (T_cons laws_eqIntS_ok (T_cons laws_eqStringS_ok (T_cons laws_markMachine_ok (T_cons laws_markStringS_ok (T_cons laws_markIntS_ok (T_cons laws_heldMachine_ok (T_cons laws_heldIntS_ok T_nil)))))))))))))) Tryz.func4 (bodyOf_some (by kernel_rfl)) (by kernel_rfl) (loops_of (ks := []) (by kernel_rfl) trivial) laws_FnExactCastGalley_e
end Go.Tree
