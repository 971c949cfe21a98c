/- What each function that the law FnKeyed reaches computes, as a plain function, and the proof that the program's code computes it. No condition but the function's own answer. -/
import Derived.Test.YtfgeijlcmepdlaaPFnKeyeda
namespace Go.Tree
open Go Go.Proofs
set_option linter.unusedVariables false
set_option maxRecDepth 100000
def impl_KeyText_arg : Sh := ⟨[(0, .agg [.str, .rd [] .i64, .rd [] .i64, .rd [] .mats, .int .i64, .int .i64, .int .i64, .int .i64, .rd [] .mat, .rd [] .mat]), (1, .c (.str))], [], []⟩
def impl_KeyText_res : List Sh := [⟨[(0, .agg [.str, .own 0, .own 1, .own 2, .int .i64, .int .i64, .int .i64, .int .i64, .own 3, .own 4]), (1, .c (.int .i64))], [], [(0, .i64), (1, .i64), (2, .mats), (3, .mat), (4, .mat)]⟩]
noncomputable def impl_KeyText_s0 (x : (ByteArray × Unit × Unit × Int × Int × Unit) × ((ByteArray × Unit × Unit × Unit × Int × Int × Int × Int × Unit × Unit × Unit) × (ByteArray × Unit × Unit × Unit × Int × Int × Int × Int × Unit × Unit × Unit) × Unit) × (List Int × List Int × List (List (Int × Int)) × List (Int × Int) × List (Int × Int) × Unit)) : Option (((ByteArray × Unit × Unit × Int × Int × Unit) × ((ByteArray × Unit × Unit × Unit × Int × Int × Int × Int × Unit × Unit × Unit) × (ByteArray × Unit × Unit × Unit × Int × Int × Int × Int × Unit × Unit × Unit) × Unit) × (List Int × List Int × List (List (Int × Int)) × List (Int × Int) × List (Int × Int) × Unit)) ⊕ (((Unit × Int × Unit) × ((ByteArray × Unit × Unit × Unit × Int × Int × Int × Int × Unit × Unit × Unit) × Unit) × (List Int × List Int × List (List (Int × Int)) × List (Int × Int) × List (Int × Int) × Unit)) ⊕ ((ByteArray × Unit × Unit × Unit) × ((ByteArray × Unit × Unit × Unit × Int × Int × Int × Int × Unit × Unit × Unit) × (ByteArray × Unit × Unit × Unit × Int × Int × Int × Int × Unit × Unit × Unit) × Unit) × (List Int × List Int × List (List (Int × Int)) × List (Int × Int) × List (Int × Int) × Unit)))) :=
 let x3 : Bool := decide (x.1.2.2.2.2.1 < x.1.2.2.2.1);
 br x3
 (ck (0 ≤ x.1.2.2.2.2.1 ∧ x.1.2.2.2.2.1.toNat < x.1.1.size)
 (let x4 : Int := byteAt x.1.1 x.1.2.2.2.2.1.toNat;
 let x5 : Bool := x4 == (32 : Int);
 br x5
 (let x6 : Bool := x.2.1.1.2.2.2.2.1 == (0 : Int);
 br x6
 (some (.inr (.inl (((), x.1.2.2.2.2.1, ()), ((x.2.1.1.1, (), (), (), x.2.1.1.2.2.2.2.1, x.2.1.1.2.2.2.2.2.1, x.2.1.1.2.2.2.2.2.2.1, x.2.1.1.2.2.2.2.2.2.2.1, (), (), ()), ()), (x.2.2.1, x.2.2.2.1, x.2.2.2.2.1, x.2.2.2.2.2.1, x.2.2.2.2.2.2.1, ())))))
 (let w13 : Option (((ByteArray × Unit × Unit × Int × Int × Unit) × ((ByteArray × Unit × Unit × Unit × Int × Int × Int × Int × Unit × Unit × Unit) × (ByteArray × Unit × Unit × Unit × Int × Int × Int × Int × Unit × Unit × Unit) × Unit) × (List Int × List Int × List (List (Int × Int)) × List (Int × Int) × List (Int × Int) × Unit)) ⊕ (((Unit × Int × Unit) × ((ByteArray × Unit × Unit × Unit × Int × Int × Int × Int × Unit × Unit × Unit) × Unit) × (List Int × List Int × List (List (Int × Int)) × List (Int × Int) × List (Int × Int) × Unit)) ⊕ ((ByteArray × Unit × Unit × Unit) × ((ByteArray × Unit × Unit × Unit × Int × Int × Int × Int × Unit × Unit × Unit) × (ByteArray × Unit × Unit × Unit × Int × Int × Int × Int × Unit × Unit × Unit) × Unit) × (List Int × List Int × List (List (Int × Int)) × List (Int × Int) × List (Int × Int) × Unit)))) := ((Clone_Matrix x.2.2.2.2.2.1).bind fun r7 =>
 ck ((r7.2.2.1.length + [((-1 : Int), (0 : Int))].length) * 16 ≤ 140737488355328 ∧ (r7.2.2.1.length + [((-1 : Int), (0 : Int))].length) ≤ 9223372036854775807)
 (let x8 : List (Int × Int) := r7.2.2.1 ++ [((-1 : Int), (0 : Int))];
 (impl_items x.2.1.1.1 x.2.2.1 x.2.2.2.1 x8).bind fun r9 =>
 (impl_fits x.2.1.1.2.2.2.2.2.1 x.2.1.1.2.2.2.2.2.2.1 x.2.1.1.2.2.2.2.2.2.2.1 r9.2.2.1).bind fun r10 =>
 br (!r10.1.1)
 (some (.inr (.inl (((), x.1.2.2.2.2.1, ()), ((x.2.1.1.1, (), (), (), x.2.1.1.2.2.2.2.1, x.2.1.1.2.2.2.2.2.1, x.2.1.1.2.2.2.2.2.2.1, x.2.1.1.2.2.2.2.2.2.2.1, (), (), ()), ()), (x.2.2.1, x.2.2.2.1, x.2.2.2.2.1, x.2.2.2.2.2.1, x.2.2.2.2.2.2.1, ())))))
 (let x11 : Int := w64 (x.2.1.1.2.2.2.2.1 - (1 : Int));
 let x12 : Int := w64 (x.1.2.2.2.2.1 + (1 : Int));
 some (.inl ((x.1.1, (), (), x.1.2.2.2.1, x12, ()), ((x.2.1.1.1, (), (), (), x11, x.2.1.1.2.2.2.2.2.1, x.2.1.1.2.2.2.2.2.2.1, x.2.1.1.2.2.2.2.2.2.2.1, (), (), ()), (x.2.1.2.1.1, (), (), (), x.2.1.2.1.2.2.2.2.1, x.2.1.2.1.2.2.2.2.2.1, x.2.1.2.1.2.2.2.2.2.2.1, x.2.1.2.1.2.2.2.2.2.2.2.1, (), (), ()), ()), (x.2.2.1, x.2.2.2.1, x.2.2.2.2.1, x8, x.2.2.2.2.2.2.1, ()))))));
 both w13 (w13)))
 (ck (0 ≤ x.1.2.2.2.2.1 ∧ x.1.2.2.2.2.1.toNat < x.1.1.size)
 (let x14 : Int := w64 x4;
 (impl_key x.2.1.1.1 x.2.2.1 x.2.2.2.1 x14).bind fun r15 =>
 let x16 : Bool := decide (r15.1.1 < (0 : Int));
 br x16
 (some (.inr (.inl (((), x.1.2.2.2.2.1, ()), ((x.2.1.1.1, (), (), (), x.2.1.1.2.2.2.2.1, x.2.1.1.2.2.2.2.2.1, x.2.1.1.2.2.2.2.2.2.1, x.2.1.1.2.2.2.2.2.2.2.1, (), (), ()), ()), (x.2.2.1, x.2.2.2.1, x.2.2.2.2.1, x.2.2.2.2.2.1, x.2.2.2.2.2.2.1, ())))))
 (ck (0 ≤ r15.1.1)
 (ck (r15.1.1.toNat < x.2.2.2.2.1.length)
 (ck (r15.1.1.toNat < x.2.2.2.2.1.length)
 (ck (r15.1.1.toNat < x.2.2.2.2.1.length)
 (let x17 : Bool := ((x.2.2.2.2.1.getD r15.1.1.toNat []).length : Int) == (0 : Int);
 br x17
 (some (.inr (.inl (((), x.1.2.2.2.2.1, ()), ((x.2.1.1.1, (), (), (), x.2.1.1.2.2.2.2.1, x.2.1.1.2.2.2.2.2.1, x.2.1.1.2.2.2.2.2.2.1, x.2.1.1.2.2.2.2.2.2.2.1, (), (), ()), ()), (x.2.2.1, x.2.2.2.1, x.2.2.2.2.1, x.2.2.2.2.2.1, x.2.2.2.2.2.2.1, ())))))
 (ck (0 ≤ r15.1.1)
 (ck (r15.1.1.toNat < x.2.2.2.2.1.length)
 (ck (r15.1.1.toNat < x.2.2.2.2.1.length)
 (ck (r15.1.1.toNat < x.2.2.2.2.1.length ∧ 0 < (x.2.2.2.2.1.getD r15.1.1.toNat []).length)
 (ck (r15.1.1.toNat < x.2.2.2.2.1.length ∧ 0 < (x.2.2.2.2.1.getD r15.1.1.toNat []).length)
 (let x18 : Int := ((x.2.2.2.2.1.getD r15.1.1.toNat []).getD 0 (0, 0)).1;
 let x19 : Int := ((x.2.2.2.2.1.getD r15.1.1.toNat []).getD 0 (0, 0)).2;
 let w30 : Option (((ByteArray × Unit × Unit × Int × Int × Unit) × ((ByteArray × Unit × Unit × Unit × Int × Int × Int × Int × Unit × Unit × Unit) × (ByteArray × Unit × Unit × Unit × Int × Int × Int × Int × Unit × Unit × Unit) × Unit) × (List Int × List Int × List (List (Int × Int)) × List (Int × Int) × List (Int × Int) × Unit)) ⊕ (((Unit × Int × Unit) × ((ByteArray × Unit × Unit × Unit × Int × Int × Int × Int × Unit × Unit × Unit) × Unit) × (List Int × List Int × List (List (Int × Int)) × List (Int × Int) × List (Int × Int) × Unit)) ⊕ ((ByteArray × Unit × Unit × Unit) × ((ByteArray × Unit × Unit × Unit × Int × Int × Int × Int × Unit × Unit × Unit) × (ByteArray × Unit × Unit × Unit × Int × Int × Int × Int × Unit × Unit × Unit) × Unit) × (List Int × List Int × List (List (Int × Int)) × List (Int × Int) × List (Int × Int) × Unit)))) := ((Clone_Matrix x.2.2.2.2.2.1).bind fun r20 =>
 ck ((r20.2.2.1.length + [(x18, x19)].length) * 16 ≤ 140737488355328 ∧ (r20.2.2.1.length + [(x18, x19)].length) ≤ 9223372036854775807)
 (let x21 : List (Int × Int) := r20.2.2.1 ++ [(x18, x19)];
 (impl_items x.2.1.1.1 x.2.2.1 x.2.2.2.1 x21).bind fun r22 =>
 (impl_fits x.2.1.1.2.2.2.2.2.1 x.2.1.1.2.2.2.2.2.2.1 x.2.1.1.2.2.2.2.2.2.2.1 r22.2.2.1).bind fun r23 =>
 br (!r23.1.1)
 (some (.inr (.inl (((), x.1.2.2.2.2.1, ()), ((x.2.1.1.1, (), (), (), x.2.1.1.2.2.2.2.1, x.2.1.1.2.2.2.2.2.1, x.2.1.1.2.2.2.2.2.2.1, x.2.1.1.2.2.2.2.2.2.2.1, (), (), ()), ()), (x.2.2.1, x.2.2.2.1, x.2.2.2.2.1, x.2.2.2.2.2.1, x.2.2.2.2.2.2.1, ())))))
 (br x16
 (let x24 : Int := w64 (x.2.1.1.2.2.2.2.1 - (1 : Int));
 let x25 : Int := w64 (x.1.2.2.2.2.1 + (1 : Int));
 some (.inl ((x.1.1, (), (), x.1.2.2.2.1, x25, ()), ((x.2.1.1.1, (), (), (), x24, x.2.1.1.2.2.2.2.2.1, x.2.1.1.2.2.2.2.2.2.1, x.2.1.1.2.2.2.2.2.2.2.1, (), (), ()), (x.2.1.2.1.1, (), (), (), x.2.1.2.1.2.2.2.2.1, x.2.1.2.1.2.2.2.2.2.1, x.2.1.2.1.2.2.2.2.2.2.1, x.2.1.2.1.2.2.2.2.2.2.2.1, (), (), ()), ()), (x.2.2.1, x.2.2.2.1, x.2.2.2.2.1, x21, x.2.2.2.2.2.2.1, ()))))
 (ck (0 ≤ r15.1.1)
 (ck (r15.1.1.toNat < x.2.2.2.2.1.length)
 (ck (r15.1.1.toNat < x.2.2.2.2.1.length)
 (ck (r15.1.1.toNat < x.2.2.2.2.1.length)
 (let x26 : List (Int × Int) := x.2.2.2.2.1.getD r15.1.1.toNat [];
 ck (1 ≤ x26.length ∧ x26.length ≤ x26.length)
 (let x27 : List (Int × Int) := cut x26 1 x26.length;
 ck (0 ≤ r15.1.1)
 (ck (r15.1.1.toNat < x.2.2.2.2.1.length)
 (ck (r15.1.1.toNat = r15.1.1.toNat ∧ r15.1.1.toNat < x.2.2.2.2.1.length)
 (let x28 : List (List (Int × Int)) := x.2.2.2.2.1.set r15.1.1.toNat x27;
 let x29 : Int := w64 (x.1.2.2.2.2.1 + (1 : Int));
 some (.inl ((x.1.1, (), (), x.1.2.2.2.1, x29, ()), ((x.2.1.1.1, (), (), (), x.2.1.1.2.2.2.2.1, x.2.1.1.2.2.2.2.2.1, x.2.1.1.2.2.2.2.2.2.1, x.2.1.1.2.2.2.2.2.2.2.1, (), (), ()), (x.2.1.2.1.1, (), (), (), x.2.1.2.1.2.2.2.2.1, x.2.1.2.1.2.2.2.2.2.1, x.2.1.2.1.2.2.2.2.2.2.1, x.2.1.2.1.2.2.2.2.2.2.2.1, (), (), ()), ()), (x.2.2.1, x.2.2.2.1, x28, x21, x.2.2.2.2.2.2.1, ())))))))))))))));
 both w30 (w30))))))))))))))))
 (some (.inr (.inr ((x.1.1, (), (), ()), ((x.2.1.1.1, (), (), (), x.2.1.1.2.2.2.2.1, x.2.1.1.2.2.2.2.2.1, x.2.1.1.2.2.2.2.2.2.1, x.2.1.1.2.2.2.2.2.2.2.1, (), (), ()), (x.2.1.2.1.1, (), (), (), x.2.1.2.1.2.2.2.2.1, x.2.1.2.1.2.2.2.2.2.1, x.2.1.2.1.2.2.2.2.2.2.1, x.2.1.2.1.2.2.2.2.2.2.2.1, (), (), ()), ()), (x.2.2.1, x.2.2.2.1, x.2.2.2.2.1, x.2.2.2.2.2.1, x.2.2.2.2.2.2.1, ())))))
def impl_KeyText_h0 : Sh := ⟨[(1, .c (.str)), (2, .c (.box 0 0)), (4, .c (.box 1 0)), (17, .c (.int .i64)), (18, .c (.int .i64))], [(0, .cells [.str, .own 0, .own 1, .own 2, .int .i64, .int .i64, .int .i64, .int .i64, .own 3, .own 4]), (1, .cells [.str, .nil, .nil, .nil, .int .i64, .int .i64, .int .i64, .int .i64, .nil, .nil])], [(0, .i64), (1, .i64), (2, .mats), (3, .mat), (4, .mat)]⟩
def impl_KeyText_r0 : List Sh := [⟨[(4, .c (.box 0 0)), (5, .c (.int .i64))], [(0, .cells [.str, .own 0, .own 1, .own 2, .int .i64, .int .i64, .int .i64, .int .i64, .own 3, .own 4])], [(0, .i64), (1, .i64), (2, .mats), (3, .mat), (4, .mat)]⟩, ⟨[(1, .c (.str)), (2, .c (.box 0 0)), (4, .c (.box 1 0))], [(0, .cells [.str, .own 0, .own 1, .own 2, .int .i64, .int .i64, .int .i64, .int .i64, .own 3, .own 4]), (1, .cells [.str, .nil, .nil, .nil, .int .i64, .int .i64, .int .i64, .int .i64, .nil, .nil])], [(0, .i64), (1, .i64), (2, .mats), (3, .mat), (4, .mat)]⟩]
noncomputable def impl_KeyText_L0 : Lp := ⟨0, [], impl_KeyText_h0, [], [(.ret, []), (.exit 0, [])], impl_KeyText_r0, loopC impl_KeyText_s0⟩
noncomputable def impl_KeyText (a0_0 : ByteArray) (a0_1 : List Int) (a0_2 : List Int) (a0_3 : List (List (Int × Int))) (a0_4 : Int) (a0_5 : Int) (a0_6 : Int) (a0_7 : Int) (a0_8 : List (Int × Int)) (a0_9 : List (Int × Int)) (a1 : ByteArray) : Option (((ByteArray × Unit × Unit × Unit × Int × Int × Int × Int × Unit × Unit × Unit) × Int × Unit) × Unit × (List Int × List Int × List (List (Int × Int)) × List (Int × Int) × List (Int × Int) × Unit)) :=
 (impl_MachineOk a0_0 a0_1 a0_2 a0_3 a0_4 a0_5 a0_6 a0_7 a0_8 a0_9).bind fun r1 =>
 br (!r1.1.1)
 (some (((ByteArray.empty, (), (), (), (0 : Int), (0 : Int), (0 : Int), (0 : Int), (), (), ()), (-1 : Int), ()), (), ([], [], [], [], [], ())))
 ((impl_copyMachine a0_0 a0_1 a0_2 a0_3 a0_4 a0_5 a0_6 a0_7 a0_8 a0_9).bind fun r2 =>
 (loopC impl_KeyText_s0 ((a1, (), (), (a1.size : Int), (0 : Int), ()), ((r2.1.1.1, (), (), (), r2.1.1.2.2.2.2.1, r2.1.1.2.2.2.2.2.1, r2.1.1.2.2.2.2.2.2.1, r2.1.1.2.2.2.2.2.2.2.1, (), (), ()), (ByteArray.empty, (), (), (), (0 : Int), (0 : Int), (0 : Int), (0 : Int), (), (), ()), ()), (r2.2.2.1, r2.2.2.2.1, r2.2.2.2.2.1, r2.2.2.2.2.2.1, r2.2.2.2.2.2.2.1, ()))).bind fun r31 =>
 sumK r31 (fun y34 =>
 some (((y34.2.1.1.1, (), (), (), y34.2.1.1.2.2.2.2.1, y34.2.1.1.2.2.2.2.2.1, y34.2.1.1.2.2.2.2.2.2.1, y34.2.1.1.2.2.2.2.2.2.2.1, (), (), ()), y34.1.2.1, ()), (), (y34.2.2.1, y34.2.2.2.1, y34.2.2.2.2.1, y34.2.2.2.2.2.1, y34.2.2.2.2.2.2.1, ()))) (fun y35 =>
 some (((y35.2.1.1.1, (), (), (), y35.2.1.1.2.2.2.2.1, y35.2.1.1.2.2.2.2.2.1, y35.2.1.1.2.2.2.2.2.2.1, y35.2.1.1.2.2.2.2.2.2.2.1, (), (), ()), (y35.1.1.size : Int), ()), (), (y35.2.2.1, y35.2.2.2.1, y35.2.2.2.2.1, y35.2.2.2.2.2.1, y35.2.2.2.2.2.2.1, ()))))
noncomputable def impl_KeyText_C : Ctr := ⟨13, impl_KeyText_arg, impl_KeyText_res, fun x => impl_KeyText x.1.1.1 x.1.1.2.1 x.1.1.2.2.1 x.1.1.2.2.2.1 x.1.1.2.2.2.2.1 x.1.1.2.2.2.2.2.1 x.1.1.2.2.2.2.2.2.1 x.1.1.2.2.2.2.2.2.2.1 x.1.1.2.2.2.2.2.2.2.2.1 x.1.1.2.2.2.2.2.2.2.2.2.1 x.1.2.1, none⟩
def impl_KeyText_H : Hint := ⟨[88], [], [], fun _ => []⟩
noncomputable def impl_KeyText_T : List Ctr := [impl_MachineOk_C, impl_copyMachine_C, Clone_Matrix_C, impl_items_C, impl_fits_C, impl_key_C]
noncomputable def impl_KeyText_Ls : List Lp := [impl_KeyText_L0]
theorem impl_KeyText_l0 : ∀ x, impl_KeyText_s0 x = stepW E0 impl_KeyText_T impl_KeyText_Ls impl_KeyText_H (loopAt (bodyOf Try.f13) 0) 0 impl_KeyText_h0 [] [(.ret, []), (.exit 0, [])] impl_KeyText_r0 x := fun x => by kernel_rfl
theorem impl_KeyText_e : ∀ x, impl_KeyText_C.F x = runBodyW E0 impl_KeyText_T impl_KeyText_Ls impl_KeyText_H 13 Try.f13.results.toList (bodyOf Try.f13) [(.bx 4 1, 6000000, .i64), (.bx 4 2, 6000001, .i64), (.bx 4 3, 6000002, .mats), (.bx 4 8, 6000003, .mat), (.bx 4 9, 6000004, .mat)] (impl_KeyText_arg.mk' x) impl_KeyText_res := fun x => by kernel_rfl
theorem impl_KeyText_ok : impl_KeyText_C.Ok E0 := fn_ok (T := impl_KeyText_T) (h := impl_KeyText_H) (Ls := impl_KeyText_Ls) E0_mixed (T_cons impl_MachineOk_ok (T_cons impl_copyMachine_ok (T_cons Clone_Matrix_ok (T_cons impl_items_ok (T_cons impl_fits_ok (T_cons impl_key_ok T_nil)))))) Try.func13 (bodyOf_some (by kernel_rfl)) (by kernel_rfl) (loops_of (ks := [0]) (by kernel_rfl) ⟨(loop_one (h := impl_KeyText_H) (own := []) (head := impl_KeyText_h0) (back := []) (exs := [(.ret, []), (.exit 0, [])]) (res := impl_KeyText_r0) (step := impl_KeyText_s0) (by kernel_rfl) impl_KeyText_l0), trivial⟩) impl_KeyText_e
def impl_ItemsOf_arg : Sh := ⟨[(0, .agg [.str, .rd [] .i64, .rd [] .i64, .rd [] .mats, .int .i64, .int .i64, .int .i64, .int .i64, .rd [] .mat, .rd [] .mat])], [], []⟩
def impl_ItemsOf_res : List Sh := [⟨[(0, .c (.own 0))], [], [(0, .i64)]⟩]
noncomputable def impl_ItemsOf (a0_0 : ByteArray) (a0_1 : List Int) (a0_2 : List Int) (a0_3 : List (List (Int × Int))) (a0_4 : Int) (a0_5 : Int) (a0_6 : Int) (a0_7 : Int) (a0_8 : List (Int × Int)) (a0_9 : List (Int × Int)) : Option ((Unit × Unit) × Unit × (List Int × Unit)) :=
 (impl_MachineOk a0_0 a0_1 a0_2 a0_3 a0_4 a0_5 a0_6 a0_7 a0_8 a0_9).bind fun r1 =>
 br (!r1.1.1)
 (some (((), ()), (), ([], ())))
 ((impl_items a0_0 a0_1 a0_2 a0_8).bind fun r2 =>
 some (((), ()), (), (r2.2.2.1, ())))
noncomputable def impl_ItemsOf_C : Ctr := ⟨26, impl_ItemsOf_arg, impl_ItemsOf_res, fun x => impl_ItemsOf x.1.1.1 x.1.1.2.1 x.1.1.2.2.1 x.1.1.2.2.2.1 x.1.1.2.2.2.2.1 x.1.1.2.2.2.2.2.1 x.1.1.2.2.2.2.2.2.1 x.1.1.2.2.2.2.2.2.2.1 x.1.1.2.2.2.2.2.2.2.2.1 x.1.1.2.2.2.2.2.2.2.2.2.1, none⟩
def impl_ItemsOf_H : Hint := ⟨[], [], [], fun _ => []⟩
noncomputable def impl_ItemsOf_T : List Ctr := [impl_MachineOk_C, impl_items_C]
noncomputable def impl_ItemsOf_Ls : List Lp := []
theorem impl_ItemsOf_e : ∀ x, impl_ItemsOf_C.F x = runBodyW E0 impl_ItemsOf_T impl_ItemsOf_Ls impl_ItemsOf_H 26 Try.f26.results.toList (bodyOf Try.f26) [(.tm 2, 6000000, .i64)] (impl_ItemsOf_arg.mk' x) impl_ItemsOf_res := fun x => by kernel_rfl
theorem impl_ItemsOf_ok : impl_ItemsOf_C.Ok E0 := fn_ok (T := impl_ItemsOf_T) (h := impl_ItemsOf_H) (Ls := impl_ItemsOf_Ls) E0_mixed (T_cons impl_MachineOk_ok (T_cons impl_items_ok T_nil)) Try.func26 (bodyOf_some (by kernel_rfl)) (by kernel_rfl) (loops_of (ks := []) (by kernel_rfl) trivial) impl_ItemsOf_e
def laws_at_arg : Sh := ⟨[(0, .c (.rd [] .u8)), (1, .c (.int .i64))], [], []⟩
def laws_at_res : List Sh := [⟨[(0, .c (.int .i64))], [], []⟩]
noncomputable def laws_at (a0 : List Int) (a1 : Int) : Option ((Int × Unit) × Unit × Unit) :=
 let x1 : Bool := decide (a1 < (a0.length : Int));
 br x1
 (ck (0 ≤ a1)
 (ck (a1.toNat < a0.length)
 (let x2 : Int := a0.getD a1.toNat 0;
 let x3 : Int := w64 x2;
 some ((x3, ()), (), ()))))
 (let x4 : Int := w64 (a1 * (37 : Int));
 let x5 : Int := w64 ((a0.length : Int) * (11 : Int));
 let x6 : Int := w64 (x4 + x5);
 let x7 : Int := x6.tmod (256 : Int);
 some ((x7, ()), (), ()))
noncomputable def laws_at_C : Ctr := ⟨12, laws_at_arg, laws_at_res, fun x => laws_at x.1.1 x.1.2.1, none⟩
def laws_at_H : Hint := ⟨[], [], [], fun _ => []⟩
noncomputable def laws_at_T : List Ctr := []
noncomputable def laws_at_Ls : List Lp := []
theorem laws_at_e : ∀ x, laws_at_C.F x = runBodyW E0 laws_at_T laws_at_Ls laws_at_H 12 Try.f12.results.toList (bodyOf Try.f12) [] (laws_at_arg.mk' x) laws_at_res := fun x => by kernel_rfl
theorem laws_at_ok : laws_at_C.Ok E0 := fn_ok (T := laws_at_T) (h := laws_at_H) (Ls := laws_at_Ls) E0_mixed T_nil Try.func12 (bodyOf_some (by kernel_rfl)) (by kernel_rfl) (loops_of (ks := []) (by kernel_rfl) trivial) laws_at_e
def laws_ints_arg : Sh := ⟨[(0, .c (.rd [] .i64)), (1, .c (.rd [] .i64))], [], []⟩
def laws_ints_res : List Sh := [⟨[(0, .c (.bool))], [], []⟩]
noncomputable def laws_ints_s0 (x : (List Int × List Int × Int × Int × Unit) × Unit × Unit) : Option (((List Int × List Int × Int × Int × Unit) × Unit × Unit) ⊕ (((Bool × Unit) × Unit × Unit) ⊕ (Unit × Unit × Unit))) :=
 let x2 : Bool := decide (x.1.2.2.2.1 < x.1.2.2.1);
 br x2
 (ck (0 ≤ x.1.2.2.2.1)
 (ck (x.1.2.2.2.1.toNat < x.1.1.length)
 (let x3 : Int := x.1.1.getD x.1.2.2.2.1.toNat 0;
 ck (0 ≤ x.1.2.2.2.1)
 (ck (x.1.2.2.2.1.toNat < x.1.2.1.length)
 (let x4 : Int := x.1.2.1.getD x.1.2.2.2.1.toNat 0;
 let x5 : Bool := x3 != x4;
 br x5
 (some (.inr (.inl ((false, ()), (), ()))))
 (let x6 : Int := w64 (x.1.2.2.2.1 + (1 : Int));
 some (.inl ((x.1.1, x.1.2.1, x.1.2.2.1, x6, ()), (), ()))))))))
 (some (.inr (.inr ((), (), ()))))
def laws_ints_h0 : Sh := ⟨[(0, .c (.rd [] .i64)), (1, .c (.rd [] .i64)), (12, .c (.int .i64)), (13, .c (.int .i64))], [], []⟩
def laws_ints_r0 : List Sh := [⟨[(4, .c (.bool))], [], []⟩, ⟨[], [], []⟩]
noncomputable def laws_ints_L0 : Lp := ⟨0, [], laws_ints_h0, [], [(.ret, []), (.exit 0, [])], laws_ints_r0, loopC laws_ints_s0⟩
noncomputable def laws_ints (a0 : List Int) (a1 : List Int) : Option ((Bool × Unit) × Unit × Unit) :=
 let x1 : Bool := (a0.length : Int) != (a1.length : Int);
 br x1
 (some ((false, ()), (), ()))
 ((loopC laws_ints_s0 ((a0, a1, (a0.length : Int), (0 : Int), ()), (), ())).bind fun r7 =>
 sumK r7 (fun y10 =>
 some ((y10.1.1, ()), (), ())) (fun y11 =>
 some ((true, ()), (), ())))
noncomputable def laws_ints_C : Ctr := ⟨65, laws_ints_arg, laws_ints_res, fun x => laws_ints x.1.1 x.1.2.1, none⟩
def laws_ints_H : Hint := ⟨[], [], [], fun _ => []⟩
noncomputable def laws_ints_T : List Ctr := []
noncomputable def laws_ints_Ls : List Lp := [laws_ints_L0]
theorem laws_ints_l0 : ∀ x, laws_ints_s0 x = stepW E0 laws_ints_T laws_ints_Ls laws_ints_H (loopAt (bodyOf Try.f65) 0) 0 laws_ints_h0 [] [(.ret, []), (.exit 0, [])] laws_ints_r0 x := fun x => by kernel_rfl
theorem laws_ints_e : ∀ x, laws_ints_C.F x = runBodyW E0 laws_ints_T laws_ints_Ls laws_ints_H 65 Try.f65.results.toList (bodyOf Try.f65) [] (laws_ints_arg.mk' x) laws_ints_res := fun x => by kernel_rfl
theorem laws_ints_ok : laws_ints_C.Ok E0 := fn_ok (T := laws_ints_T) (h := laws_ints_H) (Ls := laws_ints_Ls) E0_mixed T_nil Try.func65 (bodyOf_some (by kernel_rfl)) (by kernel_rfl) (loops_of (ks := [0]) (by kernel_rfl) ⟨(loop_one (h := laws_ints_H) (own := []) (head := laws_ints_h0) (back := []) (exs := [(.ret, []), (.exit 0, [])]) (res := laws_ints_r0) (step := laws_ints_s0) (by kernel_rfl) laws_ints_l0), trivial⟩) laws_ints_e
def laws_pieces_arg : Sh := ⟨[(0, .c (.rd [] .mat)), (1, .c (.rd [] .mat))], [], []⟩
def laws_pieces_res : List Sh := [⟨[(0, .c (.bool))], [], []⟩]
noncomputable def laws_pieces_s0 (x : (List (Int × Int) × List (Int × Int) × Int × Int × Unit) × Unit × Unit) : Option (((List (Int × Int) × List (Int × Int) × Int × Int × Unit) × Unit × Unit) ⊕ (((Bool × Unit) × Unit × Unit) ⊕ (Unit × Unit × Unit))) :=
 let x2 : Bool := decide (x.1.2.2.2.1 < x.1.2.2.1);
 br x2
 (ck (0 ≤ x.1.2.2.2.1)
 (ck (x.1.2.2.2.1.toNat < x.1.1.length)
 (let x3 : Int × Int := x.1.1.getD x.1.2.2.2.1.toNat (0, 0);
 ck (0 ≤ x.1.2.2.2.1)
 (ck (x.1.2.2.2.1.toNat < x.1.2.1.length)
 (let x4 : Int × Int := x.1.2.1.getD x.1.2.2.2.1.toNat (0, 0);
 let x5 : Bool := !eqInts [x3.1, x3.2] [x4.1, x4.2];
 br x5
 (some (.inr (.inl ((false, ()), (), ()))))
 (let x6 : Int := w64 (x.1.2.2.2.1 + (1 : Int));
 some (.inl ((x.1.1, x.1.2.1, x.1.2.2.1, x6, ()), (), ()))))))))
 (some (.inr (.inr ((), (), ()))))
def laws_pieces_h0 : Sh := ⟨[(0, .c (.rd [] .mat)), (1, .c (.rd [] .mat)), (12, .c (.int .i64)), (13, .c (.int .i64))], [], []⟩
def laws_pieces_r0 : List Sh := [⟨[(4, .c (.bool))], [], []⟩, ⟨[], [], []⟩]
noncomputable def laws_pieces_L0 : Lp := ⟨0, [], laws_pieces_h0, [], [(.ret, []), (.exit 0, [])], laws_pieces_r0, loopC laws_pieces_s0⟩
noncomputable def laws_pieces (a0 : List (Int × Int)) (a1 : List (Int × Int)) : Option ((Bool × Unit) × Unit × Unit) :=
 let x1 : Bool := (a0.length : Int) != (a1.length : Int);
 br x1
 (some ((false, ()), (), ()))
 ((loopC laws_pieces_s0 ((a0, a1, (a0.length : Int), (0 : Int), ()), (), ())).bind fun r7 =>
 sumK r7 (fun y10 =>
 some ((y10.1.1, ()), (), ())) (fun y11 =>
 some ((true, ()), (), ())))
noncomputable def laws_pieces_C : Ctr := ⟨22, laws_pieces_arg, laws_pieces_res, fun x => laws_pieces x.1.1 x.1.2.1, none⟩
def laws_pieces_H : Hint := ⟨[], [], [], fun _ => []⟩
noncomputable def laws_pieces_T : List Ctr := []
noncomputable def laws_pieces_Ls : List Lp := [laws_pieces_L0]
theorem laws_pieces_l0 : ∀ x, laws_pieces_s0 x = stepW E0 laws_pieces_T laws_pieces_Ls laws_pieces_H (loopAt (bodyOf Try.f22) 0) 0 laws_pieces_h0 [] [(.ret, []), (.exit 0, [])] laws_pieces_r0 x := fun x => by kernel_rfl
theorem laws_pieces_e : ∀ x, laws_pieces_C.F x = runBodyW E0 laws_pieces_T laws_pieces_Ls laws_pieces_H 22 Try.f22.results.toList (bodyOf Try.f22) [] (laws_pieces_arg.mk' x) laws_pieces_res := fun x => by kernel_rfl
theorem laws_pieces_ok : laws_pieces_C.Ok E0 := fn_ok (T := laws_pieces_T) (h := laws_pieces_H) (Ls := laws_pieces_Ls) E0_mixed T_nil Try.func22 (bodyOf_some (by kernel_rfl)) (by kernel_rfl) (loops_of (ks := [0]) (by kernel_rfl) ⟨(loop_one (h := laws_pieces_H) (own := []) (head := laws_pieces_h0) (back := []) (exs := [(.ret, []), (.exit 0, [])]) (res := laws_pieces_r0) (step := laws_pieces_s0) (by kernel_rfl) laws_pieces_l0), trivial⟩) laws_pieces_e
def laws_stocks_arg : Sh := ⟨[(0, .c (.rd [] .mats)), (1, .c (.rd [] .mats))], [], []⟩
def laws_stocks_res : List Sh := [⟨[(0, .c (.bool))], [], []⟩]
noncomputable def laws_stocks_s0 (x : (List (List (Int × Int)) × List (List (Int × Int)) × Int × Int × Unit) × Unit × Unit) : Option (((List (List (Int × Int)) × List (List (Int × Int)) × Int × Int × Unit) × Unit × Unit) ⊕ (((Bool × Unit) × Unit × Unit) ⊕ (Unit × Unit × Unit))) :=
 let x2 : Bool := decide (x.1.2.2.2.1 < x.1.2.2.1);
 br x2
 (ck (0 ≤ x.1.2.2.2.1)
 (ck (x.1.2.2.2.1.toNat < x.1.1.length)
 (let x3 : List (Int × Int) := x.1.1.getD x.1.2.2.2.1.toNat [];
 ck (0 ≤ x.1.2.2.2.1)
 (ck (x.1.2.2.2.1.toNat < x.1.2.1.length)
 (let x4 : List (Int × Int) := x.1.2.1.getD x.1.2.2.2.1.toNat [];
 (laws_pieces x3 x4).bind fun r5 =>
 br (!r5.1.1)
 (some (.inr (.inl ((false, ()), (), ()))))
 (let x6 : Int := w64 (x.1.2.2.2.1 + (1 : Int));
 some (.inl ((x.1.1, x.1.2.1, x.1.2.2.1, x6, ()), (), ()))))))))
 (some (.inr (.inr ((), (), ()))))
def laws_stocks_h0 : Sh := ⟨[(0, .c (.rd [] .mats)), (1, .c (.rd [] .mats)), (12, .c (.int .i64)), (13, .c (.int .i64))], [], []⟩
def laws_stocks_r0 : List Sh := [⟨[(4, .c (.bool))], [], []⟩, ⟨[], [], []⟩]
noncomputable def laws_stocks_L0 : Lp := ⟨0, [], laws_stocks_h0, [], [(.ret, []), (.exit 0, [])], laws_stocks_r0, loopC laws_stocks_s0⟩
noncomputable def laws_stocks (a0 : List (List (Int × Int))) (a1 : List (List (Int × Int))) : Option ((Bool × Unit) × Unit × Unit) :=
 let x1 : Bool := (a0.length : Int) != (a1.length : Int);
 br x1
 (some ((false, ()), (), ()))
 ((loopC laws_stocks_s0 ((a0, a1, (a0.length : Int), (0 : Int), ()), (), ())).bind fun r7 =>
 sumK r7 (fun y10 =>
 some ((y10.1.1, ()), (), ())) (fun y11 =>
 some ((true, ()), (), ())))
noncomputable def laws_stocks_C : Ctr := ⟨18, laws_stocks_arg, laws_stocks_res, fun x => laws_stocks x.1.1 x.1.2.1, none⟩
def laws_stocks_H : Hint := ⟨[], [], [], fun _ => []⟩
noncomputable def laws_stocks_T : List Ctr := [laws_pieces_C]
noncomputable def laws_stocks_Ls : List Lp := [laws_stocks_L0]
theorem laws_stocks_l0 : ∀ x, laws_stocks_s0 x = stepW E0 laws_stocks_T laws_stocks_Ls laws_stocks_H (loopAt (bodyOf Try.f18) 0) 0 laws_stocks_h0 [] [(.ret, []), (.exit 0, [])] laws_stocks_r0 x := fun x => by kernel_rfl
theorem laws_stocks_e : ∀ x, laws_stocks_C.F x = runBodyW E0 laws_stocks_T laws_stocks_Ls laws_stocks_H 18 Try.f18.results.toList (bodyOf Try.f18) [] (laws_stocks_arg.mk' x) laws_stocks_res := fun x => by kernel_rfl
theorem laws_stocks_ok : laws_stocks_C.Ok E0 := fn_ok (T := laws_stocks_T) (h := laws_stocks_H) (Ls := laws_stocks_Ls) E0_mixed (T_cons laws_pieces_ok T_nil) Try.func18 (bodyOf_some (by kernel_rfl)) (by kernel_rfl) (loops_of (ks := [0]) (by kernel_rfl) ⟨(loop_one (h := laws_stocks_H) (own := []) (head := laws_stocks_h0) (back := []) (exs := [(.ret, []), (.exit 0, [])]) (res := laws_stocks_r0) (step := laws_stocks_s0) (by kernel_rfl) laws_stocks_l0), trivial⟩) laws_stocks_e
def laws_same_arg : Sh := ⟨[(0, .agg [.str, .rd [] .i64, .rd [] .i64, .rd [] .mats, .int .i64, .int .i64, .int .i64, .int .i64, .rd [] .mat, .rd [] .mat]), (1, .agg [.str, .rd [] .i64, .rd [] .i64, .rd [] .mats, .int .i64, .int .i64, .int .i64, .int .i64, .rd [] .mat, .rd [] .mat])], [], []⟩
def laws_same_res : List Sh := [⟨[(0, .c (.bool))], [], []⟩]
noncomputable def laws_same (a0_0 : ByteArray) (a0_1 : List Int) (a0_2 : List Int) (a0_3 : List (List (Int × Int))) (a0_4 : Int) (a0_5 : Int) (a0_6 : Int) (a0_7 : Int) (a0_8 : List (Int × Int)) (a0_9 : List (Int × Int)) (a1_0 : ByteArray) (a1_1 : List Int) (a1_2 : List Int) (a1_3 : List (List (Int × Int))) (a1_4 : Int) (a1_5 : Int) (a1_6 : Int) (a1_7 : Int) (a1_8 : List (Int × Int)) (a1_9 : List (Int × Int)) : Option ((Bool × Unit) × Unit × Unit) :=
 let x1 : Bool := strEq a0_0 a1_0;
 br x1
 ((laws_ints a0_1 a1_1).bind fun r2 =>
 br r2.1.1
 ((laws_ints a0_2 a1_2).bind fun r3 =>
 br r3.1.1
 ((laws_stocks a0_3 a1_3).bind fun r4 =>
 br r4.1.1
 (let x5 : Bool := a0_4 == a1_4;
 br x5
 (let x6 : Bool := eqInts [a0_5, a0_6, a0_7] [a1_5, a1_6, a1_7];
 br x6
 ((laws_pieces a0_8 a1_8).bind fun r7 =>
 br r7.1.1
 ((laws_pieces a0_9 a1_9).bind fun r8 =>
 some ((r8.1.1, ()), (), ()))
 (some ((false, ()), (), ())))
 (some ((false, ()), (), ())))
 (some ((false, ()), (), ())))
 (some ((false, ()), (), ())))
 (some ((false, ()), (), ())))
 (some ((false, ()), (), ())))
 (some ((false, ()), (), ()))
noncomputable def laws_same_C : Ctr := ⟨21, laws_same_arg, laws_same_res, fun x => laws_same x.1.1.1 x.1.1.2.1 x.1.1.2.2.1 x.1.1.2.2.2.1 x.1.1.2.2.2.2.1 x.1.1.2.2.2.2.2.1 x.1.1.2.2.2.2.2.2.1 x.1.1.2.2.2.2.2.2.2.1 x.1.1.2.2.2.2.2.2.2.2.1 x.1.1.2.2.2.2.2.2.2.2.2.1 x.1.2.1.1 x.1.2.1.2.1 x.1.2.1.2.2.1 x.1.2.1.2.2.2.1 x.1.2.1.2.2.2.2.1 x.1.2.1.2.2.2.2.2.1 x.1.2.1.2.2.2.2.2.2.1 x.1.2.1.2.2.2.2.2.2.2.1 x.1.2.1.2.2.2.2.2.2.2.2.1 x.1.2.1.2.2.2.2.2.2.2.2.2.1, none⟩
def laws_same_H : Hint := ⟨[], [], [], fun _ => []⟩
noncomputable def laws_same_T : List Ctr := [laws_ints_C, laws_stocks_C, laws_pieces_C]
noncomputable def laws_same_Ls : List Lp := []
theorem laws_same_e : ∀ x, laws_same_C.F x = runBodyW E0 laws_same_T laws_same_Ls laws_same_H 21 Try.f21.results.toList (bodyOf Try.f21) [] (laws_same_arg.mk' x) laws_same_res := fun x => by kernel_rfl
theorem laws_same_ok : laws_same_C.Ok E0 := fn_ok (T := laws_same_T) (h := laws_same_H) (Ls := laws_same_Ls) E0_mixed (T_cons laws_ints_ok (T_cons laws_stocks_ok (T_cons laws_pieces_ok T_nil))) Try.func21 (bodyOf_some (by kernel_rfl)) (by kernel_rfl) (loops_of (ks := []) (by kernel_rfl) trivial) laws_same_e
def laws_FnKeyed_arg : Sh := ⟨[(0, .c (.rd [] .u8))], [], []⟩
def laws_FnKeyed_res : List Sh := [⟨[(0, .c (.bool))], [], []⟩]
noncomputable def laws_FnKeyed (a0 : List Int) : Option ((Bool × Unit) × Unit × Unit) :=
 let x1 : Bool := decide ((a0.length : Int) > (1048576 : Int));
 br x1
 (some ((true, ()), (), ()))
 ((spec_DrawKeyText a0).bind fun r2 =>
 (spec_MachineOk r2.1.1.1 r2.1.1.2.1 r2.1.1.2.2.1 r2.2.2.1 r2.1.1.2.2.2.2.1 r2.1.1.2.2.2.2.2.1 r2.1.1.2.2.2.2.2.2.1 r2.1.1.2.2.2.2.2.2.2.1 r2.2.2.2.1 r2.2.2.2.2.1).bind fun r3 =>
 br (!r3.1.1)
 ((impl_MachineOk r2.1.1.1 r2.1.1.2.1 r2.1.1.2.2.1 r2.2.2.1 r2.1.1.2.2.2.2.1 r2.1.1.2.2.2.2.2.1 r2.1.1.2.2.2.2.2.2.1 r2.1.1.2.2.2.2.2.2.2.1 r2.2.2.2.1 r2.2.2.2.2.1).bind fun r4 =>
 some ((!r4.1.1, ()), (), ()))
 ((impl_KeyText r2.1.1.1 r2.1.1.2.1 r2.1.1.2.2.1 r2.2.2.1 r2.1.1.2.2.2.2.1 r2.1.1.2.2.2.2.2.1 r2.1.1.2.2.2.2.2.2.1 r2.1.1.2.2.2.2.2.2.2.1 r2.2.2.2.1 r2.2.2.2.2.1 r2.1.2.1).bind fun r5 =>
 let x6 : Int := w64 ((r2.2.2.2.1.length : Int) + r5.1.2.1);
 (impl_ItemsOf r5.1.1.1 r5.2.2.1 r5.2.2.2.1 r5.2.2.2.2.1 r5.1.1.2.2.2.2.1 r5.1.1.2.2.2.2.2.1 r5.1.1.2.2.2.2.2.2.1 r5.1.1.2.2.2.2.2.2.2.1 r5.2.2.2.2.2.1 r5.2.2.2.2.2.2.1).bind fun r7 =>
 let x8 : Bool := (r7.2.2.1.length : Int) != x6;
 br x8
 (some ((false, ()), (), ()))
 ((laws_at a0 (1 : Int)).bind fun r9 =>
 let x10 : Int := w64 ((r2.1.2.1.size : Int) + (1 : Int));
 ck (x10 ≠ 0)
 (let x11 : Int := r9.1.1.tmod x10;
 ck (0 ≤ x11)
 (ck (0 ≤ x11.toNat ∧ x11.toNat ≤ r2.1.2.1.size)
 (let x12 : ByteArray := r2.1.2.1.extract 0 x11.toNat;
 (impl_KeyText r2.1.1.1 r2.1.1.2.1 r2.1.1.2.2.1 r2.2.2.1 r2.1.1.2.2.2.2.1 r2.1.1.2.2.2.2.2.1 r2.1.1.2.2.2.2.2.2.1 r2.1.1.2.2.2.2.2.2.2.1 r2.2.2.2.1 r2.2.2.2.2.1 x12).bind fun r13 =>
 let x14 : Bool := decide (r13.1.2.1 < x11);
 br x14
 (let x15 : Bool := r5.1.2.1 == r13.1.2.1;
 br x15
 ((laws_same r13.1.1.1 r13.2.2.1 r13.2.2.2.1 r13.2.2.2.2.1 r13.1.1.2.2.2.2.1 r13.1.1.2.2.2.2.2.1 r13.1.1.2.2.2.2.2.2.1 r13.1.1.2.2.2.2.2.2.2.1 r13.2.2.2.2.2.1 r13.2.2.2.2.2.2.1 r5.1.1.1 r5.2.2.1 r5.2.2.2.1 r5.2.2.2.2.1 r5.1.1.2.2.2.2.1 r5.1.1.2.2.2.2.2.1 r5.1.1.2.2.2.2.2.2.1 r5.1.1.2.2.2.2.2.2.2.1 r5.2.2.2.2.2.1 r5.2.2.2.2.2.2.1).bind fun r16 =>
 some ((r16.1.1, ()), (), ()))
 (some ((false, ()), (), ())))
 (ck (0 ≤ x11)
 (ck (x11.toNat ≤ r2.1.2.1.size ∧ r2.1.2.1.size ≤ r2.1.2.1.size)
 (let x17 : ByteArray := r2.1.2.1.extract x11.toNat r2.1.2.1.size;
 (impl_KeyText r13.1.1.1 r13.2.2.1 r13.2.2.2.1 r13.2.2.2.2.1 r13.1.1.2.2.2.2.1 r13.1.1.2.2.2.2.2.1 r13.1.1.2.2.2.2.2.2.1 r13.1.1.2.2.2.2.2.2.2.1 r13.2.2.2.2.2.1 r13.2.2.2.2.2.2.1 x17).bind fun r18 =>
 let x19 : Bool := r13.1.2.1 == x11;
 br x19
 (let x20 : Int := w64 (x11 + r18.1.2.1);
 let x21 : Bool := r5.1.2.1 == x20;
 br x21
 ((laws_same r18.1.1.1 r18.2.2.1 r18.2.2.2.1 r18.2.2.2.2.1 r18.1.1.2.2.2.2.1 r18.1.1.2.2.2.2.2.1 r18.1.1.2.2.2.2.2.2.1 r18.1.1.2.2.2.2.2.2.2.1 r18.2.2.2.2.2.1 r18.2.2.2.2.2.2.1 r5.1.1.1 r5.2.2.1 r5.2.2.2.1 r5.2.2.2.2.1 r5.1.1.2.2.2.2.1 r5.1.1.2.2.2.2.2.1 r5.1.1.2.2.2.2.2.2.1 r5.1.1.2.2.2.2.2.2.2.1 r5.2.2.2.2.2.1 r5.2.2.2.2.2.2.1).bind fun r22 =>
 some ((r22.1.1, ()), (), ()))
 (some ((false, ()), (), ())))
 (some ((false, ()), (), ())))))))))))
noncomputable def laws_FnKeyed_C : Ctr := ⟨5, laws_FnKeyed_arg, laws_FnKeyed_res, fun x => laws_FnKeyed x.1.1, none⟩
def laws_FnKeyed_H : Hint := ⟨[], [], [], fun _ => []⟩
noncomputable def laws_FnKeyed_T : List Ctr := [spec_DrawKeyText_C, spec_MachineOk_C, impl_MachineOk_C, impl_KeyText_C, impl_ItemsOf_C, laws_at_C, laws_same_C]
noncomputable def laws_FnKeyed_Ls : List Lp := []
theorem laws_FnKeyed_e : ∀ x, laws_FnKeyed_C.F x = runBodyW E0 laws_FnKeyed_T laws_FnKeyed_Ls laws_FnKeyed_H 5 Try.f5.results.toList (bodyOf Try.f5) [] (laws_FnKeyed_arg.mk' x) laws_FnKeyed_res := fun x => by kernel_rfl
theorem laws_FnKeyed_ok : laws_FnKeyed_C.Ok E0 := fn_ok (T := laws_FnKeyed_T) (h := laws_FnKeyed_H) (Ls := laws_FnKeyed_Ls) E0_mixed (T_cons spec_DrawKeyText_ok (T_cons spec_MachineOk_ok (T_cons impl_MachineOk_ok (T_cons impl_KeyText_ok (T_cons impl_ItemsOf_ok (T_cons laws_at_ok (T_cons laws_same_ok T_nil))))))) Try.func5 (bodyOf_some (by kernel_rfl)) (by kernel_rfl) (loops_of (ks := []) (by kernel_rfl) trivial) laws_FnKeyed_e
end Go.Tree
