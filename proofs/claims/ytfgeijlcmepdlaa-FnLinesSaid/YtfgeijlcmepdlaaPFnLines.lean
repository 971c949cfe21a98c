/- What each function that the law FnLines reaches computes, as a plain function, and the proof that the program's code computes it. No condition but the function's own answer. -/
import Derived.Test.YtfgeijlcmepdlaaPFnLinesa
namespace Go.Tree
open Go Go.Proofs
set_option linter.unusedVariables false
set_option maxRecDepth 100000
def impl_copyMachine_arg : Sh := ⟨[(0, .agg [.str, .rd [] .i64, .rd [] .i64, .rd [] .mats, .int .i64, .int .i64, .int .i64, .int .i64, .rd [] .mat, .rd [] .mat])], [], []⟩
def impl_copyMachine_res : List Sh := [⟨[(0, .agg [.str, .own 0, .own 1, .own 2, .int .i64, .int .i64, .int .i64, .int .i64, .own 3, .own 4])], [], [(0, .i64), (1, .i64), (2, .mats), (3, .mat), (4, .mat)]⟩]
noncomputable def impl_copyMachine (a0_0 : ByteArray) (a0_1 : List Int) (a0_2 : List Int) (a0_3 : List (List (Int × Int))) (a0_4 : Int) (a0_5 : Int) (a0_6 : Int) (a0_7 : Int) (a0_8 : List (Int × Int)) (a0_9 : List (Int × Int)) : Option (((ByteArray × Unit × Unit × Unit × Int × Int × Int × Int × Unit × Unit × Unit) × Unit) × Unit × (List Int × List Int × List (List (Int × Int)) × List (Int × Int) × List (Int × Int) × Unit)) :=
 (Clone_int a0_1).bind fun r1 =>
 (Clone_int a0_2).bind fun r2 =>
 (impl_copyMagazine a0_3).bind fun r3 =>
 (Clone_Matrix a0_8).bind fun r4 =>
 (Clone_Matrix a0_9).bind fun r5 =>
 some (((a0_0, (), (), (), a0_4, a0_5, a0_6, a0_7, (), (), ()), ()), (), (r1.2.2.1, r2.2.2.1, r3.2.2.1, r4.2.2.1, r5.2.2.1, ()))
noncomputable def impl_copyMachine_C : Ctr := ⟨47, impl_copyMachine_arg, impl_copyMachine_res, fun x => impl_copyMachine x.1.1.1 x.1.1.2.1 x.1.1.2.2.1 x.1.1.2.2.2.1 x.1.1.2.2.2.2.1 x.1.1.2.2.2.2.2.1 x.1.1.2.2.2.2.2.2.1 x.1.1.2.2.2.2.2.2.2.1 x.1.1.2.2.2.2.2.2.2.2.1 x.1.1.2.2.2.2.2.2.2.2.2.1, none⟩
def impl_copyMachine_H : Hint := ⟨[], [], [], fun _ => []⟩
noncomputable def impl_copyMachine_T : List Ctr := [Clone_int_C, impl_copyMagazine_C, Clone_Matrix_C]
noncomputable def impl_copyMachine_Ls : List Lp := []
theorem impl_copyMachine_e : ∀ x, impl_copyMachine_C.F x = runBodyW E0 impl_copyMachine_T impl_copyMachine_Ls impl_copyMachine_H 47 Try.f47.results.toList (bodyOf Try.f47) [] (impl_copyMachine_arg.mk' x) impl_copyMachine_res := fun x => by kernel_rfl
theorem impl_copyMachine_ok : impl_copyMachine_C.Ok E0 := fn_ok (T := impl_copyMachine_T) (h := impl_copyMachine_H) (Ls := impl_copyMachine_Ls) E0_mixed (T_cons Clone_int_ok (T_cons impl_copyMagazine_ok (T_cons Clone_Matrix_ok T_nil))) Try.func47 (bodyOf_some (by kernel_rfl)) (by kernel_rfl) (loops_of (ks := []) (by kernel_rfl) trivial) impl_copyMachine_e
def impl_key_arg : Sh := ⟨[(0, .agg [.str, .rd [] .i64, .rd [] .i64]), (1, .c (.int .i64))], [], []⟩
def impl_key_res : List Sh := [⟨[(0, .c (.int .i64))], [], []⟩]
noncomputable def impl_key_s0 (x : (Int × Unit × Int × Int × Unit) × ((ByteArray × List Int × List Int × Unit) × Unit) × Unit) : Option (((Int × Unit × Int × Int × Unit) × ((ByteArray × List Int × List Int × Unit) × Unit) × Unit) ⊕ (((Int × Unit) × Unit × Unit) ⊕ (Unit × Unit × Unit))) :=
 let x1 : Bool := decide (x.1.2.2.2.1 < x.1.2.2.1);
 br x1
 (ck (0 ≤ x.1.2.2.2.1 ∧ x.1.2.2.2.1.toNat < x.2.1.1.1.size)
 (let x2 : Int := byteAt x.2.1.1.1 x.1.2.2.2.1.toNat;
 let x3 : Int := w64 x2;
 let x4 : Bool := x3 == x.1.1;
 br x4
 (some (.inr (.inl ((x.1.2.2.2.1, ()), (), ()))))
 (let x5 : Int := w64 (x.1.2.2.2.1 + (1 : Int));
 some (.inl ((x.1.1, (), x.1.2.2.1, x5, ()), ((x.2.1.1.1, x.2.1.1.2.1, x.2.1.1.2.2.1, ()), ()), ())))))
 (some (.inr (.inr ((), (), ()))))
def impl_key_h0 : Sh := ⟨[(1, .c (.int .i64)), (2, .c (.box 0 0)), (8, .c (.int .i64)), (9, .c (.int .i64))], [(0, .cells [.str, .rd [] .i64, .rd [] .i64])], []⟩
def impl_key_r0 : List Sh := [⟨[(4, .c (.int .i64))], [], []⟩, ⟨[], [], []⟩]
noncomputable def impl_key_L0 : Lp := ⟨0, [], impl_key_h0, [], [(.ret, []), (.exit 0, [])], impl_key_r0, loopC impl_key_s0⟩
noncomputable def impl_key (a0_0 : ByteArray) (a0_1 : List Int) (a0_2 : List Int) (a1 : Int) : Option ((Int × Unit) × Unit × Unit) :=
 (loopC impl_key_s0 ((a1, (), (a0_0.size : Int), (0 : Int), ()), ((a0_0, a0_1, a0_2, ()), ()), ())).bind fun r6 =>
 sumK r6 (fun y9 =>
 some ((y9.1.1, ()), (), ())) (fun y10 =>
 some (((-1 : Int), ()), (), ()))
noncomputable def impl_key_C : Ctr := ⟨48, impl_key_arg, impl_key_res, fun x => impl_key x.1.1.1 x.1.1.2.1 x.1.1.2.2.1 x.1.2.1, none⟩
def impl_key_H : Hint := ⟨[], [], [], fun _ => []⟩
noncomputable def impl_key_T : List Ctr := []
noncomputable def impl_key_Ls : List Lp := [impl_key_L0]
theorem impl_key_l0 : ∀ x, impl_key_s0 x = stepW E0 impl_key_T impl_key_Ls impl_key_H (loopAt (bodyOf Try.f48) 0) 0 impl_key_h0 [] [(.ret, []), (.exit 0, [])] impl_key_r0 x := fun x => by kernel_rfl
theorem impl_key_e : ∀ x, impl_key_C.F x = runBodyW E0 impl_key_T impl_key_Ls impl_key_H 48 Try.f48.results.toList (bodyOf Try.f48) [] (impl_key_arg.mk' x) impl_key_res := fun x => by kernel_rfl
theorem impl_key_ok : impl_key_C.Ok E0 := fn_ok (T := impl_key_T) (h := impl_key_H) (Ls := impl_key_Ls) E0_mixed T_nil Try.func48 (bodyOf_some (by kernel_rfl)) (by kernel_rfl) (loops_of (ks := [0]) (by kernel_rfl) ⟨(loop_one (h := impl_key_H) (own := []) (head := impl_key_h0) (back := []) (exs := [(.ret, []), (.exit 0, [])]) (res := impl_key_r0) (step := impl_key_s0) (by kernel_rfl) impl_key_l0), trivial⟩) impl_key_e
def impl_KeyText_arg : Sh := ⟨[(0, .agg [.str, .rd [] .i64, .rd [] .i64, .rd [] .mats, .int .i64, .int .i64, .int .i64, .int .i64, .rd [] .mat, .rd [] .mat]), (1, .c (.str))], [], []⟩
def impl_KeyText_res : List Sh := [⟨[(0, .agg [.str, .own 0, .own 1, .own 2, .int .i64, .int .i64, .int .i64, .int .i64, .own 3, .own 4]), (1, .c (.int .i64))], [], [(0, .i64), (1, .i64), (2, .mats), (3, .mat), (4, .mat)]⟩]
noncomputable def impl_KeyText_s0 (x : (ByteArray × Unit × Unit × Int × Int × Unit) × ((ByteArray × Unit × Unit × Unit × Int × Int × Int × Int × Unit × Unit × Unit) × (ByteArray × Unit × Unit × Unit × Int × Int × Int × Int × Unit × Unit × Unit) × Unit) × (List Int × List Int × List (List (Int × Int)) × List (Int × Int) × List (Int × Int) × Unit)) : Option (((ByteArray × Unit × Unit × Int × Int × Unit) × ((ByteArray × Unit × Unit × Unit × Int × Int × Int × Int × Unit × Unit × Unit) × (ByteArray × Unit × Unit × Unit × Int × Int × Int × Int × Unit × Unit × Unit) × Unit) × (List Int × List Int × List (List (Int × Int)) × List (Int × Int) × List (Int × Int) × Unit)) ⊕ (((Unit × Int × Unit) × ((ByteArray × Unit × Unit × Unit × Int × Int × Int × Int × Unit × Unit × Unit) × Unit) × (List Int × List Int × List (List (Int × Int)) × List (Int × Int) × List (Int × Int) × Unit)) ⊕ ((ByteArray × Unit × Unit × Unit) × ((ByteArray × Unit × Unit × Unit × Int × Int × Int × Int × Unit × Unit × Unit) × (ByteArray × Unit × Unit × Unit × Int × Int × Int × Int × Unit × Unit × Unit) × Unit) × (List Int × List Int × List (List (Int × Int)) × List (Int × Int) × List (Int × Int) × Unit)))) :=
 let x3 : Bool := decide (x.1.2.2.2.2.1 < x.1.2.2.2.1);
 br x3
 (ck (0 ≤ x.1.2.2.2.2.1 ∧ x.1.2.2.2.2.1.toNat < x.1.1.size)
 (let x4 : Int := byteAt x.1.1 x.1.2.2.2.2.1.toNat;
 let x5 : Bool := x4 == (32 : Int);
 br x5
 (let x6 : Bool := x.2.1.1.2.2.2.2.1 == (0 : Int);
 br x6
 (some (.inr (.inl (((), x.1.2.2.2.2.1, ()), ((x.2.1.1.1, (), (), (), x.2.1.1.2.2.2.2.1, x.2.1.1.2.2.2.2.2.1, x.2.1.1.2.2.2.2.2.2.1, x.2.1.1.2.2.2.2.2.2.2.1, (), (), ()), ()), (x.2.2.1, x.2.2.2.1, x.2.2.2.2.1, x.2.2.2.2.2.1, x.2.2.2.2.2.2.1, ())))))
 (let w13 : Option (((ByteArray × Unit × Unit × Int × Int × Unit) × ((ByteArray × Unit × Unit × Unit × Int × Int × Int × Int × Unit × Unit × Unit) × (ByteArray × Unit × Unit × Unit × Int × Int × Int × Int × Unit × Unit × Unit) × Unit) × (List Int × List Int × List (List (Int × Int)) × List (Int × Int) × List (Int × Int) × Unit)) ⊕ (((Unit × Int × Unit) × ((ByteArray × Unit × Unit × Unit × Int × Int × Int × Int × Unit × Unit × Unit) × Unit) × (List Int × List Int × List (List (Int × Int)) × List (Int × Int) × List (Int × Int) × Unit)) ⊕ ((ByteArray × Unit × Unit × Unit) × ((ByteArray × Unit × Unit × Unit × Int × Int × Int × Int × Unit × Unit × Unit) × (ByteArray × Unit × Unit × Unit × Int × Int × Int × Int × Unit × Unit × Unit) × Unit) × (List Int × List Int × List (List (Int × Int)) × List (Int × Int) × List (Int × Int) × Unit)))) := ((Clone_Matrix x.2.2.2.2.2.1).bind fun r7 =>
 ck ((r7.2.2.1.length + [((-1 : Int), (0 : Int))].length) * 16 ≤ 140737488355328 ∧ (r7.2.2.1.length + [((-1 : Int), (0 : Int))].length) ≤ 9223372036854775807)
 (let x8 : List (Int × Int) := r7.2.2.1 ++ [((-1 : Int), (0 : Int))];
 (impl_items x.2.1.1.1 x.2.2.1 x.2.2.2.1 x8).bind fun r9 =>
 (impl_fits x.2.1.1.2.2.2.2.2.1 x.2.1.1.2.2.2.2.2.2.1 x.2.1.1.2.2.2.2.2.2.2.1 r9.2.2.1).bind fun r10 =>
 br (!r10.1.1)
 (some (.inr (.inl (((), x.1.2.2.2.2.1, ()), ((x.2.1.1.1, (), (), (), x.2.1.1.2.2.2.2.1, x.2.1.1.2.2.2.2.2.1, x.2.1.1.2.2.2.2.2.2.1, x.2.1.1.2.2.2.2.2.2.2.1, (), (), ()), ()), (x.2.2.1, x.2.2.2.1, x.2.2.2.2.1, x.2.2.2.2.2.1, x.2.2.2.2.2.2.1, ())))))
 (let x11 : Int := w64 (x.2.1.1.2.2.2.2.1 - (1 : Int));
 let x12 : Int := w64 (x.1.2.2.2.2.1 + (1 : Int));
 some (.inl ((x.1.1, (), (), x.1.2.2.2.1, x12, ()), ((x.2.1.1.1, (), (), (), x11, x.2.1.1.2.2.2.2.2.1, x.2.1.1.2.2.2.2.2.2.1, x.2.1.1.2.2.2.2.2.2.2.1, (), (), ()), (x.2.1.2.1.1, (), (), (), x.2.1.2.1.2.2.2.2.1, x.2.1.2.1.2.2.2.2.2.1, x.2.1.2.1.2.2.2.2.2.2.1, x.2.1.2.1.2.2.2.2.2.2.2.1, (), (), ()), ()), (x.2.2.1, x.2.2.2.1, x.2.2.2.2.1, x8, x.2.2.2.2.2.2.1, ()))))));
 both w13 (w13)))
 (ck (0 ≤ x.1.2.2.2.2.1 ∧ x.1.2.2.2.2.1.toNat < x.1.1.size)
 (let x14 : Int := w64 x4;
 (impl_key x.2.1.1.1 x.2.2.1 x.2.2.2.1 x14).bind fun r15 =>
 let x16 : Bool := decide (r15.1.1 < (0 : Int));
 br x16
 (some (.inr (.inl (((), x.1.2.2.2.2.1, ()), ((x.2.1.1.1, (), (), (), x.2.1.1.2.2.2.2.1, x.2.1.1.2.2.2.2.2.1, x.2.1.1.2.2.2.2.2.2.1, x.2.1.1.2.2.2.2.2.2.2.1, (), (), ()), ()), (x.2.2.1, x.2.2.2.1, x.2.2.2.2.1, x.2.2.2.2.2.1, x.2.2.2.2.2.2.1, ())))))
 (ck (0 ≤ r15.1.1)
 (ck (r15.1.1.toNat < x.2.2.2.2.1.length)
 (ck (r15.1.1.toNat < x.2.2.2.2.1.length)
 (ck (r15.1.1.toNat < x.2.2.2.2.1.length)
 (let x17 : Bool := ((x.2.2.2.2.1.getD r15.1.1.toNat []).length : Int) == (0 : Int);
 br x17
 (some (.inr (.inl (((), x.1.2.2.2.2.1, ()), ((x.2.1.1.1, (), (), (), x.2.1.1.2.2.2.2.1, x.2.1.1.2.2.2.2.2.1, x.2.1.1.2.2.2.2.2.2.1, x.2.1.1.2.2.2.2.2.2.2.1, (), (), ()), ()), (x.2.2.1, x.2.2.2.1, x.2.2.2.2.1, x.2.2.2.2.2.1, x.2.2.2.2.2.2.1, ())))))
 (ck (0 ≤ r15.1.1)
 (ck (r15.1.1.toNat < x.2.2.2.2.1.length)
 (ck (r15.1.1.toNat < x.2.2.2.2.1.length)
 (ck (r15.1.1.toNat < x.2.2.2.2.1.length ∧ 0 < (x.2.2.2.2.1.getD r15.1.1.toNat []).length)
 (ck (r15.1.1.toNat < x.2.2.2.2.1.length ∧ 0 < (x.2.2.2.2.1.getD r15.1.1.toNat []).length)
 (let x18 : Int := ((x.2.2.2.2.1.getD r15.1.1.toNat []).getD 0 (0, 0)).1;
 let x19 : Int := ((x.2.2.2.2.1.getD r15.1.1.toNat []).getD 0 (0, 0)).2;
 let w30 : Option (((ByteArray × Unit × Unit × Int × Int × Unit) × ((ByteArray × Unit × Unit × Unit × Int × Int × Int × Int × Unit × Unit × Unit) × (ByteArray × Unit × Unit × Unit × Int × Int × Int × Int × Unit × Unit × Unit) × Unit) × (List Int × List Int × List (List (Int × Int)) × List (Int × Int) × List (Int × Int) × Unit)) ⊕ (((Unit × Int × Unit) × ((ByteArray × Unit × Unit × Unit × Int × Int × Int × Int × Unit × Unit × Unit) × Unit) × (List Int × List Int × List (List (Int × Int)) × List (Int × Int) × List (Int × Int) × Unit)) ⊕ ((ByteArray × Unit × Unit × Unit) × ((ByteArray × Unit × Unit × Unit × Int × Int × Int × Int × Unit × Unit × Unit) × (ByteArray × Unit × Unit × Unit × Int × Int × Int × Int × Unit × Unit × Unit) × Unit) × (List Int × List Int × List (List (Int × Int)) × List (Int × Int) × List (Int × Int) × Unit)))) := ((Clone_Matrix x.2.2.2.2.2.1).bind fun r20 =>
 ck ((r20.2.2.1.length + [(x18, x19)].length) * 16 ≤ 140737488355328 ∧ (r20.2.2.1.length + [(x18, x19)].length) ≤ 9223372036854775807)
 (let x21 : List (Int × Int) := r20.2.2.1 ++ [(x18, x19)];
 (impl_items x.2.1.1.1 x.2.2.1 x.2.2.2.1 x21).bind fun r22 =>
 (impl_fits x.2.1.1.2.2.2.2.2.1 x.2.1.1.2.2.2.2.2.2.1 x.2.1.1.2.2.2.2.2.2.2.1 r22.2.2.1).bind fun r23 =>
 br (!r23.1.1)
 (some (.inr (.inl (((), x.1.2.2.2.2.1, ()), ((x.2.1.1.1, (), (), (), x.2.1.1.2.2.2.2.1, x.2.1.1.2.2.2.2.2.1, x.2.1.1.2.2.2.2.2.2.1, x.2.1.1.2.2.2.2.2.2.2.1, (), (), ()), ()), (x.2.2.1, x.2.2.2.1, x.2.2.2.2.1, x.2.2.2.2.2.1, x.2.2.2.2.2.2.1, ())))))
 (br x16
 (let x24 : Int := w64 (x.2.1.1.2.2.2.2.1 - (1 : Int));
 let x25 : Int := w64 (x.1.2.2.2.2.1 + (1 : Int));
 some (.inl ((x.1.1, (), (), x.1.2.2.2.1, x25, ()), ((x.2.1.1.1, (), (), (), x24, x.2.1.1.2.2.2.2.2.1, x.2.1.1.2.2.2.2.2.2.1, x.2.1.1.2.2.2.2.2.2.2.1, (), (), ()), (x.2.1.2.1.1, (), (), (), x.2.1.2.1.2.2.2.2.1, x.2.1.2.1.2.2.2.2.2.1, x.2.1.2.1.2.2.2.2.2.2.1, x.2.1.2.1.2.2.2.2.2.2.2.1, (), (), ()), ()), (x.2.2.1, x.2.2.2.1, x.2.2.2.2.1, x21, x.2.2.2.2.2.2.1, ()))))
 (ck (0 ≤ r15.1.1)
 (ck (r15.1.1.toNat < x.2.2.2.2.1.length)
 (ck (r15.1.1.toNat < x.2.2.2.2.1.length)
 (ck (r15.1.1.toNat < x.2.2.2.2.1.length)
 (let x26 : List (Int × Int) := x.2.2.2.2.1.getD r15.1.1.toNat [];
 ck (1 ≤ x26.length ∧ x26.length ≤ x26.length)
 (let x27 : List (Int × Int) := cut x26 1 x26.length;
 ck (0 ≤ r15.1.1)
 (ck (r15.1.1.toNat < x.2.2.2.2.1.length)
 (ck (r15.1.1.toNat = r15.1.1.toNat ∧ r15.1.1.toNat < x.2.2.2.2.1.length)
 (let x28 : List (List (Int × Int)) := x.2.2.2.2.1.set r15.1.1.toNat x27;
 let x29 : Int := w64 (x.1.2.2.2.2.1 + (1 : Int));
 some (.inl ((x.1.1, (), (), x.1.2.2.2.1, x29, ()), ((x.2.1.1.1, (), (), (), x.2.1.1.2.2.2.2.1, x.2.1.1.2.2.2.2.2.1, x.2.1.1.2.2.2.2.2.2.1, x.2.1.1.2.2.2.2.2.2.2.1, (), (), ()), (x.2.1.2.1.1, (), (), (), x.2.1.2.1.2.2.2.2.1, x.2.1.2.1.2.2.2.2.2.1, x.2.1.2.1.2.2.2.2.2.2.1, x.2.1.2.1.2.2.2.2.2.2.2.1, (), (), ()), ()), (x.2.2.1, x.2.2.2.1, x28, x21, x.2.2.2.2.2.2.1, ())))))))))))))));
 both w30 (w30))))))))))))))))
 (some (.inr (.inr ((x.1.1, (), (), ()), ((x.2.1.1.1, (), (), (), x.2.1.1.2.2.2.2.1, x.2.1.1.2.2.2.2.2.1, x.2.1.1.2.2.2.2.2.2.1, x.2.1.1.2.2.2.2.2.2.2.1, (), (), ()), (x.2.1.2.1.1, (), (), (), x.2.1.2.1.2.2.2.2.1, x.2.1.2.1.2.2.2.2.2.1, x.2.1.2.1.2.2.2.2.2.2.1, x.2.1.2.1.2.2.2.2.2.2.2.1, (), (), ()), ()), (x.2.2.1, x.2.2.2.1, x.2.2.2.2.1, x.2.2.2.2.2.1, x.2.2.2.2.2.2.1, ())))))
def impl_KeyText_h0 : Sh := ⟨[(1, .c (.str)), (2, .c (.box 0 0)), (4, .c (.box 1 0)), (17, .c (.int .i64)), (18, .c (.int .i64))], [(0, .cells [.str, .own 0, .own 1, .own 2, .int .i64, .int .i64, .int .i64, .int .i64, .own 3, .own 4]), (1, .cells [.str, .nil, .nil, .nil, .int .i64, .int .i64, .int .i64, .int .i64, .nil, .nil])], [(0, .i64), (1, .i64), (2, .mats), (3, .mat), (4, .mat)]⟩
def impl_KeyText_r0 : List Sh := [⟨[(4, .c (.box 0 0)), (5, .c (.int .i64))], [(0, .cells [.str, .own 0, .own 1, .own 2, .int .i64, .int .i64, .int .i64, .int .i64, .own 3, .own 4])], [(0, .i64), (1, .i64), (2, .mats), (3, .mat), (4, .mat)]⟩, ⟨[(1, .c (.str)), (2, .c (.box 0 0)), (4, .c (.box 1 0))], [(0, .cells [.str, .own 0, .own 1, .own 2, .int .i64, .int .i64, .int .i64, .int .i64, .own 3, .own 4]), (1, .cells [.str, .nil, .nil, .nil, .int .i64, .int .i64, .int .i64, .int .i64, .nil, .nil])], [(0, .i64), (1, .i64), (2, .mats), (3, .mat), (4, .mat)]⟩]
noncomputable def impl_KeyText_L0 : Lp := ⟨0, [], impl_KeyText_h0, [], [(.ret, []), (.exit 0, [])], impl_KeyText_r0, loopC impl_KeyText_s0⟩
noncomputable def impl_KeyText (a0_0 : ByteArray) (a0_1 : List Int) (a0_2 : List Int) (a0_3 : List (List (Int × Int))) (a0_4 : Int) (a0_5 : Int) (a0_6 : Int) (a0_7 : Int) (a0_8 : List (Int × Int)) (a0_9 : List (Int × Int)) (a1 : ByteArray) : Option (((ByteArray × Unit × Unit × Unit × Int × Int × Int × Int × Unit × Unit × Unit) × Int × Unit) × Unit × (List Int × List Int × List (List (Int × Int)) × List (Int × Int) × List (Int × Int) × Unit)) :=
 (impl_MachineOk a0_0 a0_1 a0_2 a0_3 a0_4 a0_5 a0_6 a0_7 a0_8 a0_9).bind fun r1 =>
 br (!r1.1.1)
 (some (((ByteArray.empty, (), (), (), (0 : Int), (0 : Int), (0 : Int), (0 : Int), (), (), ()), (-1 : Int), ()), (), ([], [], [], [], [], ())))
 ((impl_copyMachine a0_0 a0_1 a0_2 a0_3 a0_4 a0_5 a0_6 a0_7 a0_8 a0_9).bind fun r2 =>
 (loopC impl_KeyText_s0 ((a1, (), (), (a1.size : Int), (0 : Int), ()), ((r2.1.1.1, (), (), (), r2.1.1.2.2.2.2.1, r2.1.1.2.2.2.2.2.1, r2.1.1.2.2.2.2.2.2.1, r2.1.1.2.2.2.2.2.2.2.1, (), (), ()), (ByteArray.empty, (), (), (), (0 : Int), (0 : Int), (0 : Int), (0 : Int), (), (), ()), ()), (r2.2.2.1, r2.2.2.2.1, r2.2.2.2.2.1, r2.2.2.2.2.2.1, r2.2.2.2.2.2.2.1, ()))).bind fun r31 =>
 sumK r31 (fun y34 =>
 some (((y34.2.1.1.1, (), (), (), y34.2.1.1.2.2.2.2.1, y34.2.1.1.2.2.2.2.2.1, y34.2.1.1.2.2.2.2.2.2.1, y34.2.1.1.2.2.2.2.2.2.2.1, (), (), ()), y34.1.2.1, ()), (), (y34.2.2.1, y34.2.2.2.1, y34.2.2.2.2.1, y34.2.2.2.2.2.1, y34.2.2.2.2.2.2.1, ()))) (fun y35 =>
 some (((y35.2.1.1.1, (), (), (), y35.2.1.1.2.2.2.2.1, y35.2.1.1.2.2.2.2.2.1, y35.2.1.1.2.2.2.2.2.2.1, y35.2.1.1.2.2.2.2.2.2.2.1, (), (), ()), (y35.1.1.size : Int), ()), (), (y35.2.2.1, y35.2.2.2.1, y35.2.2.2.2.1, y35.2.2.2.2.2.1, y35.2.2.2.2.2.2.1, ()))))
noncomputable def impl_KeyText_C : Ctr := ⟨13, impl_KeyText_arg, impl_KeyText_res, fun x => impl_KeyText x.1.1.1 x.1.1.2.1 x.1.1.2.2.1 x.1.1.2.2.2.1 x.1.1.2.2.2.2.1 x.1.1.2.2.2.2.2.1 x.1.1.2.2.2.2.2.2.1 x.1.1.2.2.2.2.2.2.2.1 x.1.1.2.2.2.2.2.2.2.2.1 x.1.1.2.2.2.2.2.2.2.2.2.1 x.1.2.1, none⟩
def impl_KeyText_H : Hint := ⟨[88], [], [], fun _ => []⟩
noncomputable def impl_KeyText_T : List Ctr := [impl_MachineOk_C, impl_copyMachine_C, Clone_Matrix_C, impl_items_C, impl_fits_C, impl_key_C]
noncomputable def impl_KeyText_Ls : List Lp := [impl_KeyText_L0]
theorem impl_KeyText_l0 : ∀ x, impl_KeyText_s0 x = stepW E0 impl_KeyText_T impl_KeyText_Ls impl_KeyText_H (loopAt (bodyOf Try.f13) 0) 0 impl_KeyText_h0 [] [(.ret, []), (.exit 0, [])] impl_KeyText_r0 x := fun x => by kernel_rfl
theorem impl_KeyText_e : ∀ x, impl_KeyText_C.F x = runBodyW E0 impl_KeyText_T impl_KeyText_Ls impl_KeyText_H 13 Try.f13.results.toList (bodyOf Try.f13) [(.bx 4 1, 6000000, .i64), (.bx 4 2, 6000001, .i64), (.bx 4 3, 6000002, .mats), (.bx 4 8, 6000003, .mat), (.bx 4 9, 6000004, .mat)] (impl_KeyText_arg.mk' x) impl_KeyText_res := fun x => by kernel_rfl
theorem impl_KeyText_ok : impl_KeyText_C.Ok E0 := fn_ok (T := impl_KeyText_T) (h := impl_KeyText_H) (Ls := impl_KeyText_Ls) E0_mixed (T_cons impl_MachineOk_ok (T_cons impl_copyMachine_ok (T_cons Clone_Matrix_ok (T_cons impl_items_ok (T_cons impl_fits_ok (T_cons impl_key_ok T_nil)))))) Try.func13 (bodyOf_some (by kernel_rfl)) (by kernel_rfl) (loops_of (ks := [0]) (by kernel_rfl) ⟨(loop_one (h := impl_KeyText_H) (own := []) (head := impl_KeyText_h0) (back := []) (exs := [(.ret, []), (.exit 0, [])]) (res := impl_KeyText_r0) (step := impl_KeyText_s0) (by kernel_rfl) impl_KeyText_l0), trivial⟩) impl_KeyText_e
def impl_ItemsOf_arg : Sh := ⟨[(0, .agg [.str, .rd [] .i64, .rd [] .i64, .rd [] .mats, .int .i64, .int .i64, .int .i64, .int .i64, .rd [] .mat, .rd [] .mat])], [], []⟩
def impl_ItemsOf_res : List Sh := [⟨[(0, .c (.own 0))], [], [(0, .i64)]⟩]
noncomputable def impl_ItemsOf (a0_0 : ByteArray) (a0_1 : List Int) (a0_2 : List Int) (a0_3 : List (List (Int × Int))) (a0_4 : Int) (a0_5 : Int) (a0_6 : Int) (a0_7 : Int) (a0_8 : List (Int × Int)) (a0_9 : List (Int × Int)) : Option ((Unit × Unit) × Unit × (List Int × Unit)) :=
 (impl_MachineOk a0_0 a0_1 a0_2 a0_3 a0_4 a0_5 a0_6 a0_7 a0_8 a0_9).bind fun r1 =>
 br (!r1.1.1)
 (some (((), ()), (), ([], ())))
 ((impl_items a0_0 a0_1 a0_2 a0_8).bind fun r2 =>
 some (((), ()), (), (r2.2.2.1, ())))
noncomputable def impl_ItemsOf_C : Ctr := ⟨26, impl_ItemsOf_arg, impl_ItemsOf_res, fun x => impl_ItemsOf x.1.1.1 x.1.1.2.1 x.1.1.2.2.1 x.1.1.2.2.2.1 x.1.1.2.2.2.2.1 x.1.1.2.2.2.2.2.1 x.1.1.2.2.2.2.2.2.1 x.1.1.2.2.2.2.2.2.2.1 x.1.1.2.2.2.2.2.2.2.2.1 x.1.1.2.2.2.2.2.2.2.2.2.1, none⟩
def impl_ItemsOf_H : Hint := ⟨[], [], [], fun _ => []⟩
noncomputable def impl_ItemsOf_T : List Ctr := [impl_MachineOk_C, impl_items_C]
noncomputable def impl_ItemsOf_Ls : List Lp := []
theorem impl_ItemsOf_e : ∀ x, impl_ItemsOf_C.F x = runBodyW E0 impl_ItemsOf_T impl_ItemsOf_Ls impl_ItemsOf_H 26 Try.f26.results.toList (bodyOf Try.f26) [(.tm 2, 6000000, .i64)] (impl_ItemsOf_arg.mk' x) impl_ItemsOf_res := fun x => by kernel_rfl
theorem impl_ItemsOf_ok : impl_ItemsOf_C.Ok E0 := fn_ok (T := impl_ItemsOf_T) (h := impl_ItemsOf_H) (Ls := impl_ItemsOf_Ls) E0_mixed (T_cons impl_MachineOk_ok (T_cons impl_items_ok T_nil)) Try.func26 (bodyOf_some (by kernel_rfl)) (by kernel_rfl) (loops_of (ks := []) (by kernel_rfl) trivial) impl_ItemsOf_e
def impl_full_arg : Sh := ⟨[(0, .agg [.int .i64, .int .i64, .int .i64]), (1, .c (.int .i64)), (2, .c (.int .i64))], [], []⟩
def impl_full_res : List Sh := [⟨[(0, .c (.bool))], [], []⟩]
noncomputable def impl_full (a0_0 : Int) (a0_1 : Int) (a0_2 : Int) (a1 : Int) (a2 : Int) : Option ((Bool × Unit) × Unit × Unit) :=
 (impl_spread a0_0 a0_1 a0_2 a1 a2).bind fun r1 =>
 br r1.1.2.2.1
 (let x2 : Bool := r1.1.2.1 == (0 : Int);
 br x2
 (some ((true, ()), (), ()))
 (let x3 : Bool := decide (r1.1.2.1 < a2);
 some ((x3, ()), (), ())))
 (some ((false, ()), (), ()))
noncomputable def impl_full_C : Ctr := ⟨86, impl_full_arg, impl_full_res, fun x => impl_full x.1.1.1 x.1.1.2.1 x.1.1.2.2.1 x.1.2.1 x.1.2.2.1, none⟩
def impl_full_H : Hint := ⟨[], [], [], fun _ => []⟩
noncomputable def impl_full_T : List Ctr := [impl_spread_C]
noncomputable def impl_full_Ls : List Lp := []
theorem impl_full_e : ∀ x, impl_full_C.F x = runBodyW E0 impl_full_T impl_full_Ls impl_full_H 86 Try.f86.results.toList (bodyOf Try.f86) [] (impl_full_arg.mk' x) impl_full_res := fun x => by kernel_rfl
theorem impl_full_ok : impl_full_C.Ok E0 := fn_ok (T := impl_full_T) (h := impl_full_H) (Ls := impl_full_Ls) E0_mixed (T_cons impl_spread_ok T_nil) Try.func86 (bodyOf_some (by kernel_rfl)) (by kernel_rfl) (loops_of (ks := []) (by kernel_rfl) trivial) impl_full_e
def impl_IsFull_arg : Sh := ⟨[(0, .agg [.int .i64, .int .i64, .int .i64]), (1, .c (.rd [] .i64))], [], []⟩
def impl_IsFull_res : List Sh := [⟨[(0, .c (.bool))], [], []⟩]
noncomputable def impl_IsFull (a0_0 : Int) (a0_1 : Int) (a0_2 : Int) (a1 : List Int) : Option ((Bool × Unit) × Unit × Unit) :=
 (impl_lettersAndBands a1).bind fun r1 =>
 (impl_MeasureOk a0_0 a0_1 a0_2).bind fun r2 =>
 br r2.1.1
 ((impl_LineOk a1).bind fun r3 =>
 br r3.1.1
 ((impl_full a0_0 a0_1 a0_2 r1.1.1 r1.1.2.1).bind fun r4 =>
 some ((r4.1.1, ()), (), ()))
 (some ((false, ()), (), ())))
 (some ((false, ()), (), ()))
noncomputable def impl_IsFull_C : Ctr := ⟨43, impl_IsFull_arg, impl_IsFull_res, fun x => impl_IsFull x.1.1.1 x.1.1.2.1 x.1.1.2.2.1 x.1.2.1, none⟩
def impl_IsFull_H : Hint := ⟨[], [], [], fun _ => []⟩
noncomputable def impl_IsFull_T : List Ctr := [impl_lettersAndBands_C, impl_MeasureOk_C, impl_LineOk_C, impl_full_C]
noncomputable def impl_IsFull_Ls : List Lp := []
theorem impl_IsFull_e : ∀ x, impl_IsFull_C.F x = runBodyW E0 impl_IsFull_T impl_IsFull_Ls impl_IsFull_H 43 Try.f43.results.toList (bodyOf Try.f43) [] (impl_IsFull_arg.mk' x) impl_IsFull_res := fun x => by kernel_rfl
theorem impl_IsFull_ok : impl_IsFull_C.Ok E0 := fn_ok (T := impl_IsFull_T) (h := impl_IsFull_H) (Ls := impl_IsFull_Ls) E0_mixed (T_cons impl_lettersAndBands_ok (T_cons impl_MeasureOk_ok (T_cons impl_LineOk_ok (T_cons impl_full_ok T_nil)))) Try.func43 (bodyOf_some (by kernel_rfl)) (by kernel_rfl) (loops_of (ks := []) (by kernel_rfl) trivial) impl_IsFull_e
def impl_LineText_arg : Sh := ⟨[(0, .agg [.str, .rd [] .i64, .rd [] .i64, .rd [] .mats, .int .i64, .int .i64, .int .i64, .int .i64, .rd [] .mat, .rd [] .mat])], [], []⟩
def impl_LineText_res : List Sh := [⟨[(0, .c (.str))], [], []⟩]
noncomputable def impl_LineText_s0 (x : (Unit × Unit × List (Int × Int) × Int × Int × Unit) × ((ByteArray × List Int × List Int × List (List (Int × Int)) × Int × Int × Int × Int × List (Int × Int) × List (Int × Int) × Unit) × Unit) × (List Int × Unit)) : Option (((Unit × Unit × List (Int × Int) × Int × Int × Unit) × ((ByteArray × List Int × List Int × List (List (Int × Int)) × Int × Int × Int × Int × List (Int × Int) × List (Int × Int) × Unit) × Unit) × (List Int × Unit)) ⊕ ((Unit × Unit) × Unit × (List Int × Unit))) :=
 let x2 : Bool := decide (x.1.2.2.2.2.1 < x.1.2.2.2.1);
 br x2
 (ck (0 ≤ x.1.2.2.2.2.1)
 (ck (x.1.2.2.2.2.1.toNat < x.1.2.2.1.length)
 (let x3 : Int × Int := x.1.2.2.1.getD x.1.2.2.2.2.1.toNat (0, 0);
 (impl_isBand x3.1 x3.2).bind fun r4 =>
 br r4.1.1
 (ck ((x.2.2.1.length + [(32 : Int)].length) * 1 ≤ 140737488355328 ∧ (x.2.2.1.length + [(32 : Int)].length) ≤ 9223372036854775807)
 (let x5 : List Int := x.2.2.1 ++ [(32 : Int)];
 let x6 : Int := w64 (x.1.2.2.2.2.1 + (1 : Int));
 some (.inl (((), (), x.1.2.2.1, x.1.2.2.2.1, x6, ()), ((x.2.1.1.1, x.2.1.1.2.1, x.2.1.1.2.2.1, x.2.1.1.2.2.2.1, x.2.1.1.2.2.2.2.1, x.2.1.1.2.2.2.2.2.1, x.2.1.1.2.2.2.2.2.2.1, x.2.1.1.2.2.2.2.2.2.2.1, x.2.1.1.2.2.2.2.2.2.2.2.1, x.2.1.1.2.2.2.2.2.2.2.2.2.1, ()), ()), (x5, ())))))
 (ck (0 ≤ x3.1 ∧ x3.1.toNat < x.2.1.1.1.size)
 (let x7 : Int := byteAt x.2.1.1.1 x3.1.toNat;
 ck ((x.2.2.1.length + [x7].length) * 1 ≤ 140737488355328 ∧ (x.2.2.1.length + [x7].length) ≤ 9223372036854775807)
 (let x8 : List Int := x.2.2.1 ++ [x7];
 let x9 : Int := w64 (x.1.2.2.2.2.1 + (1 : Int));
 some (.inl (((), (), x.1.2.2.1, x.1.2.2.2.1, x9, ()), ((x.2.1.1.1, x.2.1.1.2.1, x.2.1.1.2.2.1, x.2.1.1.2.2.2.1, x.2.1.1.2.2.2.2.1, x.2.1.1.2.2.2.2.2.1, x.2.1.1.2.2.2.2.2.2.1, x.2.1.1.2.2.2.2.2.2.2.1, x.2.1.1.2.2.2.2.2.2.2.2.1, x.2.1.1.2.2.2.2.2.2.2.2.2.1, ()), ()), (x8, ())))))))))
 (some (.inr (((), ()), (), (x.2.2.1, ()))))
def impl_LineText_h0 : Sh := ⟨[(1, .c (.box 0 0)), (3, .c (.own 0)), (11, .c (.rd [] .mat)), (12, .c (.int .i64)), (13, .c (.int .i64))], [(0, .cells [.str, .rd [] .i64, .rd [] .i64, .rd [] .mats, .int .i64, .int .i64, .int .i64, .int .i64, .rd [] .mat, .rd [] .mat])], [(0, .u8)]⟩
def impl_LineText_r0 : List Sh := [⟨[(3, .c (.own 0))], [], [(0, .u8)]⟩]
noncomputable def impl_LineText_L0 : Lp := ⟨0, [], impl_LineText_h0, [], [(.exit 0, [])], impl_LineText_r0, loopC impl_LineText_s0⟩
noncomputable def impl_LineText (a0_0 : ByteArray) (a0_1 : List Int) (a0_2 : List Int) (a0_3 : List (List (Int × Int))) (a0_4 : Int) (a0_5 : Int) (a0_6 : Int) (a0_7 : Int) (a0_8 : List (Int × Int)) (a0_9 : List (Int × Int)) : Option ((ByteArray × Unit) × Unit × Unit) :=
 (impl_MachineOk a0_0 a0_1 a0_2 a0_3 a0_4 a0_5 a0_6 a0_7 a0_8 a0_9).bind fun r1 =>
 br (!r1.1.1)
 (some ((ByteArray.empty, ()), (), ()))
 ((loopC impl_LineText_s0 (((), (), a0_8, (a0_8.length : Int), (0 : Int), ()), ((a0_0, a0_1, a0_2, a0_3, a0_4, a0_5, a0_6, a0_7, a0_8, a0_9, ()), ()), ([], ()))).bind fun r10 =>
 let x11 : ByteArray := ofBytes r10.2.2.1;
 some ((x11, ()), (), ()))
noncomputable def impl_LineText_C : Ctr := ⟨52, impl_LineText_arg, impl_LineText_res, fun x => impl_LineText x.1.1.1 x.1.1.2.1 x.1.1.2.2.1 x.1.1.2.2.2.1 x.1.1.2.2.2.2.1 x.1.1.2.2.2.2.2.1 x.1.1.2.2.2.2.2.2.1 x.1.1.2.2.2.2.2.2.2.1 x.1.1.2.2.2.2.2.2.2.2.1 x.1.1.2.2.2.2.2.2.2.2.2.1, none⟩
def impl_LineText_H : Hint := ⟨[], [], [], fun _ => []⟩
noncomputable def impl_LineText_T : List Ctr := [impl_MachineOk_C, impl_isBand_C]
noncomputable def impl_LineText_Ls : List Lp := [impl_LineText_L0]
theorem impl_LineText_l0 : ∀ x, impl_LineText_s0 x = stepW E0 impl_LineText_T impl_LineText_Ls impl_LineText_H (loopAt (bodyOf Try.f52) 0) 0 impl_LineText_h0 [] [(.exit 0, [])] impl_LineText_r0 x := fun x => by kernel_rfl
theorem impl_LineText_e : ∀ x, impl_LineText_C.F x = runBodyW E0 impl_LineText_T impl_LineText_Ls impl_LineText_H 52 Try.f52.results.toList (bodyOf Try.f52) [] (impl_LineText_arg.mk' x) impl_LineText_res := fun x => by kernel_rfl
theorem impl_LineText_ok : impl_LineText_C.Ok E0 := fn_ok (T := impl_LineText_T) (h := impl_LineText_H) (Ls := impl_LineText_Ls) E0_mixed (T_cons impl_MachineOk_ok (T_cons impl_isBand_ok T_nil)) Try.func52 (bodyOf_some (by kernel_rfl)) (by kernel_rfl) (loops_of (ks := [0]) (by kernel_rfl) ⟨(loop_one (h := impl_LineText_H) (own := []) (head := impl_LineText_h0) (back := []) (exs := [(.exit 0, [])]) (res := impl_LineText_r0) (step := impl_LineText_s0) (by kernel_rfl) impl_LineText_l0), trivial⟩) impl_LineText_e
def impl_BandWidths_arg : Sh := ⟨[(0, .agg [.int .i64, .int .i64, .int .i64]), (1, .c (.rd [] .i64))], [], []⟩
def impl_BandWidths_res : List Sh := [⟨[(0, .c (.own 0))], [], [(0, .i64)]⟩]
noncomputable def impl_BandWidths_s0 (x : (Unit × Int × Int × Unit × List Int × Int × Int × Unit) × ((Int × Int × Int × Unit) × Unit) × (List Int × Unit)) : Option (((Unit × Int × Int × Unit × List Int × Int × Int × Unit) × ((Int × Int × Int × Unit) × Unit) × (List Int × Unit)) ⊕ ((Unit × Unit) × Unit × (List Int × Unit))) :=
 let x3 : Bool := decide (x.1.2.2.2.2.2.2.1 < x.1.2.2.2.2.2.1);
 br x3
 (ck (0 ≤ x.1.2.2.2.2.2.2.1)
 (ck (x.1.2.2.2.2.2.2.1.toNat < x.1.2.2.2.2.1.length)
 (let x4 : Int := x.1.2.2.2.2.1.getD x.1.2.2.2.2.2.2.1.toNat 0;
 let x5 : Bool := decide (x4 > (0 : Int));
 br x5
 (let x6 : Int := w64 (x.1.2.2.2.2.2.2.1 + (1 : Int));
 some (.inl (((), x.1.2.1, x.1.2.2.1, (), x.1.2.2.2.2.1, x.1.2.2.2.2.2.1, x6, ()), ((x.2.1.1.1, x.2.1.1.2.1, x.2.1.1.2.2.1, ()), ()), (x.2.2.1, ()))))
 (let x7 : Int := w64 (x.2.1.1.2.1 + x.1.2.1);
 let x8 : Bool := decide ((x.2.2.1.length : Int) < x.1.2.2.1);
 br x8
 (let x9 : Int := w64 (x7 + (1 : Int));
 ck ((x.2.2.1.length + [x9].length) * 8 ≤ 140737488355328 ∧ (x.2.2.1.length + [x9].length) ≤ 9223372036854775807)
 (let x10 : List Int := x.2.2.1 ++ [x9];
 let x11 : Int := w64 (x.1.2.2.2.2.2.2.1 + (1 : Int));
 some (.inl (((), x.1.2.1, x.1.2.2.1, (), x.1.2.2.2.2.1, x.1.2.2.2.2.2.1, x11, ()), ((x.2.1.1.1, x.2.1.1.2.1, x.2.1.1.2.2.1, ()), ()), (x10, ())))))
 (ck ((x.2.2.1.length + [x7].length) * 8 ≤ 140737488355328 ∧ (x.2.2.1.length + [x7].length) ≤ 9223372036854775807)
 (let x12 : List Int := x.2.2.1 ++ [x7];
 let x13 : Int := w64 (x.1.2.2.2.2.2.2.1 + (1 : Int));
 some (.inl (((), x.1.2.1, x.1.2.2.1, (), x.1.2.2.2.2.1, x.1.2.2.2.2.2.1, x13, ()), ((x.2.1.1.1, x.2.1.1.2.1, x.2.1.1.2.2.1, ()), ()), (x12, ())))))))))
 (some (.inr (((), ()), (), (x.2.2.1, ()))))
def impl_BandWidths_h0 : Sh := ⟨[(2, .c (.box 0 0)), (5, .c (.int .i64)), (8, .c (.int .i64)), (9, .c (.own 0)), (27, .c (.rd [] .i64)), (28, .c (.int .i64)), (29, .c (.int .i64))], [(0, .cells [.int .i64, .int .i64, .int .i64])], [(0, .i64)]⟩
def impl_BandWidths_r0 : List Sh := [⟨[(9, .c (.own 0))], [], [(0, .i64)]⟩]
noncomputable def impl_BandWidths_L0 : Lp := ⟨0, [], impl_BandWidths_h0, [], [(.exit 0, [])], impl_BandWidths_r0, loopC impl_BandWidths_s0⟩
noncomputable def impl_BandWidths (a0_0 : Int) (a0_1 : Int) (a0_2 : Int) (a1 : List Int) : Option ((Unit × Unit) × Unit × (List Int × Unit)) :=
 (impl_SpreadLine a0_0 a0_1 a0_2 a1).bind fun r1 =>
 br (!r1.1.2.2.1)
 (some (((), ()), (), ([], ())))
 ((impl_IsFull a0_0 a0_1 a0_2 a1).bind fun r2 =>
 br r2.1.1
 ((loopC impl_BandWidths_s0 (((), r1.1.1, r1.1.2.1, (), a1, (a1.length : Int), (0 : Int), ()), ((a0_0, a0_1, a0_2, ()), ()), ([], ()))).bind fun r14 =>
 some (((), ()), (), (r14.2.2.1, ())))
 ((loopC impl_BandWidths_s0 (((), r1.1.1, (0 : Int), (), a1, (a1.length : Int), (0 : Int), ()), ((a0_0, a0_1, a0_2, ()), ()), ([], ()))).bind fun r15 =>
 some (((), ()), (), (r15.2.2.1, ()))))
noncomputable def impl_BandWidths_C : Ctr := ⟨92, impl_BandWidths_arg, impl_BandWidths_res, fun x => impl_BandWidths x.1.1.1 x.1.1.2.1 x.1.1.2.2.1 x.1.2.1, none⟩
def impl_BandWidths_H : Hint := ⟨[], [], [], fun _ => []⟩
noncomputable def impl_BandWidths_T : List Ctr := [impl_SpreadLine_C, impl_IsFull_C]
noncomputable def impl_BandWidths_Ls : List Lp := [impl_BandWidths_L0]
theorem impl_BandWidths_l0 : ∀ x, impl_BandWidths_s0 x = stepW E0 impl_BandWidths_T impl_BandWidths_Ls impl_BandWidths_H (loopAt (bodyOf Try.f92) 0) 0 impl_BandWidths_h0 [] [(.exit 0, [])] impl_BandWidths_r0 x := fun x => by kernel_rfl
theorem impl_BandWidths_e : ∀ x, impl_BandWidths_C.F x = runBodyW E0 impl_BandWidths_T impl_BandWidths_Ls impl_BandWidths_H 92 Try.f92.results.toList (bodyOf Try.f92) [(.tm 4, 6000000, .i64)] (impl_BandWidths_arg.mk' x) impl_BandWidths_res := fun x => by kernel_rfl
theorem impl_BandWidths_ok : impl_BandWidths_C.Ok E0 := fn_ok (T := impl_BandWidths_T) (h := impl_BandWidths_H) (Ls := impl_BandWidths_Ls) E0_mixed (T_cons impl_SpreadLine_ok (T_cons impl_IsFull_ok T_nil)) Try.func92 (bodyOf_some (by kernel_rfl)) (by kernel_rfl) (loops_of (ks := [0]) (by kernel_rfl) ⟨(loop_one (h := impl_BandWidths_H) (own := []) (head := impl_BandWidths_h0) (back := []) (exs := [(.exit 0, [])]) (res := impl_BandWidths_r0) (step := impl_BandWidths_s0) (by kernel_rfl) impl_BandWidths_l0), trivial⟩) impl_BandWidths_e
def impl_PlacesOf_arg : Sh := ⟨[(0, .agg [.int .i64, .int .i64, .int .i64]), (1, .c (.rd [] .i64))], [], []⟩
def impl_PlacesOf_res : List Sh := [⟨[(0, .c (.own 0))], [], [(0, .i64)]⟩]
noncomputable def impl_PlacesOf_s0 (x : (List Int × Unit × Int × List Int × Int × Int × Unit) × Unit × (List Int × List Int × Unit)) : Option (((List Int × Unit × Int × List Int × Int × Int × Unit) × Unit × (List Int × List Int × Unit)) ⊕ ((Unit × Unit) × Unit × (List Int × Unit))) :=
 let x3 : Bool := decide (x.1.2.2.2.2.2.1 < x.1.2.2.2.2.1);
 br x3
 (ck (0 ≤ x.1.2.2.2.2.2.1)
 (ck (x.1.2.2.2.2.2.1.toNat < x.1.2.2.2.1.length)
 (let x4 : Int := x.1.2.2.2.1.getD x.1.2.2.2.2.2.1.toNat 0;
 ck ((x.2.2.2.1.length + [x.1.2.2.1].length) * 8 ≤ 140737488355328 ∧ (x.2.2.2.1.length + [x.1.2.2.1].length) ≤ 9223372036854775807)
 (let x5 : List Int := x.2.2.2.1 ++ [x.1.2.2.1];
 let x6 : Bool := x4 == (0 : Int);
 br x6
 (ck (0 < x.1.1.length)
 (let x7 : Int := x.1.1.getD 0 0;
 ck (1 ≤ x.1.1.length ∧ x.1.1.length ≤ x.1.1.length)
 (let x8 : List Int := cut x.1.1 1 x.1.1.length;
 let x9 : Int := w64 (x.1.2.2.1 + x7);
 let x10 : Int := w64 (x.1.2.2.2.2.2.1 + (1 : Int));
 some (.inl ((x8, (), x9, x.1.2.2.2.1, x.1.2.2.2.2.1, x10, ()), (), (x.2.2.1, x5, ()))))))
 (let x11 : Int := w64 (x.1.2.2.1 + x4);
 let x12 : Int := w64 (x.1.2.2.2.2.2.1 + (1 : Int));
 some (.inl ((x.1.1, (), x11, x.1.2.2.2.1, x.1.2.2.2.2.1, x12, ()), (), (x.2.2.1, x5, ()))))))))
 (some (.inr (((), ()), (), (x.2.2.2.1, ()))))
def impl_PlacesOf_h0 : Sh := ⟨[(5, .c (.rd [0] .i64)), (6, .c (.own 1)), (7, .c (.int .i64)), (18, .c (.rd [] .i64)), (19, .c (.int .i64)), (20, .c (.int .i64))], [], [(0, .i64), (1, .i64)]⟩
def impl_PlacesOf_r0 : List Sh := [⟨[(6, .c (.own 0))], [], [(0, .i64)]⟩]
noncomputable def impl_PlacesOf_L0 : Lp := ⟨0, [], impl_PlacesOf_h0, [], [(.exit 0, [])], impl_PlacesOf_r0, loopC impl_PlacesOf_s0⟩
noncomputable def impl_PlacesOf (a0_0 : Int) (a0_1 : Int) (a0_2 : Int) (a1 : List Int) : Option ((Unit × Unit) × Unit × (List Int × Unit)) :=
 (impl_fits a0_0 a0_1 a0_2 a1).bind fun r1 =>
 br (!r1.1.1)
 (some (((), ()), (), ([], ())))
 ((impl_BandWidths a0_0 a0_1 a0_2 a1).bind fun r2 =>
 (loopC impl_PlacesOf_s0 ((r2.2.2.1, (), (0 : Int), a1, (a1.length : Int), (0 : Int), ()), (), (r2.2.2.1, [], ()))).bind fun r13 =>
 some (((), ()), (), (r13.2.2.1, ())))
noncomputable def impl_PlacesOf_C : Ctr := ⟨53, impl_PlacesOf_arg, impl_PlacesOf_res, fun x => impl_PlacesOf x.1.1.1 x.1.1.2.1 x.1.1.2.2.1 x.1.2.1, none⟩
def impl_PlacesOf_H : Hint := ⟨[], [], [], fun _ => []⟩
noncomputable def impl_PlacesOf_T : List Ctr := [impl_fits_C, impl_BandWidths_C]
noncomputable def impl_PlacesOf_Ls : List Lp := [impl_PlacesOf_L0]
theorem impl_PlacesOf_l0 : ∀ x, impl_PlacesOf_s0 x = stepW E0 impl_PlacesOf_T impl_PlacesOf_Ls impl_PlacesOf_H (loopAt (bodyOf Try.f53) 0) 0 impl_PlacesOf_h0 [] [(.exit 0, [])] impl_PlacesOf_r0 x := fun x => by kernel_rfl
theorem impl_PlacesOf_e : ∀ x, impl_PlacesOf_C.F x = runBodyW E0 impl_PlacesOf_T impl_PlacesOf_Ls impl_PlacesOf_H 53 Try.f53.results.toList (bodyOf Try.f53) [(.tm 4, 6000000, .i64)] (impl_PlacesOf_arg.mk' x) impl_PlacesOf_res := fun x => by kernel_rfl
theorem impl_PlacesOf_ok : impl_PlacesOf_C.Ok E0 := fn_ok (T := impl_PlacesOf_T) (h := impl_PlacesOf_H) (Ls := impl_PlacesOf_Ls) E0_mixed (T_cons impl_fits_ok (T_cons impl_BandWidths_ok T_nil)) Try.func53 (bodyOf_some (by kernel_rfl)) (by kernel_rfl) (loops_of (ks := [0]) (by kernel_rfl) ⟨(loop_one (h := impl_PlacesOf_H) (own := []) (head := impl_PlacesOf_h0) (back := []) (exs := [(.exit 0, [])]) (res := impl_PlacesOf_r0) (step := impl_PlacesOf_s0) (by kernel_rfl) impl_PlacesOf_l0), trivial⟩) impl_PlacesOf_e
def impl_CastLine_arg : Sh := ⟨[(0, .agg [.str, .rd [] .i64, .rd [] .i64, .rd [] .mats, .int .i64, .int .i64, .int .i64, .int .i64, .rd [] .mat, .rd [] .mat]), (1, .c (.bool))], [], []⟩
def impl_CastLine_res : List Sh := [⟨[(0, .agg [.str, .own 0, .own 1, .own 2, .int .i64, .int .i64, .int .i64, .int .i64, .nil, .own 3]), (1, .c (.str)), (2, .c (.own 4)), (3, .c (.bool))], [], [(0, .i64), (1, .i64), (2, .mats), (3, .mat), (4, .i64)]⟩]
noncomputable def impl_CastLine_s0 (x : (Unit × Unit × ByteArray × Unit × Unit × Int × Int × Unit) × ((ByteArray × Unit × Unit × Unit × Int × Int × Int × Int × Unit × Unit × Unit) × (ByteArray × Unit × Unit × Unit × Int × Int × Int × Int × Unit × Unit × Unit) × Unit) × (List Int × List (Int × Int) × List Int × List Int × List (List (Int × Int)) × List (Int × Int) × Unit)) : Option (((Unit × Unit × ByteArray × Unit × Unit × Int × Int × Unit) × ((ByteArray × Unit × Unit × Unit × Int × Int × Int × Int × Unit × Unit × Unit) × (ByteArray × Unit × Unit × Unit × Int × Int × Int × Int × Unit × Unit × Unit) × Unit) × (List Int × List (Int × Int) × List Int × List Int × List (List (Int × Int)) × List (Int × Int) × Unit)) ⊕ ((Unit × Unit × ByteArray × Unit × Unit) × ((ByteArray × Unit × Unit × Unit × Int × Int × Int × Int × Unit × Unit × Unit) × (ByteArray × Unit × Unit × Unit × Int × Int × Int × Int × Unit × Unit × Unit) × Unit) × (List Int × List Int × List Int × List (List (Int × Int)) × List (Int × Int) × List (Int × Int) × Unit))) :=
 let x9 : Bool := decide (x.1.2.2.2.2.2.2.1 < x.1.2.2.2.2.2.1);
 br x9
 (ck (0 ≤ x.1.2.2.2.2.2.2.1)
 (ck (x.1.2.2.2.2.2.2.1.toNat < x.2.2.2.1.length)
 (ck (x.1.2.2.2.2.2.2.1.toNat < x.2.2.2.1.length)
 (let x10 : Int := (x.2.2.2.1.getD x.1.2.2.2.2.2.2.1.toNat (0, 0)).1;
 let x11 : Int := (x.2.2.2.1.getD x.1.2.2.2.2.2.2.1.toNat (0, 0)).2;
 (impl_isBand x10 x11).bind fun r12 =>
 br r12.1.1
 (let x13 : Int := w64 (x.2.1.1.2.2.2.2.1 + (1 : Int));
 let x14 : Int := w64 (x.1.2.2.2.2.2.2.1 + (1 : Int));
 some (.inl (((), (), x.1.2.2.1, (), (), x.1.2.2.2.2.2.1, x14, ()), ((x.2.1.1.1, (), (), (), x13, x.2.1.1.2.2.2.2.2.1, x.2.1.1.2.2.2.2.2.2.1, x.2.1.1.2.2.2.2.2.2.2.1, (), (), ()), (x.2.1.2.1.1, (), (), (), x.2.1.2.1.2.2.2.2.1, x.2.1.2.1.2.2.2.2.2.1, x.2.1.2.1.2.2.2.2.2.2.1, x.2.1.2.1.2.2.2.2.2.2.2.1, (), (), ()), ()), (x.2.2.1, x.2.2.2.1, x.2.2.2.2.1, x.2.2.2.2.2.1, x.2.2.2.2.2.2.1, x.2.2.2.2.2.2.2.1, ()))))
 (ck ((x.2.2.2.2.2.2.2.1.length + [(x10, x11)].length) * 16 ≤ 140737488355328 ∧ (x.2.2.2.2.2.2.2.1.length + [(x10, x11)].length) ≤ 9223372036854775807)
 (let x15 : List (Int × Int) := x.2.2.2.2.2.2.2.1 ++ [(x10, x11)];
 let x16 : Int := w64 (x.1.2.2.2.2.2.2.1 + (1 : Int));
 some (.inl (((), (), x.1.2.2.1, (), (), x.1.2.2.2.2.2.1, x16, ()), ((x.2.1.1.1, (), (), (), x.2.1.1.2.2.2.2.1, x.2.1.1.2.2.2.2.2.1, x.2.1.1.2.2.2.2.2.2.1, x.2.1.1.2.2.2.2.2.2.2.1, (), (), ()), (x.2.1.2.1.1, (), (), (), x.2.1.2.1.2.2.2.2.1, x.2.1.2.1.2.2.2.2.2.1, x.2.1.2.1.2.2.2.2.2.2.1, x.2.1.2.1.2.2.2.2.2.2.2.1, (), (), ()), ()), (x.2.2.1, x.2.2.2.1, x.2.2.2.2.1, x.2.2.2.2.2.1, x.2.2.2.2.2.2.1, x15, ())))))))))
 (some (.inr (((), (), x.1.2.2.1, (), ()), ((x.2.1.1.1, (), (), (), x.2.1.1.2.2.2.2.1, x.2.1.1.2.2.2.2.2.1, x.2.1.1.2.2.2.2.2.2.1, x.2.1.1.2.2.2.2.2.2.2.1, (), (), ()), (x.2.1.2.1.1, (), (), (), x.2.1.2.1.2.2.2.2.1, x.2.1.2.1.2.2.2.2.2.1, x.2.1.2.1.2.2.2.2.2.2.1, x.2.1.2.1.2.2.2.2.2.2.2.1, (), (), ()), ()), (x.2.2.1, x.2.2.2.2.1, x.2.2.2.2.2.1, x.2.2.2.2.2.2.1, x.2.2.2.1, x.2.2.2.2.2.2.2.1, ()))))
def impl_CastLine_h0 : Sh := ⟨[(2, .c (.box 0 0)), (4, .c (.box 1 0)), (8, .c (.str)), (9, .c (.own 0)), (44, .c (.own 1)), (45, .c (.int .i64)), (46, .c (.int .i64))], [(0, .cells [.str, .own 2, .own 3, .own 4, .int .i64, .int .i64, .int .i64, .int .i64, .own 1, .own 5]), (1, .cells [.str, .nil, .nil, .nil, .int .i64, .int .i64, .int .i64, .int .i64, .nil, .nil])], [(0, .i64), (1, .mat), (2, .i64), (3, .i64), (4, .mats), (5, .mat)]⟩
def impl_CastLine_r0 : List Sh := [⟨[(2, .c (.box 0 0)), (4, .c (.box 1 0)), (8, .c (.str)), (9, .c (.own 0))], [(0, .cells [.str, .own 1, .own 2, .own 3, .int .i64, .int .i64, .int .i64, .int .i64, .own 4, .own 5]), (1, .cells [.str, .nil, .nil, .nil, .int .i64, .int .i64, .int .i64, .int .i64, .nil, .nil])], [(0, .i64), (1, .i64), (2, .i64), (3, .mats), (4, .mat), (5, .mat)]⟩]
noncomputable def impl_CastLine_L0 : Lp := ⟨0, [], impl_CastLine_h0, [], [(.exit 0, [])], impl_CastLine_r0, loopC impl_CastLine_s0⟩
noncomputable def impl_CastLine (a0_0 : ByteArray) (a0_1 : List Int) (a0_2 : List Int) (a0_3 : List (List (Int × Int))) (a0_4 : Int) (a0_5 : Int) (a0_6 : Int) (a0_7 : Int) (a0_8 : List (Int × Int)) (a0_9 : List (Int × Int)) (a1 : Bool) : Option (((ByteArray × Unit × Unit × Unit × Int × Int × Int × Int × Unit × Unit × Unit) × ByteArray × Unit × Bool × Unit) × Unit × (List Int × List Int × List (List (Int × Int)) × List (Int × Int) × List Int × Unit)) :=
 (impl_MachineOk a0_0 a0_1 a0_2 a0_3 a0_4 a0_5 a0_6 a0_7 a0_8 a0_9).bind fun r1 =>
 br (!r1.1.1)
 (some (((ByteArray.empty, (), (), (), (0 : Int), (0 : Int), (0 : Int), (0 : Int), (), (), ()), ByteArray.empty, (), false, ()), (), ([], [], [], [], [], ())))
 (let x2 : Bool := (a0_8.length : Int) == (0 : Int);
 br x2
 (some (((ByteArray.empty, (), (), (), (0 : Int), (0 : Int), (0 : Int), (0 : Int), (), (), ()), ByteArray.empty, (), false, ()), (), ([], [], [], [], [], ())))
 (br (!a1)
 ((impl_ItemsOf a0_0 a0_1 a0_2 a0_3 a0_4 a0_5 a0_6 a0_7 a0_8 a0_9).bind fun r3 =>
 (impl_IsFull a0_5 a0_6 a0_7 r3.2.2.1).bind fun r4 =>
 br (!r4.1.1)
 (some (((ByteArray.empty, (), (), (), (0 : Int), (0 : Int), (0 : Int), (0 : Int), (), (), ()), ByteArray.empty, (), false, ()), (), ([], [], [], [], [], ())))
 ((impl_LineText a0_0 a0_1 a0_2 a0_3 a0_4 a0_5 a0_6 a0_7 a0_8 a0_9).bind fun r5 =>
 (impl_ItemsOf a0_0 a0_1 a0_2 a0_3 a0_4 a0_5 a0_6 a0_7 a0_8 a0_9).bind fun r6 =>
 (impl_PlacesOf a0_5 a0_6 a0_7 r6.2.2.1).bind fun r7 =>
 (impl_copyMachine a0_0 a0_1 a0_2 a0_3 a0_4 a0_5 a0_6 a0_7 a0_8 a0_9).bind fun r8 =>
 (loopC impl_CastLine_s0 (((), (), r5.1.1, (), (), (r8.2.2.2.2.2.1.length : Int), (0 : Int), ()), ((r8.1.1.1, (), (), (), r8.1.1.2.2.2.2.1, r8.1.1.2.2.2.2.2.1, r8.1.1.2.2.2.2.2.2.1, r8.1.1.2.2.2.2.2.2.2.1, (), (), ()), (ByteArray.empty, (), (), (), (0 : Int), (0 : Int), (0 : Int), (0 : Int), (), (), ()), ()), (r7.2.2.1, r8.2.2.2.2.2.1, r8.2.2.1, r8.2.2.2.1, r8.2.2.2.2.1, r8.2.2.2.2.2.2.1, ()))).bind fun r17 =>
 (impl_MachineOk r17.2.1.1.1 r17.2.2.2.1 r17.2.2.2.2.1 r17.2.2.2.2.2.1 r17.2.1.1.2.2.2.2.1 r17.2.1.1.2.2.2.2.2.1 r17.2.1.1.2.2.2.2.2.2.1 r17.2.1.1.2.2.2.2.2.2.2.1 [] r17.2.2.2.2.2.2.2.1).bind fun r18 =>
 br (!r18.1.1)
 (some (((ByteArray.empty, (), (), (), (0 : Int), (0 : Int), (0 : Int), (0 : Int), (), (), ()), ByteArray.empty, (), false, ()), (), ([], [], [], [], [], ())))
 (some (((r17.2.1.1.1, (), (), (), r17.2.1.1.2.2.2.2.1, r17.2.1.1.2.2.2.2.2.1, r17.2.1.1.2.2.2.2.2.2.1, r17.2.1.1.2.2.2.2.2.2.2.1, (), (), ()), r17.1.2.2.1, (), true, ()), (), (r17.2.2.2.1, r17.2.2.2.2.1, r17.2.2.2.2.2.1, r17.2.2.2.2.2.2.2.1, r17.2.2.1, ())))))
 ((impl_LineText a0_0 a0_1 a0_2 a0_3 a0_4 a0_5 a0_6 a0_7 a0_8 a0_9).bind fun r19 =>
 (impl_ItemsOf a0_0 a0_1 a0_2 a0_3 a0_4 a0_5 a0_6 a0_7 a0_8 a0_9).bind fun r20 =>
 (impl_PlacesOf a0_5 a0_6 a0_7 r20.2.2.1).bind fun r21 =>
 (impl_copyMachine a0_0 a0_1 a0_2 a0_3 a0_4 a0_5 a0_6 a0_7 a0_8 a0_9).bind fun r22 =>
 (loopC impl_CastLine_s0 (((), (), r19.1.1, (), (), (r22.2.2.2.2.2.1.length : Int), (0 : Int), ()), ((r22.1.1.1, (), (), (), r22.1.1.2.2.2.2.1, r22.1.1.2.2.2.2.2.1, r22.1.1.2.2.2.2.2.2.1, r22.1.1.2.2.2.2.2.2.2.1, (), (), ()), (ByteArray.empty, (), (), (), (0 : Int), (0 : Int), (0 : Int), (0 : Int), (), (), ()), ()), (r21.2.2.1, r22.2.2.2.2.2.1, r22.2.2.1, r22.2.2.2.1, r22.2.2.2.2.1, r22.2.2.2.2.2.2.1, ()))).bind fun r23 =>
 (impl_MachineOk r23.2.1.1.1 r23.2.2.2.1 r23.2.2.2.2.1 r23.2.2.2.2.2.1 r23.2.1.1.2.2.2.2.1 r23.2.1.1.2.2.2.2.2.1 r23.2.1.1.2.2.2.2.2.2.1 r23.2.1.1.2.2.2.2.2.2.2.1 [] r23.2.2.2.2.2.2.2.1).bind fun r24 =>
 br (!r24.1.1)
 (some (((ByteArray.empty, (), (), (), (0 : Int), (0 : Int), (0 : Int), (0 : Int), (), (), ()), ByteArray.empty, (), false, ()), (), ([], [], [], [], [], ())))
 (some (((r23.2.1.1.1, (), (), (), r23.2.1.1.2.2.2.2.1, r23.2.1.1.2.2.2.2.2.1, r23.2.1.1.2.2.2.2.2.2.1, r23.2.1.1.2.2.2.2.2.2.2.1, (), (), ()), r23.1.2.2.1, (), true, ()), (), (r23.2.2.2.1, r23.2.2.2.2.1, r23.2.2.2.2.2.1, r23.2.2.2.2.2.2.2.1, r23.2.2.1, ()))))))
noncomputable def impl_CastLine_C : Ctr := ⟨14, impl_CastLine_arg, impl_CastLine_res, fun x => impl_CastLine x.1.1.1 x.1.1.2.1 x.1.1.2.2.1 x.1.1.2.2.2.1 x.1.1.2.2.2.2.1 x.1.1.2.2.2.2.2.1 x.1.1.2.2.2.2.2.2.1 x.1.1.2.2.2.2.2.2.2.1 x.1.1.2.2.2.2.2.2.2.2.1 x.1.1.2.2.2.2.2.2.2.2.2.1 x.1.2.1, none⟩
def impl_CastLine_H : Hint := ⟨[], [], [], fun _ => []⟩
noncomputable def impl_CastLine_T : List Ctr := [impl_MachineOk_C, impl_ItemsOf_C, impl_IsFull_C, impl_LineText_C, impl_PlacesOf_C, impl_copyMachine_C, impl_isBand_C]
noncomputable def impl_CastLine_Ls : List Lp := [impl_CastLine_L0]
theorem impl_CastLine_l0 : ∀ x, impl_CastLine_s0 x = stepW E0 impl_CastLine_T impl_CastLine_Ls impl_CastLine_H (loopAt (bodyOf Try.f14) 0) 0 impl_CastLine_h0 [] [(.exit 0, [])] impl_CastLine_r0 x := fun x => by kernel_rfl
theorem impl_CastLine_e : ∀ x, impl_CastLine_C.F x = runBodyW E0 impl_CastLine_T impl_CastLine_Ls impl_CastLine_H 14 Try.f14.results.toList (bodyOf Try.f14) [(.bx 4 1, 6000000, .i64), (.bx 4 2, 6000001, .i64), (.bx 4 3, 6000002, .mats), (.bx 4 9, 6000003, .mat), (.tm 6, 6000004, .i64)] (impl_CastLine_arg.mk' x) impl_CastLine_res := fun x => by kernel_rfl
theorem impl_CastLine_ok : impl_CastLine_C.Ok E0 := fn_ok (T := impl_CastLine_T) (h := impl_CastLine_H) (Ls := impl_CastLine_Ls) E0_mixed (T_cons impl_MachineOk_ok (T_cons impl_ItemsOf_ok (T_cons impl_IsFull_ok (T_cons impl_LineText_ok (T_cons impl_PlacesOf_ok (T_cons impl_copyMachine_ok (T_cons impl_isBand_ok T_nil))))))) Try.func14 (bodyOf_some (by kernel_rfl)) (by kernel_rfl) (loops_of (ks := [0]) (by kernel_rfl) ⟨(loop_one (h := impl_CastLine_H) (own := []) (head := impl_CastLine_h0) (back := []) (exs := [(.exit 0, [])]) (res := impl_CastLine_r0) (step := impl_CastLine_s0) (by kernel_rfl) impl_CastLine_l0), trivial⟩) impl_CastLine_e
def impl_DropMatrix_arg : Sh := ⟨[(0, .agg [.str, .rd [] .i64, .rd [] .i64]), (1, .c (.rd [] .mats)), (2, .agg [.int .i64, .int .i64])], [], []⟩
def impl_DropMatrix_res : List Sh := [⟨[(0, .c (.own 0)), (1, .c (.int .i64)), (2, .c (.bool))], [], [(0, .mats)]⟩]
noncomputable def impl_DropMatrix (a0_0 : ByteArray) (a0_1 : List Int) (a0_2 : List Int) (a1 : List (List (Int × Int))) (a2_0 : Int) (a2_1 : Int) : Option ((Unit × Int × Bool × Unit) × Unit × (List (List (Int × Int)) × Unit)) :=
 (impl_MagazineOk a0_0 a0_1 a0_2 a1).bind fun r1 =>
 br (!r1.1.1)
 (some (((), (0 : Int), false, ()), (), ([], ())))
 ((impl_ofFont a0_0 a0_1 a0_2 a2_0 a2_1).bind fun r2 =>
 br (!r2.1.1)
 (some (((), (0 : Int), false, ()), (), ([], ())))
 ((impl_fall a0_2 a2_1).bind fun r3 =>
 ck (0 ≤ r3.1.1)
 (ck (r3.1.1.toNat < a1.length)
 (let x4 : List (Int × Int) := a1.getD r3.1.1.toNat [];
 let x5 : Bool := (x4.length : Int) == (20 : Int);
 br x5
 (some (((), (0 : Int), false, ()), (), ([], ())))
 ((impl_copyMagazine a1).bind fun r6 =>
 ck (0 ≤ r3.1.1)
 (ck (r3.1.1.toNat < r6.2.2.1.length)
 (ck (r3.1.1.toNat < r6.2.2.1.length)
 (ck (r3.1.1.toNat < r6.2.2.1.length)
 (ck (r3.1.1.toNat < r6.2.2.1.length)
 (let x7 : List (Int × Int) := r6.2.2.1.getD r3.1.1.toNat [];
 ck ((x7.length + [(a2_0, a2_1)].length) * 16 ≤ 140737488355328 ∧ (x7.length + [(a2_0, a2_1)].length) ≤ 9223372036854775807)
 (let x8 : List (Int × Int) := x7 ++ [(a2_0, a2_1)];
 ck (0 ≤ r3.1.1)
 (ck (r3.1.1.toNat < r6.2.2.1.length)
 (ck (r3.1.1.toNat = r3.1.1.toNat ∧ r3.1.1.toNat < r6.2.2.1.length)
 (let x9 : List (List (Int × Int)) := r6.2.2.1.set r3.1.1.toNat x8;
 some (((), r3.1.1, true, ()), (), (x9, ()))))))))))))))))
noncomputable def impl_DropMatrix_C : Ctr := ⟨23, impl_DropMatrix_arg, impl_DropMatrix_res, fun x => impl_DropMatrix x.1.1.1 x.1.1.2.1 x.1.1.2.2.1 x.1.2.1 x.1.2.2.1.1 x.1.2.2.1.2.1, none⟩
def impl_DropMatrix_H : Hint := ⟨[], [], [], fun _ => []⟩
noncomputable def impl_DropMatrix_T : List Ctr := [impl_MagazineOk_C, impl_ofFont_C, impl_fall_C, impl_copyMagazine_C]
noncomputable def impl_DropMatrix_Ls : List Lp := []
theorem impl_DropMatrix_e : ∀ x, impl_DropMatrix_C.F x = runBodyW E0 impl_DropMatrix_T impl_DropMatrix_Ls impl_DropMatrix_H 23 Try.f23.results.toList (bodyOf Try.f23) [(.tm 6, 6000000, .mats)] (impl_DropMatrix_arg.mk' x) impl_DropMatrix_res := fun x => by kernel_rfl
theorem impl_DropMatrix_ok : impl_DropMatrix_C.Ok E0 := fn_ok (T := impl_DropMatrix_T) (h := impl_DropMatrix_H) (Ls := impl_DropMatrix_Ls) E0_mixed (T_cons impl_MagazineOk_ok (T_cons impl_ofFont_ok (T_cons impl_fall_ok (T_cons impl_copyMagazine_ok T_nil)))) Try.func23 (bodyOf_some (by kernel_rfl)) (by kernel_rfl) (loops_of (ks := []) (by kernel_rfl) trivial) impl_DropMatrix_e
def impl_DropWaiting_arg : Sh := ⟨[(0, .agg [.str, .rd [] .i64, .rd [] .i64, .rd [] .mats, .int .i64, .int .i64, .int .i64, .int .i64, .rd [] .mat, .rd [] .mat]), (1, .c (.int .i64))], [], []⟩
def impl_DropWaiting_res : List Sh := [⟨[(0, .agg [.str, .own 0, .own 1, .own 2, .int .i64, .int .i64, .int .i64, .int .i64, .own 3, .own 4]), (1, .c (.int .i64))], [], [(0, .i64), (1, .i64), (2, .mats), (3, .mat), (4, .mat)]⟩]
noncomputable def impl_DropWaiting_s0 (x : (Int × Unit × Unit × Int × Unit) × ((ByteArray × Unit × Unit × Unit × Int × Int × Int × Int × Unit × Unit × Unit) × (ByteArray × Unit × Unit × Unit × Int × Int × Int × Int × Unit × Unit × Unit) × Unit) × (List Int × List Int × List (List (Int × Int)) × List (Int × Int) × List (Int × Int) × Unit)) : Option (((Int × Unit × Unit × Int × Unit) × ((ByteArray × Unit × Unit × Unit × Int × Int × Int × Int × Unit × Unit × Unit) × (ByteArray × Unit × Unit × Unit × Int × Int × Int × Int × Unit × Unit × Unit) × Unit) × (List Int × List Int × List (List (Int × Int)) × List (Int × Int) × List (Int × Int) × Unit)) ⊕ ((Unit × Unit × Int × Unit) × ((ByteArray × Unit × Unit × Unit × Int × Int × Int × Int × Unit × Unit × Unit) × (ByteArray × Unit × Unit × Unit × Int × Int × Int × Int × Unit × Unit × Unit) × Unit) × (List Int × List Int × List (List (Int × Int)) × List (Int × Int) × List (Int × Int) × Unit))) :=
 let x4 : Bool := decide (x.1.2.2.2.1 < x.1.1);
 br x4
 (let x5 : Bool := decide ((x.2.2.2.2.2.2.1.length : Int) > (0 : Int));
 br x5
 (ck (0 < x.2.2.2.2.2.2.1.length)
 (ck (0 < x.2.2.2.2.2.2.1.length)
 (let x6 : Int := (x.2.2.2.2.2.2.1.getD 0 (0, 0)).1;
 let x7 : Int := (x.2.2.2.2.2.2.1.getD 0 (0, 0)).2;
 (impl_DropMatrix x.2.1.1.1 x.2.2.1 x.2.2.2.1 x.2.2.2.2.1 x6 x7).bind fun r8 =>
 br (!r8.1.2.2.1)
 (some (.inr (((), (), x.1.2.2.2.1, ()), ((x.2.1.1.1, (), (), (), x.2.1.1.2.2.2.2.1, x.2.1.1.2.2.2.2.2.1, x.2.1.1.2.2.2.2.2.2.1, x.2.1.1.2.2.2.2.2.2.2.1, (), (), ()), (x.2.1.2.1.1, (), (), (), x.2.1.2.1.2.2.2.2.1, x.2.1.2.1.2.2.2.2.2.1, x.2.1.2.1.2.2.2.2.2.2.1, x.2.1.2.1.2.2.2.2.2.2.2.1, (), (), ()), ()), (x.2.2.1, x.2.2.2.1, x.2.2.2.2.1, x.2.2.2.2.2.1, x.2.2.2.2.2.2.1, ()))))
 (ck (1 ≤ x.2.2.2.2.2.2.1.length ∧ x.2.2.2.2.2.2.1.length ≤ x.2.2.2.2.2.2.1.length)
 (let x9 : List (Int × Int) := cut x.2.2.2.2.2.2.1 1 x.2.2.2.2.2.2.1.length;
 let x10 : Int := w64 (x.1.2.2.2.1 + (1 : Int));
 some (.inl ((x.1.1, (), (), x10, ()), ((x.2.1.1.1, (), (), (), x.2.1.1.2.2.2.2.1, x.2.1.1.2.2.2.2.2.1, x.2.1.1.2.2.2.2.2.2.1, x.2.1.1.2.2.2.2.2.2.2.1, (), (), ()), (x.2.1.2.1.1, (), (), (), x.2.1.2.1.2.2.2.2.1, x.2.1.2.1.2.2.2.2.2.1, x.2.1.2.1.2.2.2.2.2.2.1, x.2.1.2.1.2.2.2.2.2.2.2.1, (), (), ()), ()), (x.2.2.1, x.2.2.2.1, r8.2.2.1, x.2.2.2.2.2.1, x9, ()))))))))
 (some (.inr (((), (), x.1.2.2.2.1, ()), ((x.2.1.1.1, (), (), (), x.2.1.1.2.2.2.2.1, x.2.1.1.2.2.2.2.2.1, x.2.1.1.2.2.2.2.2.2.1, x.2.1.1.2.2.2.2.2.2.2.1, (), (), ()), (x.2.1.2.1.1, (), (), (), x.2.1.2.1.2.2.2.2.1, x.2.1.2.1.2.2.2.2.2.1, x.2.1.2.1.2.2.2.2.2.2.1, x.2.1.2.1.2.2.2.2.2.2.2.1, (), (), ()), ()), (x.2.2.1, x.2.2.2.1, x.2.2.2.2.1, x.2.2.2.2.2.1, x.2.2.2.2.2.2.1, ())))))
 (some (.inr (((), (), x.1.2.2.2.1, ()), ((x.2.1.1.1, (), (), (), x.2.1.1.2.2.2.2.1, x.2.1.1.2.2.2.2.2.1, x.2.1.1.2.2.2.2.2.2.1, x.2.1.1.2.2.2.2.2.2.2.1, (), (), ()), (x.2.1.2.1.1, (), (), (), x.2.1.2.1.2.2.2.2.1, x.2.1.2.1.2.2.2.2.2.1, x.2.1.2.1.2.2.2.2.2.2.1, x.2.1.2.1.2.2.2.2.2.2.2.1, (), (), ()), ()), (x.2.2.1, x.2.2.2.1, x.2.2.2.2.1, x.2.2.2.2.2.1, x.2.2.2.2.2.2.1, ()))))
def impl_DropWaiting_h0 : Sh := ⟨[(1, .c (.int .i64)), (2, .c (.box 0 0)), (4, .c (.box 1 0)), (6, .c (.int .i64))], [(0, .cells [.str, .own 0, .own 1, .own 2, .int .i64, .int .i64, .int .i64, .int .i64, .own 3, .own 4]), (1, .cells [.str, .nil, .nil, .nil, .int .i64, .int .i64, .int .i64, .int .i64, .nil, .nil])], [(0, .i64), (1, .i64), (2, .mats), (3, .mat), (4, .mat)]⟩
def impl_DropWaiting_r0 : List Sh := [⟨[(2, .c (.box 0 0)), (4, .c (.box 1 0)), (6, .c (.int .i64))], [(0, .cells [.str, .own 0, .own 1, .own 2, .int .i64, .int .i64, .int .i64, .int .i64, .own 3, .own 4]), (1, .cells [.str, .nil, .nil, .nil, .int .i64, .int .i64, .int .i64, .int .i64, .nil, .nil])], [(0, .i64), (1, .i64), (2, .mats), (3, .mat), (4, .mat)]⟩]
noncomputable def impl_DropWaiting_L0 : Lp := ⟨0, [], impl_DropWaiting_h0, [], [(.exit 0, [])], impl_DropWaiting_r0, loopC impl_DropWaiting_s0⟩
noncomputable def impl_DropWaiting (a0_0 : ByteArray) (a0_1 : List Int) (a0_2 : List Int) (a0_3 : List (List (Int × Int))) (a0_4 : Int) (a0_5 : Int) (a0_6 : Int) (a0_7 : Int) (a0_8 : List (Int × Int)) (a0_9 : List (Int × Int)) (a1 : Int) : Option (((ByteArray × Unit × Unit × Unit × Int × Int × Int × Int × Unit × Unit × Unit) × Int × Unit) × Unit × (List Int × List Int × List (List (Int × Int)) × List (Int × Int) × List (Int × Int) × Unit)) :=
 (impl_MachineOk a0_0 a0_1 a0_2 a0_3 a0_4 a0_5 a0_6 a0_7 a0_8 a0_9).bind fun r1 =>
 br (!r1.1.1)
 (some (((ByteArray.empty, (), (), (), (0 : Int), (0 : Int), (0 : Int), (0 : Int), (), (), ()), (-1 : Int), ()), (), ([], [], [], [], [], ())))
 (let x2 : Bool := decide (a1 < (0 : Int));
 br x2
 (some (((ByteArray.empty, (), (), (), (0 : Int), (0 : Int), (0 : Int), (0 : Int), (), (), ()), (-1 : Int), ()), (), ([], [], [], [], [], ())))
 ((impl_copyMachine a0_0 a0_1 a0_2 a0_3 a0_4 a0_5 a0_6 a0_7 a0_8 a0_9).bind fun r3 =>
 (loopC impl_DropWaiting_s0 ((a1, (), (), (0 : Int), ()), ((r3.1.1.1, (), (), (), r3.1.1.2.2.2.2.1, r3.1.1.2.2.2.2.2.1, r3.1.1.2.2.2.2.2.2.1, r3.1.1.2.2.2.2.2.2.2.1, (), (), ()), (ByteArray.empty, (), (), (), (0 : Int), (0 : Int), (0 : Int), (0 : Int), (), (), ()), ()), (r3.2.2.1, r3.2.2.2.1, r3.2.2.2.2.1, r3.2.2.2.2.2.1, r3.2.2.2.2.2.2.1, ()))).bind fun r11 =>
 some (((r11.2.1.1.1, (), (), (), r11.2.1.1.2.2.2.2.1, r11.2.1.1.2.2.2.2.2.1, r11.2.1.1.2.2.2.2.2.2.1, r11.2.1.1.2.2.2.2.2.2.2.1, (), (), ()), r11.1.2.2.1, ()), (), (r11.2.2.1, r11.2.2.2.1, r11.2.2.2.2.1, r11.2.2.2.2.2.1, r11.2.2.2.2.2.2.1, ()))))
noncomputable def impl_DropWaiting_C : Ctr := ⟨15, impl_DropWaiting_arg, impl_DropWaiting_res, fun x => impl_DropWaiting x.1.1.1 x.1.1.2.1 x.1.1.2.2.1 x.1.1.2.2.2.1 x.1.1.2.2.2.2.1 x.1.1.2.2.2.2.2.1 x.1.1.2.2.2.2.2.2.1 x.1.1.2.2.2.2.2.2.2.1 x.1.1.2.2.2.2.2.2.2.2.1 x.1.1.2.2.2.2.2.2.2.2.2.1 x.1.2.1, none⟩
def impl_DropWaiting_H : Hint := ⟨[47], [], [], fun _ => []⟩
noncomputable def impl_DropWaiting_T : List Ctr := [impl_MachineOk_C, impl_copyMachine_C, impl_DropMatrix_C]
noncomputable def impl_DropWaiting_Ls : List Lp := [impl_DropWaiting_L0]
theorem impl_DropWaiting_l0 : ∀ x, impl_DropWaiting_s0 x = stepW E0 impl_DropWaiting_T impl_DropWaiting_Ls impl_DropWaiting_H (loopAt (bodyOf Try.f15) 0) 0 impl_DropWaiting_h0 [] [(.exit 0, [])] impl_DropWaiting_r0 x := fun x => by kernel_rfl
theorem impl_DropWaiting_e : ∀ x, impl_DropWaiting_C.F x = runBodyW E0 impl_DropWaiting_T impl_DropWaiting_Ls impl_DropWaiting_H 15 Try.f15.results.toList (bodyOf Try.f15) [(.bx 4 1, 6000000, .i64), (.bx 4 2, 6000001, .i64), (.bx 4 3, 6000002, .mats), (.bx 4 8, 6000003, .mat), (.bx 4 9, 6000004, .mat)] (impl_DropWaiting_arg.mk' x) impl_DropWaiting_res := fun x => by kernel_rfl
theorem impl_DropWaiting_ok : impl_DropWaiting_C.Ok E0 := fn_ok (T := impl_DropWaiting_T) (h := impl_DropWaiting_H) (Ls := impl_DropWaiting_Ls) E0_mixed (T_cons impl_MachineOk_ok (T_cons impl_copyMachine_ok (T_cons impl_DropMatrix_ok T_nil))) Try.func15 (bodyOf_some (by kernel_rfl)) (by kernel_rfl) (loops_of (ks := [0]) (by kernel_rfl) ⟨(loop_one (h := impl_DropWaiting_H) (own := []) (head := impl_DropWaiting_h0) (back := []) (exs := [(.exit 0, [])]) (res := impl_DropWaiting_r0) (step := impl_DropWaiting_s0) (by kernel_rfl) impl_DropWaiting_l0), trivial⟩) impl_DropWaiting_e
def impl_SetLines_arg : Sh := ⟨[(0, .agg [.str, .rd [] .i64, .rd [] .i64, .rd [] .mats, .int .i64, .int .i64, .int .i64, .int .i64, .rd [] .mat, .rd [] .mat]), (1, .c (.rd [] .str))], [], []⟩
def impl_SetLines_res : List Sh := [⟨[(0, .agg [.str, .own 0, .own 1, .own 2, .int .i64, .int .i64, .int .i64, .int .i64, .own 3, .own 4]), (1, .c (.own 5)), (2, .c (.bool))], [], [(0, .i64), (1, .i64), (2, .mats), (3, .mat), (4, .mat), (5, .str)]⟩]
noncomputable def impl_SetLines_s0 (x : (Unit × Unit × Unit × List ByteArray × Int × Int × Unit) × ((ByteArray × Unit × Unit × Unit × Int × Int × Int × Int × Unit × Unit × Unit) × (ByteArray × Unit × Unit × Unit × Int × Int × Int × Int × Unit × Unit × Unit) × Unit) × (List ByteArray × List Int × List Int × List (List (Int × Int)) × List (Int × Int) × List (Int × Int) × Unit)) : Option (((Unit × Unit × Unit × List ByteArray × Int × Int × Unit) × ((ByteArray × Unit × Unit × Unit × Int × Int × Int × Int × Unit × Unit × Unit) × (ByteArray × Unit × Unit × Unit × Int × Int × Int × Int × Unit × Unit × Unit) × Unit) × (List ByteArray × List Int × List Int × List (List (Int × Int)) × List (Int × Int) × List (Int × Int) × Unit)) ⊕ (((Unit × Unit × Bool × Unit) × ((ByteArray × Unit × Unit × Unit × Int × Int × Int × Int × Unit × Unit × Unit) × Unit) × Unit) ⊕ ((Unit × Unit × Unit × Unit) × ((ByteArray × Unit × Unit × Unit × Int × Int × Int × Int × Unit × Unit × Unit) × (ByteArray × Unit × Unit × Unit × Int × Int × Int × Int × Unit × Unit × Unit) × Unit) × (List ByteArray × List Int × List Int × List (List (Int × Int)) × List (Int × Int) × List (Int × Int) × Unit)))) :=
 let x3 : Bool := decide (x.1.2.2.2.2.2.1 < x.1.2.2.2.2.1);
 br x3
 (ck (0 ≤ x.1.2.2.2.2.2.1)
 (ck (x.1.2.2.2.2.2.1.toNat < x.1.2.2.2.1.length)
 (let x4 : ByteArray := x.1.2.2.2.1.getD x.1.2.2.2.2.2.1.toNat ByteArray.empty;
 (impl_KeyText x.2.1.1.1 x.2.2.2.1 x.2.2.2.2.1 x.2.2.2.2.2.1 x.2.1.1.2.2.2.2.1 x.2.1.1.2.2.2.2.2.1 x.2.1.1.2.2.2.2.2.2.1 x.2.1.1.2.2.2.2.2.2.2.1 x.2.2.2.2.2.2.1 x.2.2.2.2.2.2.2.1 x4).bind fun r5 =>
 let x6 : Bool := r5.1.2.1 != (x4.size : Int);
 br x6
 (some (.inr (.inl (((), (), false, ()), ((ByteArray.empty, (), (), (), (0 : Int), (0 : Int), (0 : Int), (0 : Int), (), (), ()), ()), ()))))
 ((impl_CastLine r5.1.1.1 r5.2.2.1 r5.2.2.2.1 r5.2.2.2.2.1 r5.1.1.2.2.2.2.1 r5.1.1.2.2.2.2.2.1 r5.1.1.2.2.2.2.2.2.1 r5.1.1.2.2.2.2.2.2.2.1 r5.2.2.2.2.2.1 r5.2.2.2.2.2.2.1 true).bind fun r7 =>
 br (!r7.1.2.2.2.1)
 (some (.inr (.inl (((), (), false, ()), ((ByteArray.empty, (), (), (), (0 : Int), (0 : Int), (0 : Int), (0 : Int), (), (), ()), ()), ()))))
 (ck ((x.2.2.1.length + [r7.1.2.1].length) * 16 ≤ 140737488355328 ∧ (x.2.2.1.length + [r7.1.2.1].length) ≤ 9223372036854775807)
 (let x8 : List ByteArray := x.2.2.1 ++ [r7.1.2.1];
 (impl_DropWaiting r7.1.1.1 r7.2.2.1 r7.2.2.2.1 r7.2.2.2.2.1 r7.1.1.2.2.2.2.1 r7.1.1.2.2.2.2.2.1 r7.1.1.2.2.2.2.2.2.1 r7.1.1.2.2.2.2.2.2.2.1 [] r7.2.2.2.2.2.1 (240 : Int)).bind fun r9 =>
 let x10 : Int := w64 (x.1.2.2.2.2.2.1 + (1 : Int));
 some (.inl (((), (), (), x.1.2.2.2.1, x.1.2.2.2.2.1, x10, ()), ((r9.1.1.1, (), (), (), r9.1.1.2.2.2.2.1, r9.1.1.2.2.2.2.2.1, r9.1.1.2.2.2.2.2.2.1, r9.1.1.2.2.2.2.2.2.2.1, (), (), ()), (x.2.1.2.1.1, (), (), (), x.2.1.2.1.2.2.2.2.1, x.2.1.2.1.2.2.2.2.2.1, x.2.1.2.1.2.2.2.2.2.2.1, x.2.1.2.1.2.2.2.2.2.2.2.1, (), (), ()), ()), (x8, r9.2.2.1, r9.2.2.2.1, r9.2.2.2.2.1, r9.2.2.2.2.2.1, r9.2.2.2.2.2.2.1, ())))))))))
 (some (.inr (.inr (((), (), (), ()), ((x.2.1.1.1, (), (), (), x.2.1.1.2.2.2.2.1, x.2.1.1.2.2.2.2.2.1, x.2.1.1.2.2.2.2.2.2.1, x.2.1.1.2.2.2.2.2.2.2.1, (), (), ()), (x.2.1.2.1.1, (), (), (), x.2.1.2.1.2.2.2.2.1, x.2.1.2.1.2.2.2.2.2.1, x.2.1.2.1.2.2.2.2.2.2.1, x.2.1.2.1.2.2.2.2.2.2.2.1, (), (), ()), ()), (x.2.2.1, x.2.2.2.1, x.2.2.2.2.1, x.2.2.2.2.2.1, x.2.2.2.2.2.2.1, x.2.2.2.2.2.2.2.1, ())))))
def impl_SetLines_h0 : Sh := ⟨[(2, .c (.box 0 0)), (4, .c (.box 1 0)), (7, .c (.own 0)), (20, .c (.rd [] .str)), (21, .c (.int .i64)), (22, .c (.int .i64))], [(0, .cells [.str, .own 1, .own 2, .own 3, .int .i64, .int .i64, .int .i64, .int .i64, .own 4, .own 5]), (1, .cells [.str, .nil, .nil, .nil, .int .i64, .int .i64, .int .i64, .int .i64, .nil, .nil])], [(0, .str), (1, .i64), (2, .i64), (3, .mats), (4, .mat), (5, .mat)]⟩
def impl_SetLines_r0 : List Sh := [⟨[(4, .c (.box 0 0)), (5, .c (.nil)), (6, .c (.bool))], [(0, .cells [.str, .nil, .nil, .nil, .int .i64, .int .i64, .int .i64, .int .i64, .nil, .nil])], []⟩, ⟨[(2, .c (.box 0 0)), (4, .c (.box 1 0)), (7, .c (.own 0))], [(0, .cells [.str, .own 1, .own 2, .own 3, .int .i64, .int .i64, .int .i64, .int .i64, .own 4, .own 5]), (1, .cells [.str, .nil, .nil, .nil, .int .i64, .int .i64, .int .i64, .int .i64, .nil, .nil])], [(0, .str), (1, .i64), (2, .i64), (3, .mats), (4, .mat), (5, .mat)]⟩]
noncomputable def impl_SetLines_L0 : Lp := ⟨0, [], impl_SetLines_h0, [], [(.ret, []), (.exit 0, [])], impl_SetLines_r0, loopC impl_SetLines_s0⟩
noncomputable def impl_SetLines (a0_0 : ByteArray) (a0_1 : List Int) (a0_2 : List Int) (a0_3 : List (List (Int × Int))) (a0_4 : Int) (a0_5 : Int) (a0_6 : Int) (a0_7 : Int) (a0_8 : List (Int × Int)) (a0_9 : List (Int × Int)) (a1 : List ByteArray) : Option (((ByteArray × Unit × Unit × Unit × Int × Int × Int × Int × Unit × Unit × Unit) × Unit × Bool × Unit) × Unit × (List Int × List Int × List (List (Int × Int)) × List (Int × Int) × List (Int × Int) × List ByteArray × Unit)) :=
 (impl_MachineOk a0_0 a0_1 a0_2 a0_3 a0_4 a0_5 a0_6 a0_7 a0_8 a0_9).bind fun r1 =>
 br (!r1.1.1)
 (some (((ByteArray.empty, (), (), (), (0 : Int), (0 : Int), (0 : Int), (0 : Int), (), (), ()), (), false, ()), (), ([], [], [], [], [], [], ())))
 ((impl_copyMachine a0_0 a0_1 a0_2 a0_3 a0_4 a0_5 a0_6 a0_7 a0_8 a0_9).bind fun r2 =>
 (loopC impl_SetLines_s0 (((), (), (), a1, (a1.length : Int), (0 : Int), ()), ((r2.1.1.1, (), (), (), r2.1.1.2.2.2.2.1, r2.1.1.2.2.2.2.2.1, r2.1.1.2.2.2.2.2.2.1, r2.1.1.2.2.2.2.2.2.2.1, (), (), ()), (ByteArray.empty, (), (), (), (0 : Int), (0 : Int), (0 : Int), (0 : Int), (), (), ()), ()), ([], r2.2.2.1, r2.2.2.2.1, r2.2.2.2.2.1, r2.2.2.2.2.2.1, r2.2.2.2.2.2.2.1, ()))).bind fun r11 =>
 sumK r11 (fun y14 =>
 some (((y14.2.1.1.1, (), (), (), y14.2.1.1.2.2.2.2.1, y14.2.1.1.2.2.2.2.2.1, y14.2.1.1.2.2.2.2.2.2.1, y14.2.1.1.2.2.2.2.2.2.2.1, (), (), ()), (), y14.1.2.2.1, ()), (), ([], [], [], [], [], [], ()))) (fun y15 =>
 some (((y15.2.1.1.1, (), (), (), y15.2.1.1.2.2.2.2.1, y15.2.1.1.2.2.2.2.2.1, y15.2.1.1.2.2.2.2.2.2.1, y15.2.1.1.2.2.2.2.2.2.2.1, (), (), ()), (), true, ()), (), (y15.2.2.2.1, y15.2.2.2.2.1, y15.2.2.2.2.2.1, y15.2.2.2.2.2.2.1, y15.2.2.2.2.2.2.2.1, y15.2.2.1, ()))))
noncomputable def impl_SetLines_C : Ctr := ⟨28, impl_SetLines_arg, impl_SetLines_res, fun x => impl_SetLines x.1.1.1 x.1.1.2.1 x.1.1.2.2.1 x.1.1.2.2.2.1 x.1.1.2.2.2.2.1 x.1.1.2.2.2.2.2.1 x.1.1.2.2.2.2.2.2.1 x.1.1.2.2.2.2.2.2.2.1 x.1.1.2.2.2.2.2.2.2.2.1 x.1.1.2.2.2.2.2.2.2.2.2.1 x.1.2.1, none⟩
def impl_SetLines_H : Hint := ⟨[], [], [], fun _ => []⟩
noncomputable def impl_SetLines_T : List Ctr := [impl_MachineOk_C, impl_copyMachine_C, impl_KeyText_C, impl_CastLine_C, impl_DropWaiting_C]
noncomputable def impl_SetLines_Ls : List Lp := [impl_SetLines_L0]
theorem impl_SetLines_l0 : ∀ x, impl_SetLines_s0 x = stepW E0 impl_SetLines_T impl_SetLines_Ls impl_SetLines_H (loopAt (bodyOf Try.f28) 0) 0 impl_SetLines_h0 [] [(.ret, []), (.exit 0, [])] impl_SetLines_r0 x := fun x => by kernel_rfl
theorem impl_SetLines_e : ∀ x, impl_SetLines_C.F x = runBodyW E0 impl_SetLines_T impl_SetLines_Ls impl_SetLines_H 28 Try.f28.results.toList (bodyOf Try.f28) [(.bx 4 1, 6000000, .i64), (.bx 4 2, 6000001, .i64), (.bx 4 3, 6000002, .mats), (.bx 4 8, 6000003, .mat), (.bx 4 9, 6000004, .mat), (.tm 5, 6000005, .str)] (impl_SetLines_arg.mk' x) impl_SetLines_res := fun x => by kernel_rfl
theorem impl_SetLines_ok : impl_SetLines_C.Ok E0 := fn_ok (T := impl_SetLines_T) (h := impl_SetLines_H) (Ls := impl_SetLines_Ls) E0_mixed (T_cons impl_MachineOk_ok (T_cons impl_copyMachine_ok (T_cons impl_KeyText_ok (T_cons impl_CastLine_ok (T_cons impl_DropWaiting_ok T_nil))))) Try.func28 (bodyOf_some (by kernel_rfl)) (by kernel_rfl) (loops_of (ks := [0]) (by kernel_rfl) ⟨(loop_one (h := impl_SetLines_H) (own := []) (head := impl_SetLines_h0) (back := []) (exs := [(.ret, []), (.exit 0, [])]) (res := impl_SetLines_r0) (step := impl_SetLines_s0) (by kernel_rfl) impl_SetLines_l0), trivial⟩) impl_SetLines_e
def laws_at_arg : Sh := ⟨[(0, .c (.rd [] .u8)), (1, .c (.int .i64))], [], []⟩
def laws_at_res : List Sh := [⟨[(0, .c (.int .i64))], [], []⟩]
noncomputable def laws_at (a0 : List Int) (a1 : Int) : Option ((Int × Unit) × Unit × Unit) :=
 let x1 : Bool := decide (a1 < (a0.length : Int));
 br x1
 (ck (0 ≤ a1)
 (ck (a1.toNat < a0.length)
 (let x2 : Int := a0.getD a1.toNat 0;
 let x3 : Int := w64 x2;
 some ((x3, ()), (), ()))))
 (let x4 : Int := w64 (a1 * (37 : Int));
 let x5 : Int := w64 ((a0.length : Int) * (11 : Int));
 let x6 : Int := w64 (x4 + x5);
 let x7 : Int := x6.tmod (256 : Int);
 some ((x7, ()), (), ()))
noncomputable def laws_at_C : Ctr := ⟨12, laws_at_arg, laws_at_res, fun x => laws_at x.1.1 x.1.2.1, none⟩
def laws_at_H : Hint := ⟨[], [], [], fun _ => []⟩
noncomputable def laws_at_T : List Ctr := []
noncomputable def laws_at_Ls : List Lp := []
theorem laws_at_e : ∀ x, laws_at_C.F x = runBodyW E0 laws_at_T laws_at_Ls laws_at_H 12 Try.f12.results.toList (bodyOf Try.f12) [] (laws_at_arg.mk' x) laws_at_res := fun x => by kernel_rfl
theorem laws_at_ok : laws_at_C.Ok E0 := fn_ok (T := laws_at_T) (h := laws_at_H) (Ls := laws_at_Ls) E0_mixed T_nil Try.func12 (bodyOf_some (by kernel_rfl)) (by kernel_rfl) (loops_of (ks := []) (by kernel_rfl) trivial) laws_at_e
def laws_ints_arg : Sh := ⟨[(0, .c (.rd [] .i64)), (1, .c (.rd [] .i64))], [], []⟩
def laws_ints_res : List Sh := [⟨[(0, .c (.bool))], [], []⟩]
noncomputable def laws_ints_s0 (x : (List Int × List Int × Int × Int × Unit) × Unit × Unit) : Option (((List Int × List Int × Int × Int × Unit) × Unit × Unit) ⊕ (((Bool × Unit) × Unit × Unit) ⊕ (Unit × Unit × Unit))) :=
 let x2 : Bool := decide (x.1.2.2.2.1 < x.1.2.2.1);
 br x2
 (ck (0 ≤ x.1.2.2.2.1)
 (ck (x.1.2.2.2.1.toNat < x.1.1.length)
 (let x3 : Int := x.1.1.getD x.1.2.2.2.1.toNat 0;
 ck (0 ≤ x.1.2.2.2.1)
 (ck (x.1.2.2.2.1.toNat < x.1.2.1.length)
 (let x4 : Int := x.1.2.1.getD x.1.2.2.2.1.toNat 0;
 let x5 : Bool := x3 != x4;
 br x5
 (some (.inr (.inl ((false, ()), (), ()))))
 (let x6 : Int := w64 (x.1.2.2.2.1 + (1 : Int));
 some (.inl ((x.1.1, x.1.2.1, x.1.2.2.1, x6, ()), (), ()))))))))
 (some (.inr (.inr ((), (), ()))))
def laws_ints_h0 : Sh := ⟨[(0, .c (.rd [] .i64)), (1, .c (.rd [] .i64)), (12, .c (.int .i64)), (13, .c (.int .i64))], [], []⟩
def laws_ints_r0 : List Sh := [⟨[(4, .c (.bool))], [], []⟩, ⟨[], [], []⟩]
noncomputable def laws_ints_L0 : Lp := ⟨0, [], laws_ints_h0, [], [(.ret, []), (.exit 0, [])], laws_ints_r0, loopC laws_ints_s0⟩
noncomputable def laws_ints (a0 : List Int) (a1 : List Int) : Option ((Bool × Unit) × Unit × Unit) :=
 let x1 : Bool := (a0.length : Int) != (a1.length : Int);
 br x1
 (some ((false, ()), (), ()))
 ((loopC laws_ints_s0 ((a0, a1, (a0.length : Int), (0 : Int), ()), (), ())).bind fun r7 =>
 sumK r7 (fun y10 =>
 some ((y10.1.1, ()), (), ())) (fun y11 =>
 some ((true, ()), (), ())))
noncomputable def laws_ints_C : Ctr := ⟨65, laws_ints_arg, laws_ints_res, fun x => laws_ints x.1.1 x.1.2.1, none⟩
def laws_ints_H : Hint := ⟨[], [], [], fun _ => []⟩
noncomputable def laws_ints_T : List Ctr := []
noncomputable def laws_ints_Ls : List Lp := [laws_ints_L0]
theorem laws_ints_l0 : ∀ x, laws_ints_s0 x = stepW E0 laws_ints_T laws_ints_Ls laws_ints_H (loopAt (bodyOf Try.f65) 0) 0 laws_ints_h0 [] [(.ret, []), (.exit 0, [])] laws_ints_r0 x := fun x => by kernel_rfl
theorem laws_ints_e : ∀ x, laws_ints_C.F x = runBodyW E0 laws_ints_T laws_ints_Ls laws_ints_H 65 Try.f65.results.toList (bodyOf Try.f65) [] (laws_ints_arg.mk' x) laws_ints_res := fun x => by kernel_rfl
theorem laws_ints_ok : laws_ints_C.Ok E0 := fn_ok (T := laws_ints_T) (h := laws_ints_H) (Ls := laws_ints_Ls) E0_mixed T_nil Try.func65 (bodyOf_some (by kernel_rfl)) (by kernel_rfl) (loops_of (ks := [0]) (by kernel_rfl) ⟨(loop_one (h := laws_ints_H) (own := []) (head := laws_ints_h0) (back := []) (exs := [(.ret, []), (.exit 0, [])]) (res := laws_ints_r0) (step := laws_ints_s0) (by kernel_rfl) laws_ints_l0), trivial⟩) laws_ints_e
def laws_pieces_arg : Sh := ⟨[(0, .c (.rd [] .mat)), (1, .c (.rd [] .mat))], [], []⟩
def laws_pieces_res : List Sh := [⟨[(0, .c (.bool))], [], []⟩]
noncomputable def laws_pieces_s0 (x : (List (Int × Int) × List (Int × Int) × Int × Int × Unit) × Unit × Unit) : Option (((List (Int × Int) × List (Int × Int) × Int × Int × Unit) × Unit × Unit) ⊕ (((Bool × Unit) × Unit × Unit) ⊕ (Unit × Unit × Unit))) :=
 let x2 : Bool := decide (x.1.2.2.2.1 < x.1.2.2.1);
 br x2
 (ck (0 ≤ x.1.2.2.2.1)
 (ck (x.1.2.2.2.1.toNat < x.1.1.length)
 (let x3 : Int × Int := x.1.1.getD x.1.2.2.2.1.toNat (0, 0);
 ck (0 ≤ x.1.2.2.2.1)
 (ck (x.1.2.2.2.1.toNat < x.1.2.1.length)
 (let x4 : Int × Int := x.1.2.1.getD x.1.2.2.2.1.toNat (0, 0);
 let x5 : Bool := !eqInts [x3.1, x3.2] [x4.1, x4.2];
 br x5
 (some (.inr (.inl ((false, ()), (), ()))))
 (let x6 : Int := w64 (x.1.2.2.2.1 + (1 : Int));
 some (.inl ((x.1.1, x.1.2.1, x.1.2.2.1, x6, ()), (), ()))))))))
 (some (.inr (.inr ((), (), ()))))
def laws_pieces_h0 : Sh := ⟨[(0, .c (.rd [] .mat)), (1, .c (.rd [] .mat)), (12, .c (.int .i64)), (13, .c (.int .i64))], [], []⟩
def laws_pieces_r0 : List Sh := [⟨[(4, .c (.bool))], [], []⟩, ⟨[], [], []⟩]
noncomputable def laws_pieces_L0 : Lp := ⟨0, [], laws_pieces_h0, [], [(.ret, []), (.exit 0, [])], laws_pieces_r0, loopC laws_pieces_s0⟩
noncomputable def laws_pieces (a0 : List (Int × Int)) (a1 : List (Int × Int)) : Option ((Bool × Unit) × Unit × Unit) :=
 let x1 : Bool := (a0.length : Int) != (a1.length : Int);
 br x1
 (some ((false, ()), (), ()))
 ((loopC laws_pieces_s0 ((a0, a1, (a0.length : Int), (0 : Int), ()), (), ())).bind fun r7 =>
 sumK r7 (fun y10 =>
 some ((y10.1.1, ()), (), ())) (fun y11 =>
 some ((true, ()), (), ())))
noncomputable def laws_pieces_C : Ctr := ⟨22, laws_pieces_arg, laws_pieces_res, fun x => laws_pieces x.1.1 x.1.2.1, none⟩
def laws_pieces_H : Hint := ⟨[], [], [], fun _ => []⟩
noncomputable def laws_pieces_T : List Ctr := []
noncomputable def laws_pieces_Ls : List Lp := [laws_pieces_L0]
theorem laws_pieces_l0 : ∀ x, laws_pieces_s0 x = stepW E0 laws_pieces_T laws_pieces_Ls laws_pieces_H (loopAt (bodyOf Try.f22) 0) 0 laws_pieces_h0 [] [(.ret, []), (.exit 0, [])] laws_pieces_r0 x := fun x => by kernel_rfl
theorem laws_pieces_e : ∀ x, laws_pieces_C.F x = runBodyW E0 laws_pieces_T laws_pieces_Ls laws_pieces_H 22 Try.f22.results.toList (bodyOf Try.f22) [] (laws_pieces_arg.mk' x) laws_pieces_res := fun x => by kernel_rfl
theorem laws_pieces_ok : laws_pieces_C.Ok E0 := fn_ok (T := laws_pieces_T) (h := laws_pieces_H) (Ls := laws_pieces_Ls) E0_mixed T_nil Try.func22 (bodyOf_some (by kernel_rfl)) (by kernel_rfl) (loops_of (ks := [0]) (by kernel_rfl) ⟨(loop_one (h := laws_pieces_H) (own := []) (head := laws_pieces_h0) (back := []) (exs := [(.ret, []), (.exit 0, [])]) (res := laws_pieces_r0) (step := laws_pieces_s0) (by kernel_rfl) laws_pieces_l0), trivial⟩) laws_pieces_e
def laws_stocks_arg : Sh := ⟨[(0, .c (.rd [] .mats)), (1, .c (.rd [] .mats))], [], []⟩
def laws_stocks_res : List Sh := [⟨[(0, .c (.bool))], [], []⟩]
noncomputable def laws_stocks_s0 (x : (List (List (Int × Int)) × List (List (Int × Int)) × Int × Int × Unit) × Unit × Unit) : Option (((List (List (Int × Int)) × List (List (Int × Int)) × Int × Int × Unit) × Unit × Unit) ⊕ (((Bool × Unit) × Unit × Unit) ⊕ (Unit × Unit × Unit))) :=
 let x2 : Bool := decide (x.1.2.2.2.1 < x.1.2.2.1);
 br x2
 (ck (0 ≤ x.1.2.2.2.1)
 (ck (x.1.2.2.2.1.toNat < x.1.1.length)
 (let x3 : List (Int × Int) := x.1.1.getD x.1.2.2.2.1.toNat [];
 ck (0 ≤ x.1.2.2.2.1)
 (ck (x.1.2.2.2.1.toNat < x.1.2.1.length)
 (let x4 : List (Int × Int) := x.1.2.1.getD x.1.2.2.2.1.toNat [];
 (laws_pieces x3 x4).bind fun r5 =>
 br (!r5.1.1)
 (some (.inr (.inl ((false, ()), (), ()))))
 (let x6 : Int := w64 (x.1.2.2.2.1 + (1 : Int));
 some (.inl ((x.1.1, x.1.2.1, x.1.2.2.1, x6, ()), (), ()))))))))
 (some (.inr (.inr ((), (), ()))))
def laws_stocks_h0 : Sh := ⟨[(0, .c (.rd [] .mats)), (1, .c (.rd [] .mats)), (12, .c (.int .i64)), (13, .c (.int .i64))], [], []⟩
def laws_stocks_r0 : List Sh := [⟨[(4, .c (.bool))], [], []⟩, ⟨[], [], []⟩]
noncomputable def laws_stocks_L0 : Lp := ⟨0, [], laws_stocks_h0, [], [(.ret, []), (.exit 0, [])], laws_stocks_r0, loopC laws_stocks_s0⟩
noncomputable def laws_stocks (a0 : List (List (Int × Int))) (a1 : List (List (Int × Int))) : Option ((Bool × Unit) × Unit × Unit) :=
 let x1 : Bool := (a0.length : Int) != (a1.length : Int);
 br x1
 (some ((false, ()), (), ()))
 ((loopC laws_stocks_s0 ((a0, a1, (a0.length : Int), (0 : Int), ()), (), ())).bind fun r7 =>
 sumK r7 (fun y10 =>
 some ((y10.1.1, ()), (), ())) (fun y11 =>
 some ((true, ()), (), ())))
noncomputable def laws_stocks_C : Ctr := ⟨18, laws_stocks_arg, laws_stocks_res, fun x => laws_stocks x.1.1 x.1.2.1, none⟩
def laws_stocks_H : Hint := ⟨[], [], [], fun _ => []⟩
noncomputable def laws_stocks_T : List Ctr := [laws_pieces_C]
noncomputable def laws_stocks_Ls : List Lp := [laws_stocks_L0]
theorem laws_stocks_l0 : ∀ x, laws_stocks_s0 x = stepW E0 laws_stocks_T laws_stocks_Ls laws_stocks_H (loopAt (bodyOf Try.f18) 0) 0 laws_stocks_h0 [] [(.ret, []), (.exit 0, [])] laws_stocks_r0 x := fun x => by kernel_rfl
theorem laws_stocks_e : ∀ x, laws_stocks_C.F x = runBodyW E0 laws_stocks_T laws_stocks_Ls laws_stocks_H 18 Try.f18.results.toList (bodyOf Try.f18) [] (laws_stocks_arg.mk' x) laws_stocks_res := fun x => by kernel_rfl
theorem laws_stocks_ok : laws_stocks_C.Ok E0 := fn_ok (T := laws_stocks_T) (h := laws_stocks_H) (Ls := laws_stocks_Ls) E0_mixed (T_cons laws_pieces_ok T_nil) Try.func18 (bodyOf_some (by kernel_rfl)) (by kernel_rfl) (loops_of (ks := [0]) (by kernel_rfl) ⟨(loop_one (h := laws_stocks_H) (own := []) (head := laws_stocks_h0) (back := []) (exs := [(.ret, []), (.exit 0, [])]) (res := laws_stocks_r0) (step := laws_stocks_s0) (by kernel_rfl) laws_stocks_l0), trivial⟩) laws_stocks_e
def laws_same_arg : Sh := ⟨[(0, .agg [.str, .rd [] .i64, .rd [] .i64, .rd [] .mats, .int .i64, .int .i64, .int .i64, .int .i64, .rd [] .mat, .rd [] .mat]), (1, .agg [.str, .rd [] .i64, .rd [] .i64, .rd [] .mats, .int .i64, .int .i64, .int .i64, .int .i64, .rd [] .mat, .rd [] .mat])], [], []⟩
def laws_same_res : List Sh := [⟨[(0, .c (.bool))], [], []⟩]
noncomputable def laws_same (a0_0 : ByteArray) (a0_1 : List Int) (a0_2 : List Int) (a0_3 : List (List (Int × Int))) (a0_4 : Int) (a0_5 : Int) (a0_6 : Int) (a0_7 : Int) (a0_8 : List (Int × Int)) (a0_9 : List (Int × Int)) (a1_0 : ByteArray) (a1_1 : List Int) (a1_2 : List Int) (a1_3 : List (List (Int × Int))) (a1_4 : Int) (a1_5 : Int) (a1_6 : Int) (a1_7 : Int) (a1_8 : List (Int × Int)) (a1_9 : List (Int × Int)) : Option ((Bool × Unit) × Unit × Unit) :=
 let x1 : Bool := strEq a0_0 a1_0;
 br x1
 ((laws_ints a0_1 a1_1).bind fun r2 =>
 br r2.1.1
 ((laws_ints a0_2 a1_2).bind fun r3 =>
 br r3.1.1
 ((laws_stocks a0_3 a1_3).bind fun r4 =>
 br r4.1.1
 (let x5 : Bool := a0_4 == a1_4;
 br x5
 (let x6 : Bool := eqInts [a0_5, a0_6, a0_7] [a1_5, a1_6, a1_7];
 br x6
 ((laws_pieces a0_8 a1_8).bind fun r7 =>
 br r7.1.1
 ((laws_pieces a0_9 a1_9).bind fun r8 =>
 some ((r8.1.1, ()), (), ()))
 (some ((false, ()), (), ())))
 (some ((false, ()), (), ())))
 (some ((false, ()), (), ())))
 (some ((false, ()), (), ())))
 (some ((false, ()), (), ())))
 (some ((false, ()), (), ())))
 (some ((false, ()), (), ()))
noncomputable def laws_same_C : Ctr := ⟨21, laws_same_arg, laws_same_res, fun x => laws_same x.1.1.1 x.1.1.2.1 x.1.1.2.2.1 x.1.1.2.2.2.1 x.1.1.2.2.2.2.1 x.1.1.2.2.2.2.2.1 x.1.1.2.2.2.2.2.2.1 x.1.1.2.2.2.2.2.2.2.1 x.1.1.2.2.2.2.2.2.2.2.1 x.1.1.2.2.2.2.2.2.2.2.2.1 x.1.2.1.1 x.1.2.1.2.1 x.1.2.1.2.2.1 x.1.2.1.2.2.2.1 x.1.2.1.2.2.2.2.1 x.1.2.1.2.2.2.2.2.1 x.1.2.1.2.2.2.2.2.2.1 x.1.2.1.2.2.2.2.2.2.2.1 x.1.2.1.2.2.2.2.2.2.2.2.1 x.1.2.1.2.2.2.2.2.2.2.2.2.1, none⟩
def laws_same_H : Hint := ⟨[], [], [], fun _ => []⟩
noncomputable def laws_same_T : List Ctr := [laws_ints_C, laws_stocks_C, laws_pieces_C]
noncomputable def laws_same_Ls : List Lp := []
theorem laws_same_e : ∀ x, laws_same_C.F x = runBodyW E0 laws_same_T laws_same_Ls laws_same_H 21 Try.f21.results.toList (bodyOf Try.f21) [] (laws_same_arg.mk' x) laws_same_res := fun x => by kernel_rfl
theorem laws_same_ok : laws_same_C.Ok E0 := fn_ok (T := laws_same_T) (h := laws_same_H) (Ls := laws_same_Ls) E0_mixed (T_cons laws_ints_ok (T_cons laws_stocks_ok (T_cons laws_pieces_ok T_nil))) Try.func21 (bodyOf_some (by kernel_rfl)) (by kernel_rfl) (loops_of (ks := []) (by kernel_rfl) trivial) laws_same_e
def laws_strings_arg : Sh := ⟨[(0, .c (.rd [] .str)), (1, .c (.rd [] .str))], [], []⟩
def laws_strings_res : List Sh := [⟨[(0, .c (.bool))], [], []⟩]
noncomputable def laws_strings_s0 (x : (List ByteArray × List ByteArray × Int × Int × Unit) × Unit × Unit) : Option (((List ByteArray × List ByteArray × Int × Int × Unit) × Unit × Unit) ⊕ (((Bool × Unit) × Unit × Unit) ⊕ (Unit × Unit × Unit))) :=
 let x2 : Bool := decide (x.1.2.2.2.1 < x.1.2.2.1);
 br x2
 (ck (0 ≤ x.1.2.2.2.1)
 (ck (x.1.2.2.2.1.toNat < x.1.1.length)
 (let x3 : ByteArray := x.1.1.getD x.1.2.2.2.1.toNat ByteArray.empty;
 ck (0 ≤ x.1.2.2.2.1)
 (ck (x.1.2.2.2.1.toNat < x.1.2.1.length)
 (let x4 : ByteArray := x.1.2.1.getD x.1.2.2.2.1.toNat ByteArray.empty;
 let x5 : Bool := !strEq x3 x4;
 br x5
 (some (.inr (.inl ((false, ()), (), ()))))
 (let x6 : Int := w64 (x.1.2.2.2.1 + (1 : Int));
 some (.inl ((x.1.1, x.1.2.1, x.1.2.2.1, x6, ()), (), ()))))))))
 (some (.inr (.inr ((), (), ()))))
def laws_strings_h0 : Sh := ⟨[(0, .c (.rd [] .str)), (1, .c (.rd [] .str)), (12, .c (.int .i64)), (13, .c (.int .i64))], [], []⟩
def laws_strings_r0 : List Sh := [⟨[(4, .c (.bool))], [], []⟩, ⟨[], [], []⟩]
noncomputable def laws_strings_L0 : Lp := ⟨0, [], laws_strings_h0, [], [(.ret, []), (.exit 0, [])], laws_strings_r0, loopC laws_strings_s0⟩
noncomputable def laws_strings (a0 : List ByteArray) (a1 : List ByteArray) : Option ((Bool × Unit) × Unit × Unit) :=
 let x1 : Bool := (a0.length : Int) != (a1.length : Int);
 br x1
 (some ((false, ()), (), ()))
 ((loopC laws_strings_s0 ((a0, a1, (a0.length : Int), (0 : Int), ()), (), ())).bind fun r7 =>
 sumK r7 (fun y10 =>
 some ((y10.1.1, ()), (), ())) (fun y11 =>
 some ((true, ()), (), ())))
noncomputable def laws_strings_C : Ctr := ⟨29, laws_strings_arg, laws_strings_res, fun x => laws_strings x.1.1 x.1.2.1, none⟩
def laws_strings_H : Hint := ⟨[], [], [], fun _ => []⟩
noncomputable def laws_strings_T : List Ctr := []
noncomputable def laws_strings_Ls : List Lp := [laws_strings_L0]
theorem laws_strings_l0 : ∀ x, laws_strings_s0 x = stepW E0 laws_strings_T laws_strings_Ls laws_strings_H (loopAt (bodyOf Try.f29) 0) 0 laws_strings_h0 [] [(.ret, []), (.exit 0, [])] laws_strings_r0 x := fun x => by kernel_rfl
theorem laws_strings_e : ∀ x, laws_strings_C.F x = runBodyW E0 laws_strings_T laws_strings_Ls laws_strings_H 29 Try.f29.results.toList (bodyOf Try.f29) [] (laws_strings_arg.mk' x) laws_strings_res := fun x => by kernel_rfl
theorem laws_strings_ok : laws_strings_C.Ok E0 := fn_ok (T := laws_strings_T) (h := laws_strings_H) (Ls := laws_strings_Ls) E0_mixed T_nil Try.func29 (bodyOf_some (by kernel_rfl)) (by kernel_rfl) (loops_of (ks := [0]) (by kernel_rfl) ⟨(loop_one (h := laws_strings_H) (own := []) (head := laws_strings_h0) (back := []) (exs := [(.ret, []), (.exit 0, [])]) (res := laws_strings_r0) (step := laws_strings_s0) (by kernel_rfl) laws_strings_l0), trivial⟩) laws_strings_e
def laws_FnLines_arg : Sh := ⟨[(0, .c (.rd [] .u8))], [], []⟩
def laws_FnLines_res : List Sh := [⟨[(0, .c (.bool))], [], []⟩]
noncomputable def laws_FnLines (a0 : List Int) : Option ((Bool × Unit) × Unit × Unit) :=
 let x1 : Bool := decide ((a0.length : Int) > (1048576 : Int));
 br x1
 (some ((true, ()), (), ()))
 ((spec_DrawSetLines a0).bind fun r2 =>
 (impl_SetLines r2.1.1.1 r2.1.1.2.1 r2.1.1.2.2.1 r2.2.2.1 r2.1.1.2.2.2.2.1 r2.1.1.2.2.2.2.2.1 r2.1.1.2.2.2.2.2.2.1 r2.1.1.2.2.2.2.2.2.2.1 r2.2.2.2.1 r2.2.2.2.2.1 r2.2.2.2.2.2.1).bind fun r3 =>
 (laws_at a0 (0 : Int)).bind fun r4 =>
 let x5 : Int := w64 ((r2.2.2.2.2.2.1.length : Int) + (1 : Int));
 ck (x5 ≠ 0)
 (let x6 : Int := r4.1.1.tmod x5;
 ck (0 ≤ x6)
 (ck (0 ≤ x6.toNat ∧ x6.toNat ≤ r2.2.2.2.2.2.1.length)
 (let x7 : List ByteArray := cut r2.2.2.2.2.2.1 0 x6.toNat;
 (impl_SetLines r2.1.1.1 r2.1.1.2.1 r2.1.1.2.2.1 r2.2.2.1 r2.1.1.2.2.2.2.1 r2.1.1.2.2.2.2.2.1 r2.1.1.2.2.2.2.2.2.1 r2.1.1.2.2.2.2.2.2.2.1 r2.2.2.2.1 r2.2.2.2.2.1 x7).bind fun r8 =>
 br (!r8.1.2.2.1)
 (br (!r3.1.2.2.1)
 ((spec_MachineOk r2.1.1.1 r2.1.1.2.1 r2.1.1.2.2.1 r2.2.2.1 r2.1.1.2.2.2.2.1 r2.1.1.2.2.2.2.2.1 r2.1.1.2.2.2.2.2.2.1 r2.1.1.2.2.2.2.2.2.2.1 r2.2.2.2.1 r2.2.2.2.2.1).bind fun r9 =>
 br (!r9.1.1)
 (some ((true, ()), (), ()))
 (let x10 : Bool := decide (x6 > (0 : Int));
 some ((x10, ()), (), ())))
 (some ((false, ()), (), ())))
 (ck (0 ≤ x6)
 (ck (x6.toNat ≤ r2.2.2.2.2.2.1.length ∧ r2.2.2.2.2.2.1.length ≤ r2.2.2.2.2.2.1.length)
 (let x11 : List ByteArray := cut r2.2.2.2.2.2.1 x6.toNat r2.2.2.2.2.2.1.length;
 (impl_SetLines r8.1.1.1 r8.2.2.1 r8.2.2.2.1 r8.2.2.2.2.1 r8.1.1.2.2.2.2.1 r8.1.1.2.2.2.2.2.1 r8.1.1.2.2.2.2.2.2.1 r8.1.1.2.2.2.2.2.2.2.1 r8.2.2.2.2.2.1 r8.2.2.2.2.2.2.1 x11).bind fun r12 =>
 br (!r12.1.2.2.1)
 (some ((!r3.1.2.2.1, ()), (), ()))
 (br r3.1.2.2.1
 ((laws_same r12.1.1.1 r12.2.2.1 r12.2.2.2.1 r12.2.2.2.2.1 r12.1.1.2.2.2.2.1 r12.1.1.2.2.2.2.2.1 r12.1.1.2.2.2.2.2.2.1 r12.1.1.2.2.2.2.2.2.2.1 r12.2.2.2.2.2.1 r12.2.2.2.2.2.2.1 r3.1.1.1 r3.2.2.1 r3.2.2.2.1 r3.2.2.2.2.1 r3.1.1.2.2.2.2.1 r3.1.1.2.2.2.2.2.1 r3.1.1.2.2.2.2.2.2.1 r3.1.1.2.2.2.2.2.2.2.1 r3.2.2.2.2.2.1 r3.2.2.2.2.2.2.1).bind fun r13 =>
 br r13.1.1
 (ck ((([] : List Int).length + r8.2.2.2.2.2.2.2.1.length) * 16 ≤ 140737488355328 ∧ (([] : List Int).length + r8.2.2.2.2.2.2.2.1.length) ≤ 9223372036854775807)
 (let x14 : List ByteArray := [] ++ r8.2.2.2.2.2.2.2.1;
 ck ((x14.length + r12.2.2.2.2.2.2.2.1.length) * 16 ≤ 140737488355328 ∧ (x14.length + r12.2.2.2.2.2.2.2.1.length) ≤ 9223372036854775807)
 (let x15 : List ByteArray := x14 ++ r12.2.2.2.2.2.2.2.1;
 (laws_strings x15 r3.2.2.2.2.2.2.2.1).bind fun r16 =>
 br r16.1.1
 (let x17 : Bool := (r3.2.2.2.2.2.2.2.1.length : Int) == (r2.2.2.2.2.2.1.length : Int);
 some ((x17, ()), (), ()))
 (some ((false, ()), (), ())))))
 (some ((false, ()), (), ())))
 (some ((false, ()), (), ()))))))))))
noncomputable def laws_FnLines_C : Ctr := ⟨6, laws_FnLines_arg, laws_FnLines_res, fun x => laws_FnLines x.1.1, none⟩
def laws_FnLines_H : Hint := ⟨[], [], [], fun _ => []⟩
noncomputable def laws_FnLines_T : List Ctr := [spec_DrawSetLines_C, impl_SetLines_C, laws_at_C, spec_MachineOk_C, laws_same_C, laws_strings_C]
noncomputable def laws_FnLines_Ls : List Lp := []
theorem laws_FnLines_e : ∀ x, laws_FnLines_C.F x = runBodyW E0 laws_FnLines_T laws_FnLines_Ls laws_FnLines_H 6 Try.f6.results.toList (bodyOf Try.f6) [] (laws_FnLines_arg.mk' x) laws_FnLines_res := fun x => by kernel_rfl
theorem laws_FnLines_ok : laws_FnLines_C.Ok E0 := fn_ok (T := laws_FnLines_T) (h := laws_FnLines_H) (Ls := laws_FnLines_Ls) E0_mixed (T_cons spec_DrawSetLines_ok (T_cons impl_SetLines_ok (T_cons laws_at_ok (T_cons spec_MachineOk_ok (T_cons laws_same_ok (T_cons laws_strings_ok T_nil)))))) Try.func6 (bodyOf_some (by kernel_rfl)) (by kernel_rfl) (loops_of (ks := []) (by kernel_rfl) trivial) laws_FnLines_e
end Go.Tree
