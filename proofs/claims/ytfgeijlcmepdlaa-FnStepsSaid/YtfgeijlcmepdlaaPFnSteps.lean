/- What each function that the law FnSteps reaches computes, as a plain function, and the proof that the program's code computes it. No condition but the function's own answer. -/
import Derived.Test.YtfgeijlcmepdlaaPFnStepsa
namespace Go.Tree
open Go Go.Proofs
set_option linter.unusedVariables false
set_option maxRecDepth 100000
def impl_DropWaiting_arg : Sh := ⟨[(0, .agg [.str, .rd [] .i64, .rd [] .i64, .rd [] .mats, .int .i64, .int .i64, .int .i64, .int .i64, .rd [] .mat, .rd [] .mat]), (1, .c (.int .i64))], [], []⟩
def impl_DropWaiting_res : List Sh := [⟨[(0, .agg [.str, .own 0, .own 1, .own 2, .int .i64, .int .i64, .int .i64, .int .i64, .own 3, .own 4]), (1, .c (.int .i64))], [], [(0, .i64), (1, .i64), (2, .mats), (3, .mat), (4, .mat)]⟩]
noncomputable def impl_DropWaiting_s0 (x : (Int × Unit × Unit × Int × Unit) × ((ByteArray × Unit × Unit × Unit × Int × Int × Int × Int × Unit × Unit × Unit) × (ByteArray × Unit × Unit × Unit × Int × Int × Int × Int × Unit × Unit × Unit) × Unit) × (List Int × List Int × List (List (Int × Int)) × List (Int × Int) × List (Int × Int) × Unit)) : Option (((Int × Unit × Unit × Int × Unit) × ((ByteArray × Unit × Unit × Unit × Int × Int × Int × Int × Unit × Unit × Unit) × (ByteArray × Unit × Unit × Unit × Int × Int × Int × Int × Unit × Unit × Unit) × Unit) × (List Int × List Int × List (List (Int × Int)) × List (Int × Int) × List (Int × Int) × Unit)) ⊕ ((Unit × Unit × Int × Unit) × ((ByteArray × Unit × Unit × Unit × Int × Int × Int × Int × Unit × Unit × Unit) × (ByteArray × Unit × Unit × Unit × Int × Int × Int × Int × Unit × Unit × Unit) × Unit) × (List Int × List Int × List (List (Int × Int)) × List (Int × Int) × List (Int × Int) × Unit))) :=
 let x4 : Bool := decide (x.1.2.2.2.1 < x.1.1);
 br x4
 (let x5 : Bool := decide ((x.2.2.2.2.2.2.1.length : Int) > (0 : Int));
 br x5
 (ck (0 < x.2.2.2.2.2.2.1.length)
 (ck (0 < x.2.2.2.2.2.2.1.length)
 (let x6 : Int := (x.2.2.2.2.2.2.1.getD 0 (0, 0)).1;
 let x7 : Int := (x.2.2.2.2.2.2.1.getD 0 (0, 0)).2;
 (impl_DropMatrix x.2.1.1.1 x.2.2.1 x.2.2.2.1 x.2.2.2.2.1 x6 x7).bind fun r8 =>
 br (!r8.1.2.2.1)
 (some (.inr (((), (), x.1.2.2.2.1, ()), ((x.2.1.1.1, (), (), (), x.2.1.1.2.2.2.2.1, x.2.1.1.2.2.2.2.2.1, x.2.1.1.2.2.2.2.2.2.1, x.2.1.1.2.2.2.2.2.2.2.1, (), (), ()), (x.2.1.2.1.1, (), (), (), x.2.1.2.1.2.2.2.2.1, x.2.1.2.1.2.2.2.2.2.1, x.2.1.2.1.2.2.2.2.2.2.1, x.2.1.2.1.2.2.2.2.2.2.2.1, (), (), ()), ()), (x.2.2.1, x.2.2.2.1, x.2.2.2.2.1, x.2.2.2.2.2.1, x.2.2.2.2.2.2.1, ()))))
 (ck (1 ≤ x.2.2.2.2.2.2.1.length ∧ x.2.2.2.2.2.2.1.length ≤ x.2.2.2.2.2.2.1.length)
 (let x9 : List (Int × Int) := cut x.2.2.2.2.2.2.1 1 x.2.2.2.2.2.2.1.length;
 let x10 : Int := w64 (x.1.2.2.2.1 + (1 : Int));
 some (.inl ((x.1.1, (), (), x10, ()), ((x.2.1.1.1, (), (), (), x.2.1.1.2.2.2.2.1, x.2.1.1.2.2.2.2.2.1, x.2.1.1.2.2.2.2.2.2.1, x.2.1.1.2.2.2.2.2.2.2.1, (), (), ()), (x.2.1.2.1.1, (), (), (), x.2.1.2.1.2.2.2.2.1, x.2.1.2.1.2.2.2.2.2.1, x.2.1.2.1.2.2.2.2.2.2.1, x.2.1.2.1.2.2.2.2.2.2.2.1, (), (), ()), ()), (x.2.2.1, x.2.2.2.1, r8.2.2.1, x.2.2.2.2.2.1, x9, ()))))))))
 (some (.inr (((), (), x.1.2.2.2.1, ()), ((x.2.1.1.1, (), (), (), x.2.1.1.2.2.2.2.1, x.2.1.1.2.2.2.2.2.1, x.2.1.1.2.2.2.2.2.2.1, x.2.1.1.2.2.2.2.2.2.2.1, (), (), ()), (x.2.1.2.1.1, (), (), (), x.2.1.2.1.2.2.2.2.1, x.2.1.2.1.2.2.2.2.2.1, x.2.1.2.1.2.2.2.2.2.2.1, x.2.1.2.1.2.2.2.2.2.2.2.1, (), (), ()), ()), (x.2.2.1, x.2.2.2.1, x.2.2.2.2.1, x.2.2.2.2.2.1, x.2.2.2.2.2.2.1, ())))))
 (some (.inr (((), (), x.1.2.2.2.1, ()), ((x.2.1.1.1, (), (), (), x.2.1.1.2.2.2.2.1, x.2.1.1.2.2.2.2.2.1, x.2.1.1.2.2.2.2.2.2.1, x.2.1.1.2.2.2.2.2.2.2.1, (), (), ()), (x.2.1.2.1.1, (), (), (), x.2.1.2.1.2.2.2.2.1, x.2.1.2.1.2.2.2.2.2.1, x.2.1.2.1.2.2.2.2.2.2.1, x.2.1.2.1.2.2.2.2.2.2.2.1, (), (), ()), ()), (x.2.2.1, x.2.2.2.1, x.2.2.2.2.1, x.2.2.2.2.2.1, x.2.2.2.2.2.2.1, ()))))
def impl_DropWaiting_h0 : Sh := ⟨[(1, .c (.int .i64)), (2, .c (.box 0 0)), (4, .c (.box 1 0)), (6, .c (.int .i64))], [(0, .cells [.str, .own 0, .own 1, .own 2, .int .i64, .int .i64, .int .i64, .int .i64, .own 3, .own 4]), (1, .cells [.str, .nil, .nil, .nil, .int .i64, .int .i64, .int .i64, .int .i64, .nil, .nil])], [(0, .i64), (1, .i64), (2, .mats), (3, .mat), (4, .mat)]⟩
def impl_DropWaiting_r0 : List Sh := [⟨[(2, .c (.box 0 0)), (4, .c (.box 1 0)), (6, .c (.int .i64))], [(0, .cells [.str, .own 0, .own 1, .own 2, .int .i64, .int .i64, .int .i64, .int .i64, .own 3, .own 4]), (1, .cells [.str, .nil, .nil, .nil, .int .i64, .int .i64, .int .i64, .int .i64, .nil, .nil])], [(0, .i64), (1, .i64), (2, .mats), (3, .mat), (4, .mat)]⟩]
noncomputable def impl_DropWaiting_L0 : Lp := ⟨0, [], impl_DropWaiting_h0, [], [(.exit 0, [])], impl_DropWaiting_r0, loopC impl_DropWaiting_s0⟩
noncomputable def impl_DropWaiting (a0_0 : ByteArray) (a0_1 : List Int) (a0_2 : List Int) (a0_3 : List (List (Int × Int))) (a0_4 : Int) (a0_5 : Int) (a0_6 : Int) (a0_7 : Int) (a0_8 : List (Int × Int)) (a0_9 : List (Int × Int)) (a1 : Int) : Option (((ByteArray × Unit × Unit × Unit × Int × Int × Int × Int × Unit × Unit × Unit) × Int × Unit) × Unit × (List Int × List Int × List (List (Int × Int)) × List (Int × Int) × List (Int × Int) × Unit)) :=
 (impl_MachineOk a0_0 a0_1 a0_2 a0_3 a0_4 a0_5 a0_6 a0_7 a0_8 a0_9).bind fun r1 =>
 br (!r1.1.1)
 (some (((ByteArray.empty, (), (), (), (0 : Int), (0 : Int), (0 : Int), (0 : Int), (), (), ()), (-1 : Int), ()), (), ([], [], [], [], [], ())))
 (let x2 : Bool := decide (a1 < (0 : Int));
 br x2
 (some (((ByteArray.empty, (), (), (), (0 : Int), (0 : Int), (0 : Int), (0 : Int), (), (), ()), (-1 : Int), ()), (), ([], [], [], [], [], ())))
 ((impl_copyMachine a0_0 a0_1 a0_2 a0_3 a0_4 a0_5 a0_6 a0_7 a0_8 a0_9).bind fun r3 =>
 (loopC impl_DropWaiting_s0 ((a1, (), (), (0 : Int), ()), ((r3.1.1.1, (), (), (), r3.1.1.2.2.2.2.1, r3.1.1.2.2.2.2.2.1, r3.1.1.2.2.2.2.2.2.1, r3.1.1.2.2.2.2.2.2.2.1, (), (), ()), (ByteArray.empty, (), (), (), (0 : Int), (0 : Int), (0 : Int), (0 : Int), (), (), ()), ()), (r3.2.2.1, r3.2.2.2.1, r3.2.2.2.2.1, r3.2.2.2.2.2.1, r3.2.2.2.2.2.2.1, ()))).bind fun r11 =>
 some (((r11.2.1.1.1, (), (), (), r11.2.1.1.2.2.2.2.1, r11.2.1.1.2.2.2.2.2.1, r11.2.1.1.2.2.2.2.2.2.1, r11.2.1.1.2.2.2.2.2.2.2.1, (), (), ()), r11.1.2.2.1, ()), (), (r11.2.2.1, r11.2.2.2.1, r11.2.2.2.2.1, r11.2.2.2.2.2.1, r11.2.2.2.2.2.2.1, ()))))
noncomputable def impl_DropWaiting_C : Ctr := ⟨15, impl_DropWaiting_arg, impl_DropWaiting_res, fun x => impl_DropWaiting x.1.1.1 x.1.1.2.1 x.1.1.2.2.1 x.1.1.2.2.2.1 x.1.1.2.2.2.2.1 x.1.1.2.2.2.2.2.1 x.1.1.2.2.2.2.2.2.1 x.1.1.2.2.2.2.2.2.2.1 x.1.1.2.2.2.2.2.2.2.2.1 x.1.1.2.2.2.2.2.2.2.2.2.1 x.1.2.1, none⟩
def impl_DropWaiting_H : Hint := ⟨[47], [], [], fun _ => []⟩
noncomputable def impl_DropWaiting_T : List Ctr := [impl_MachineOk_C, impl_copyMachine_C, impl_DropMatrix_C]
noncomputable def impl_DropWaiting_Ls : List Lp := [impl_DropWaiting_L0]
theorem impl_DropWaiting_l0 : ∀ x, impl_DropWaiting_s0 x = stepW E0 impl_DropWaiting_T impl_DropWaiting_Ls impl_DropWaiting_H (loopAt (bodyOf Try.f15) 0) 0 impl_DropWaiting_h0 [] [(.exit 0, [])] impl_DropWaiting_r0 x := fun x => by kernel_rfl
theorem impl_DropWaiting_e : ∀ x, impl_DropWaiting_C.F x = runBodyW E0 impl_DropWaiting_T impl_DropWaiting_Ls impl_DropWaiting_H 15 Try.f15.results.toList (bodyOf Try.f15) [(.bx 4 1, 6000000, .i64), (.bx 4 2, 6000001, .i64), (.bx 4 3, 6000002, .mats), (.bx 4 8, 6000003, .mat), (.bx 4 9, 6000004, .mat)] (impl_DropWaiting_arg.mk' x) impl_DropWaiting_res := fun x => by kernel_rfl
theorem impl_DropWaiting_ok : impl_DropWaiting_C.Ok E0 := fn_ok (T := impl_DropWaiting_T) (h := impl_DropWaiting_H) (Ls := impl_DropWaiting_Ls) E0_mixed (T_cons impl_MachineOk_ok (T_cons impl_copyMachine_ok (T_cons impl_DropMatrix_ok T_nil))) Try.func15 (bodyOf_some (by kernel_rfl)) (by kernel_rfl) (loops_of (ks := [0]) (by kernel_rfl) ⟨(loop_one (h := impl_DropWaiting_H) (own := []) (head := impl_DropWaiting_h0) (back := []) (exs := [(.exit 0, [])]) (res := impl_DropWaiting_r0) (step := impl_DropWaiting_s0) (by kernel_rfl) impl_DropWaiting_l0), trivial⟩) impl_DropWaiting_e
def laws_ints_arg : Sh := ⟨[(0, .c (.rd [] .i64)), (1, .c (.rd [] .i64))], [], []⟩
def laws_ints_res : List Sh := [⟨[(0, .c (.bool))], [], []⟩]
noncomputable def laws_ints_s0 (x : (List Int × List Int × Int × Int × Unit) × Unit × Unit) : Option (((List Int × List Int × Int × Int × Unit) × Unit × Unit) ⊕ (((Bool × Unit) × Unit × Unit) ⊕ (Unit × Unit × Unit))) :=
 let x2 : Bool := decide (x.1.2.2.2.1 < x.1.2.2.1);
 br x2
 (ck (0 ≤ x.1.2.2.2.1)
 (ck (x.1.2.2.2.1.toNat < x.1.1.length)
 (let x3 : Int := x.1.1.getD x.1.2.2.2.1.toNat 0;
 ck (0 ≤ x.1.2.2.2.1)
 (ck (x.1.2.2.2.1.toNat < x.1.2.1.length)
 (let x4 : Int := x.1.2.1.getD x.1.2.2.2.1.toNat 0;
 let x5 : Bool := x3 != x4;
 br x5
 (some (.inr (.inl ((false, ()), (), ()))))
 (let x6 : Int := w64 (x.1.2.2.2.1 + (1 : Int));
 some (.inl ((x.1.1, x.1.2.1, x.1.2.2.1, x6, ()), (), ()))))))))
 (some (.inr (.inr ((), (), ()))))
def laws_ints_h0 : Sh := ⟨[(0, .c (.rd [] .i64)), (1, .c (.rd [] .i64)), (12, .c (.int .i64)), (13, .c (.int .i64))], [], []⟩
def laws_ints_r0 : List Sh := [⟨[(4, .c (.bool))], [], []⟩, ⟨[], [], []⟩]
noncomputable def laws_ints_L0 : Lp := ⟨0, [], laws_ints_h0, [], [(.ret, []), (.exit 0, [])], laws_ints_r0, loopC laws_ints_s0⟩
noncomputable def laws_ints (a0 : List Int) (a1 : List Int) : Option ((Bool × Unit) × Unit × Unit) :=
 let x1 : Bool := (a0.length : Int) != (a1.length : Int);
 br x1
 (some ((false, ()), (), ()))
 ((loopC laws_ints_s0 ((a0, a1, (a0.length : Int), (0 : Int), ()), (), ())).bind fun r7 =>
 sumK r7 (fun y10 =>
 some ((y10.1.1, ()), (), ())) (fun y11 =>
 some ((true, ()), (), ())))
noncomputable def laws_ints_C : Ctr := ⟨65, laws_ints_arg, laws_ints_res, fun x => laws_ints x.1.1 x.1.2.1, none⟩
def laws_ints_H : Hint := ⟨[], [], [], fun _ => []⟩
noncomputable def laws_ints_T : List Ctr := []
noncomputable def laws_ints_Ls : List Lp := [laws_ints_L0]
theorem laws_ints_l0 : ∀ x, laws_ints_s0 x = stepW E0 laws_ints_T laws_ints_Ls laws_ints_H (loopAt (bodyOf Try.f65) 0) 0 laws_ints_h0 [] [(.ret, []), (.exit 0, [])] laws_ints_r0 x := fun x => by kernel_rfl
theorem laws_ints_e : ∀ x, laws_ints_C.F x = runBodyW E0 laws_ints_T laws_ints_Ls laws_ints_H 65 Try.f65.results.toList (bodyOf Try.f65) [] (laws_ints_arg.mk' x) laws_ints_res := fun x => by kernel_rfl
theorem laws_ints_ok : laws_ints_C.Ok E0 := fn_ok (T := laws_ints_T) (h := laws_ints_H) (Ls := laws_ints_Ls) E0_mixed T_nil Try.func65 (bodyOf_some (by kernel_rfl)) (by kernel_rfl) (loops_of (ks := [0]) (by kernel_rfl) ⟨(loop_one (h := laws_ints_H) (own := []) (head := laws_ints_h0) (back := []) (exs := [(.ret, []), (.exit 0, [])]) (res := laws_ints_r0) (step := laws_ints_s0) (by kernel_rfl) laws_ints_l0), trivial⟩) laws_ints_e
def laws_pieces_arg : Sh := ⟨[(0, .c (.rd [] .mat)), (1, .c (.rd [] .mat))], [], []⟩
def laws_pieces_res : List Sh := [⟨[(0, .c (.bool))], [], []⟩]
noncomputable def laws_pieces_s0 (x : (List (Int × Int) × List (Int × Int) × Int × Int × Unit) × Unit × Unit) : Option (((List (Int × Int) × List (Int × Int) × Int × Int × Unit) × Unit × Unit) ⊕ (((Bool × Unit) × Unit × Unit) ⊕ (Unit × Unit × Unit))) :=
 let x2 : Bool := decide (x.1.2.2.2.1 < x.1.2.2.1);
 br x2
 (ck (0 ≤ x.1.2.2.2.1)
 (ck (x.1.2.2.2.1.toNat < x.1.1.length)
 (let x3 : Int × Int := x.1.1.getD x.1.2.2.2.1.toNat (0, 0);
 ck (0 ≤ x.1.2.2.2.1)
 (ck (x.1.2.2.2.1.toNat < x.1.2.1.length)
 (let x4 : Int × Int := x.1.2.1.getD x.1.2.2.2.1.toNat (0, 0);
 let x5 : Bool := !eqInts [x3.1, x3.2] [x4.1, x4.2];
 br x5
 (some (.inr (.inl ((false, ()), (), ()))))
 (let x6 : Int := w64 (x.1.2.2.2.1 + (1 : Int));
 some (.inl ((x.1.1, x.1.2.1, x.1.2.2.1, x6, ()), (), ()))))))))
 (some (.inr (.inr ((), (), ()))))
def laws_pieces_h0 : Sh := ⟨[(0, .c (.rd [] .mat)), (1, .c (.rd [] .mat)), (12, .c (.int .i64)), (13, .c (.int .i64))], [], []⟩
def laws_pieces_r0 : List Sh := [⟨[(4, .c (.bool))], [], []⟩, ⟨[], [], []⟩]
noncomputable def laws_pieces_L0 : Lp := ⟨0, [], laws_pieces_h0, [], [(.ret, []), (.exit 0, [])], laws_pieces_r0, loopC laws_pieces_s0⟩
noncomputable def laws_pieces (a0 : List (Int × Int)) (a1 : List (Int × Int)) : Option ((Bool × Unit) × Unit × Unit) :=
 let x1 : Bool := (a0.length : Int) != (a1.length : Int);
 br x1
 (some ((false, ()), (), ()))
 ((loopC laws_pieces_s0 ((a0, a1, (a0.length : Int), (0 : Int), ()), (), ())).bind fun r7 =>
 sumK r7 (fun y10 =>
 some ((y10.1.1, ()), (), ())) (fun y11 =>
 some ((true, ()), (), ())))
noncomputable def laws_pieces_C : Ctr := ⟨22, laws_pieces_arg, laws_pieces_res, fun x => laws_pieces x.1.1 x.1.2.1, none⟩
def laws_pieces_H : Hint := ⟨[], [], [], fun _ => []⟩
noncomputable def laws_pieces_T : List Ctr := []
noncomputable def laws_pieces_Ls : List Lp := [laws_pieces_L0]
theorem laws_pieces_l0 : ∀ x, laws_pieces_s0 x = stepW E0 laws_pieces_T laws_pieces_Ls laws_pieces_H (loopAt (bodyOf Try.f22) 0) 0 laws_pieces_h0 [] [(.ret, []), (.exit 0, [])] laws_pieces_r0 x := fun x => by kernel_rfl
theorem laws_pieces_e : ∀ x, laws_pieces_C.F x = runBodyW E0 laws_pieces_T laws_pieces_Ls laws_pieces_H 22 Try.f22.results.toList (bodyOf Try.f22) [] (laws_pieces_arg.mk' x) laws_pieces_res := fun x => by kernel_rfl
theorem laws_pieces_ok : laws_pieces_C.Ok E0 := fn_ok (T := laws_pieces_T) (h := laws_pieces_H) (Ls := laws_pieces_Ls) E0_mixed T_nil Try.func22 (bodyOf_some (by kernel_rfl)) (by kernel_rfl) (loops_of (ks := [0]) (by kernel_rfl) ⟨(loop_one (h := laws_pieces_H) (own := []) (head := laws_pieces_h0) (back := []) (exs := [(.ret, []), (.exit 0, [])]) (res := laws_pieces_r0) (step := laws_pieces_s0) (by kernel_rfl) laws_pieces_l0), trivial⟩) laws_pieces_e
def laws_stocks_arg : Sh := ⟨[(0, .c (.rd [] .mats)), (1, .c (.rd [] .mats))], [], []⟩
def laws_stocks_res : List Sh := [⟨[(0, .c (.bool))], [], []⟩]
noncomputable def laws_stocks_s0 (x : (List (List (Int × Int)) × List (List (Int × Int)) × Int × Int × Unit) × Unit × Unit) : Option (((List (List (Int × Int)) × List (List (Int × Int)) × Int × Int × Unit) × Unit × Unit) ⊕ (((Bool × Unit) × Unit × Unit) ⊕ (Unit × Unit × Unit))) :=
 let x2 : Bool := decide (x.1.2.2.2.1 < x.1.2.2.1);
 br x2
 (ck (0 ≤ x.1.2.2.2.1)
 (ck (x.1.2.2.2.1.toNat < x.1.1.length)
 (let x3 : List (Int × Int) := x.1.1.getD x.1.2.2.2.1.toNat [];
 ck (0 ≤ x.1.2.2.2.1)
 (ck (x.1.2.2.2.1.toNat < x.1.2.1.length)
 (let x4 : List (Int × Int) := x.1.2.1.getD x.1.2.2.2.1.toNat [];
 (laws_pieces x3 x4).bind fun r5 =>
 br (!r5.1.1)
 (some (.inr (.inl ((false, ()), (), ()))))
 (let x6 : Int := w64 (x.1.2.2.2.1 + (1 : Int));
 some (.inl ((x.1.1, x.1.2.1, x.1.2.2.1, x6, ()), (), ()))))))))
 (some (.inr (.inr ((), (), ()))))
def laws_stocks_h0 : Sh := ⟨[(0, .c (.rd [] .mats)), (1, .c (.rd [] .mats)), (12, .c (.int .i64)), (13, .c (.int .i64))], [], []⟩
def laws_stocks_r0 : List Sh := [⟨[(4, .c (.bool))], [], []⟩, ⟨[], [], []⟩]
noncomputable def laws_stocks_L0 : Lp := ⟨0, [], laws_stocks_h0, [], [(.ret, []), (.exit 0, [])], laws_stocks_r0, loopC laws_stocks_s0⟩
noncomputable def laws_stocks (a0 : List (List (Int × Int))) (a1 : List (List (Int × Int))) : Option ((Bool × Unit) × Unit × Unit) :=
 let x1 : Bool := (a0.length : Int) != (a1.length : Int);
 br x1
 (some ((false, ()), (), ()))
 ((loopC laws_stocks_s0 ((a0, a1, (a0.length : Int), (0 : Int), ()), (), ())).bind fun r7 =>
 sumK r7 (fun y10 =>
 some ((y10.1.1, ()), (), ())) (fun y11 =>
 some ((true, ()), (), ())))
noncomputable def laws_stocks_C : Ctr := ⟨18, laws_stocks_arg, laws_stocks_res, fun x => laws_stocks x.1.1 x.1.2.1, none⟩
def laws_stocks_H : Hint := ⟨[], [], [], fun _ => []⟩
noncomputable def laws_stocks_T : List Ctr := [laws_pieces_C]
noncomputable def laws_stocks_Ls : List Lp := [laws_stocks_L0]
theorem laws_stocks_l0 : ∀ x, laws_stocks_s0 x = stepW E0 laws_stocks_T laws_stocks_Ls laws_stocks_H (loopAt (bodyOf Try.f18) 0) 0 laws_stocks_h0 [] [(.ret, []), (.exit 0, [])] laws_stocks_r0 x := fun x => by kernel_rfl
theorem laws_stocks_e : ∀ x, laws_stocks_C.F x = runBodyW E0 laws_stocks_T laws_stocks_Ls laws_stocks_H 18 Try.f18.results.toList (bodyOf Try.f18) [] (laws_stocks_arg.mk' x) laws_stocks_res := fun x => by kernel_rfl
theorem laws_stocks_ok : laws_stocks_C.Ok E0 := fn_ok (T := laws_stocks_T) (h := laws_stocks_H) (Ls := laws_stocks_Ls) E0_mixed (T_cons laws_pieces_ok T_nil) Try.func18 (bodyOf_some (by kernel_rfl)) (by kernel_rfl) (loops_of (ks := [0]) (by kernel_rfl) ⟨(loop_one (h := laws_stocks_H) (own := []) (head := laws_stocks_h0) (back := []) (exs := [(.ret, []), (.exit 0, [])]) (res := laws_stocks_r0) (step := laws_stocks_s0) (by kernel_rfl) laws_stocks_l0), trivial⟩) laws_stocks_e
def laws_same_arg : Sh := ⟨[(0, .agg [.str, .rd [] .i64, .rd [] .i64, .rd [] .mats, .int .i64, .int .i64, .int .i64, .int .i64, .rd [] .mat, .rd [] .mat]), (1, .agg [.str, .rd [] .i64, .rd [] .i64, .rd [] .mats, .int .i64, .int .i64, .int .i64, .int .i64, .rd [] .mat, .rd [] .mat])], [], []⟩
def laws_same_res : List Sh := [⟨[(0, .c (.bool))], [], []⟩]
noncomputable def laws_same (a0_0 : ByteArray) (a0_1 : List Int) (a0_2 : List Int) (a0_3 : List (List (Int × Int))) (a0_4 : Int) (a0_5 : Int) (a0_6 : Int) (a0_7 : Int) (a0_8 : List (Int × Int)) (a0_9 : List (Int × Int)) (a1_0 : ByteArray) (a1_1 : List Int) (a1_2 : List Int) (a1_3 : List (List (Int × Int))) (a1_4 : Int) (a1_5 : Int) (a1_6 : Int) (a1_7 : Int) (a1_8 : List (Int × Int)) (a1_9 : List (Int × Int)) : Option ((Bool × Unit) × Unit × Unit) :=
 let x1 : Bool := strEq a0_0 a1_0;
 br x1
 ((laws_ints a0_1 a1_1).bind fun r2 =>
 br r2.1.1
 ((laws_ints a0_2 a1_2).bind fun r3 =>
 br r3.1.1
 ((laws_stocks a0_3 a1_3).bind fun r4 =>
 br r4.1.1
 (let x5 : Bool := a0_4 == a1_4;
 br x5
 (let x6 : Bool := eqInts [a0_5, a0_6, a0_7] [a1_5, a1_6, a1_7];
 br x6
 ((laws_pieces a0_8 a1_8).bind fun r7 =>
 br r7.1.1
 ((laws_pieces a0_9 a1_9).bind fun r8 =>
 some ((r8.1.1, ()), (), ()))
 (some ((false, ()), (), ())))
 (some ((false, ()), (), ())))
 (some ((false, ()), (), ())))
 (some ((false, ()), (), ())))
 (some ((false, ()), (), ())))
 (some ((false, ()), (), ())))
 (some ((false, ()), (), ()))
noncomputable def laws_same_C : Ctr := ⟨21, laws_same_arg, laws_same_res, fun x => laws_same x.1.1.1 x.1.1.2.1 x.1.1.2.2.1 x.1.1.2.2.2.1 x.1.1.2.2.2.2.1 x.1.1.2.2.2.2.2.1 x.1.1.2.2.2.2.2.2.1 x.1.1.2.2.2.2.2.2.2.1 x.1.1.2.2.2.2.2.2.2.2.1 x.1.1.2.2.2.2.2.2.2.2.2.1 x.1.2.1.1 x.1.2.1.2.1 x.1.2.1.2.2.1 x.1.2.1.2.2.2.1 x.1.2.1.2.2.2.2.1 x.1.2.1.2.2.2.2.2.1 x.1.2.1.2.2.2.2.2.2.1 x.1.2.1.2.2.2.2.2.2.2.1 x.1.2.1.2.2.2.2.2.2.2.2.1 x.1.2.1.2.2.2.2.2.2.2.2.2.1, none⟩
def laws_same_H : Hint := ⟨[], [], [], fun _ => []⟩
noncomputable def laws_same_T : List Ctr := [laws_ints_C, laws_stocks_C, laws_pieces_C]
noncomputable def laws_same_Ls : List Lp := []
theorem laws_same_e : ∀ x, laws_same_C.F x = runBodyW E0 laws_same_T laws_same_Ls laws_same_H 21 Try.f21.results.toList (bodyOf Try.f21) [] (laws_same_arg.mk' x) laws_same_res := fun x => by kernel_rfl
theorem laws_same_ok : laws_same_C.Ok E0 := fn_ok (T := laws_same_T) (h := laws_same_H) (Ls := laws_same_Ls) E0_mixed (T_cons laws_ints_ok (T_cons laws_stocks_ok (T_cons laws_pieces_ok T_nil))) Try.func21 (bodyOf_some (by kernel_rfl)) (by kernel_rfl) (loops_of (ks := []) (by kernel_rfl) trivial) laws_same_e
def laws_FnSteps_arg : Sh := ⟨[(0, .c (.rd [] .u8))], [], []⟩
def laws_FnSteps_res : List Sh := [⟨[(0, .c (.bool))], [], []⟩]
noncomputable def laws_FnSteps (a0 : List Int) : Option ((Bool × Unit) × Unit × Unit) :=
 let x1 : Bool := decide ((a0.length : Int) > (1048576 : Int));
 br x1
 (some ((true, ()), (), ()))
 ((spec_DrawDropWaiting a0).bind fun r2 =>
 (laws_at a0 (0 : Int)).bind fun r3 =>
 let x4 : Int := r3.1.1.tmod (6 : Int);
 (laws_at a0 (1 : Int)).bind fun r5 =>
 let x6 : Int := r5.1.1.tmod (6 : Int);
 let x7 : Int := w64 (x4 + x6);
 (impl_DropWaiting r2.1.1.1 r2.1.1.2.1 r2.1.1.2.2.1 r2.2.2.1 r2.1.1.2.2.2.2.1 r2.1.1.2.2.2.2.2.1 r2.1.1.2.2.2.2.2.2.1 r2.1.1.2.2.2.2.2.2.2.1 r2.2.2.2.1 r2.2.2.2.2.1 x7).bind fun r8 =>
 (impl_DropWaiting r2.1.1.1 r2.1.1.2.1 r2.1.1.2.2.1 r2.2.2.1 r2.1.1.2.2.2.2.1 r2.1.1.2.2.2.2.2.1 r2.1.1.2.2.2.2.2.2.1 r2.1.1.2.2.2.2.2.2.2.1 r2.2.2.2.1 r2.2.2.2.2.1 x4).bind fun r9 =>
 (spec_MachineOk r2.1.1.1 r2.1.1.2.1 r2.1.1.2.2.1 r2.2.2.1 r2.1.1.2.2.2.2.1 r2.1.1.2.2.2.2.2.1 r2.1.1.2.2.2.2.2.2.1 r2.1.1.2.2.2.2.2.2.2.1 r2.2.2.2.1 r2.2.2.2.2.1).bind fun r10 =>
 br (!r10.1.1)
 (let x11 : Bool := r8.1.2.1 == (-1 : Int);
 br x11
 (let x12 : Bool := r9.1.2.1 == (-1 : Int);
 some ((x12, ()), (), ()))
 (some ((false, ()), (), ())))
 ((impl_DropWaiting r9.1.1.1 r9.2.2.1 r9.2.2.2.1 r9.2.2.2.2.1 r9.1.1.2.2.2.2.1 r9.1.1.2.2.2.2.2.1 r9.1.1.2.2.2.2.2.2.1 r9.1.1.2.2.2.2.2.2.2.1 r9.2.2.2.2.2.1 r9.2.2.2.2.2.2.1 x6).bind fun r13 =>
 let x14 : Bool := decide (r9.1.2.1 < (0 : Int));
 br x14
 (some ((false, ()), (), ()))
 (let x15 : Bool := decide (r13.1.2.1 < (0 : Int));
 br x15
 (some ((false, ()), (), ()))
 (let x16 : Int := w64 (r9.1.2.1 + r13.1.2.1);
 let x17 : Bool := r8.1.2.1 != x16;
 br x17
 (some ((false, ()), (), ()))
 ((laws_same r13.1.1.1 r13.2.2.1 r13.2.2.2.1 r13.2.2.2.2.1 r13.1.1.2.2.2.2.1 r13.1.1.2.2.2.2.2.1 r13.1.1.2.2.2.2.2.2.1 r13.1.1.2.2.2.2.2.2.2.1 r13.2.2.2.2.2.1 r13.2.2.2.2.2.2.1 r8.1.1.1 r8.2.2.1 r8.2.2.2.1 r8.2.2.2.2.1 r8.1.1.2.2.2.2.1 r8.1.1.2.2.2.2.2.1 r8.1.1.2.2.2.2.2.2.1 r8.1.1.2.2.2.2.2.2.2.1 r8.2.2.2.2.2.1 r8.2.2.2.2.2.2.1).bind fun r18 =>
 br (!r18.1.1)
 (some ((false, ()), (), ()))
 (let x19 : Int := w64 ((r2.2.2.2.2.1.length : Int) - r8.1.2.1);
 let x20 : Bool := (r8.2.2.2.2.2.2.1.length : Int) != x19;
 br x20
 (some ((false, ()), (), ()))
 (ck (0 ≤ r8.1.2.1)
 (ck (r8.1.2.1.toNat ≤ r2.2.2.2.2.1.length ∧ r2.2.2.2.2.1.length ≤ r2.2.2.2.2.1.length)
 (let x21 : List (Int × Int) := cut r2.2.2.2.2.1 r8.1.2.1.toNat r2.2.2.2.2.1.length;
 (laws_pieces r8.2.2.2.2.2.2.1 x21).bind fun r22 =>
 br (!r22.1.1)
 (some ((false, ()), (), ()))
 (let x23 : Bool := decide (r8.1.2.1 < x7);
 br x23
 (let x24 : Bool := decide (r8.1.2.1 < (r2.2.2.2.2.1.length : Int));
 br x24
 (ck (0 ≤ r8.1.2.1)
 (ck (r8.1.2.1.toNat < r2.2.2.2.2.1.length)
 (ck (r8.1.2.1.toNat < r2.2.2.2.2.1.length)
 (let x25 : Int := (r2.2.2.2.2.1.getD r8.1.2.1.toNat (0, 0)).1;
 let x26 : Int := (r2.2.2.2.2.1.getD r8.1.2.1.toNat (0, 0)).2;
 (impl_DropMatrix r8.1.1.1 r8.2.2.1 r8.2.2.2.1 r8.2.2.2.2.1 x25 x26).bind fun r27 =>
 some ((!r27.1.2.2.1, ()), (), ())))))
 (some ((true, ()), (), ())))
 (some ((true, ()), (), ()))))))))))))
noncomputable def laws_FnSteps_C : Ctr := ⟨4, laws_FnSteps_arg, laws_FnSteps_res, fun x => laws_FnSteps x.1.1, none⟩
def laws_FnSteps_H : Hint := ⟨[], [], [], fun _ => []⟩
noncomputable def laws_FnSteps_T : List Ctr := [spec_DrawDropWaiting_C, laws_at_C, impl_DropWaiting_C, spec_MachineOk_C, laws_same_C, laws_pieces_C, impl_DropMatrix_C]
noncomputable def laws_FnSteps_Ls : List Lp := []
theorem laws_FnSteps_e : ∀ x, laws_FnSteps_C.F x = runBodyW E0 laws_FnSteps_T laws_FnSteps_Ls laws_FnSteps_H 4 Try.f4.results.toList (bodyOf Try.f4) [] (laws_FnSteps_arg.mk' x) laws_FnSteps_res := fun x => by kernel_rfl
theorem laws_FnSteps_ok : laws_FnSteps_C.Ok E0 := fn_ok (T := laws_FnSteps_T) (h := laws_FnSteps_H) (Ls := laws_FnSteps_Ls) E0_mixed (T_cons spec_DrawDropWaiting_ok (T_cons laws_at_ok (T_cons impl_DropWaiting_ok (T_cons spec_MachineOk_ok (T_cons laws_same_ok (T_cons laws_pieces_ok (T_cons impl_DropMatrix_ok T_nil))))))) Try.func4 (bodyOf_some (by kernel_rfl)) (by kernel_rfl) (loops_of (ks := []) (by kernel_rfl) trivial) laws_FnSteps_e
end Go.Tree
