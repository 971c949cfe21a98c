/- What each function that the law FnExactDeskOk reaches computes, as a plain function, and the proof that the program's code computes it. No condition but the function's own answer. -/
import Derived.Test.YtniopnhpdfpkkaaGreatDoorK8
import Derived.Shelf.Strings.Split
import Derived.Shelf.SlicesE.DeleteFunc
import Derived.Lib.Hide
import Derived.WalkKit
import Derived.Shelf.Strings.OnBuilder
import Derived.Lib.Join
import Derived.Test.YtniopnhpdfpkkaaGreatDoorProg
import Derived.KernelRfl
namespace Go.Tree
open Go Go.Proofs
set_option linter.unusedVariables false
set_option maxRecDepth 100000
noncomputable def E0 : Env := { P := Tryz.prog, hint := fun _ => ⟨[], [], [], fun _ => []⟩, mode := fun f => ([0, 0, 0, 0, 0, 0, 0, 0, 0, 0, 0, 0, 0, 0, 0, 0, 0, 0, 0, 2, 2, 2, 0, 0, 0, 0, 0, 0, 0, 0, 0, 0, 0, 0, 0, 0, 0, 0, 0, 0, 0, 2, 2, 2, 0, 0, 0, 0, 0, 0, 0, 0, 0, 0, 0, 0, 0, 0, 0, 0, 0, 0, 0, 0, 0, 0, 0, 0, 0, 0, 0, 0, 0, 0, 0, 0, 0, 0, 0, 0, 0, 0, 0, 0, 0, 0, 0, 0, 0, 0, 0, 0, 0, 0, 0, 0, 0, 0, 0, 0, 0, 0, 0, 0, 0, 0, 0, 0, 0, 0, 0, 0, 0, 0, 0, 0, 0, 0, 0, 0, 0, 0, 0, 0, 0, 0, 0, 0, 0, 0, 0, 0, 0, 0, 0, 0, 0, 0, 0, 0, 0, 0, 0, 0, 0, 0, 0, 0, 0, 0, 0, 0, 0, 0, 0, 0, 0, 0, 0, 0, 0, 0, 0, 0, 0, 0, 0, 0, 0, 0, 0, 0, 0, 0, 0, 0, 0, 0, 0, 0, 0, 0, 0, 0, 0, 0, 0, 0, 0] : List Nat).getD f 0, nres := fun f => ([0, 0, 0, 1, 1, 1, 1, 1, 1, 1, 1, 1, 3, 1, 1, 3, 1, 1, 1, 1, 1, 1, 1, 1, 1, 1, 1, 1, 1, 1, 1, 3, 1, 1, 1, 1, 3, 1, 1, 1, 1, 1, 1, 1, 1, 1, 1, 1, 1, 1, 1, 1, 1, 1, 1, 1, 2, 1, 1, 1, 1, 1, 1, 1, 1, 1, 1, 1, 2, 1, 1, 1, 1, 2, 4, 2, 1, 1, 1, 2, 4, 2, 1, 1, 1, 1, 2, 1, 1, 1, 1, 1, 1, 1, 1, 1, 3, 1, 1, 1, 0, 2, 1, 2, 1, 1, 1, 2, 1, 1, 1, 3, 1, 1, 1, 1, 1, 1, 1, 1, 3, 1, 1, 2, 1, 1, 1, 1, 1, 2, 3, 1, 1, 0, 0, 1, 1, 1, 3, 3, 1, 1, 1, 1, 1, 1, 1, 1, 1, 1, 1, 1, 1, 2, 1, 1, 1, 2, 1, 1, 2, 1, 1, 1, 1, 1, 2, 1, 0, 1, 0, 1, 0, 1, 0, 1, 0, 1, 0, 1, 1, 0, 0, 1, 0, 0, 0, 0, 0] : List Nat).getD f 0, pk := fun w => (∃ m, w.cell? ⟨0, 0, none⟩ = some (.int .i64 m)) ∧ True }
theorem E0_mixed : E0.P.follows .mixedOrders = true := by kernel_rfl
def laws_szIntS_arg : Sh := ⟨[(0, .c (.rd [] .i64)), (1, .c (.int .i64))], [], []⟩
def laws_szIntS_res : List Sh := [⟨[(0, .c (.int .i64))], [], []⟩]
noncomputable def laws_szIntS (a0 : List Int) (a1 : Int) : Option ((Int × Unit) × Unit × Unit) :=
 let x1 : Int := w64 (a1 - (a0.length : Int));
 let x2 : Bool := decide (x1 < (0 : Int));
 br x2
 (some (((-1 : Int), ()), (), ()))
 (some ((x1, ()), (), ()))
noncomputable def laws_szIntS_C : Ctr := ⟨71, laws_szIntS_arg, laws_szIntS_res, fun x => laws_szIntS x.1.1 x.1.2.1, none⟩
def laws_szIntS_H : Hint := ⟨[], [], [], fun _ => []⟩
noncomputable def laws_szIntS_T : List Ctr := []
noncomputable def laws_szIntS_Ls : List Lp := []
theorem laws_szIntS_e : ∀ x, laws_szIntS_C.F x = runBodyW E0 laws_szIntS_T laws_szIntS_Ls laws_szIntS_H 71 Tryz.f71.results.toList (bodyOf Tryz.f71) [] (laws_szIntS_arg.mk' x) laws_szIntS_res := fun x => by kernel_rfl
theorem laws_szIntS_ok : laws_szIntS_C.Ok E0 := fn_ok (T := laws_szIntS_T) (h := laws_szIntS_H) (Ls := laws_szIntS_Ls) E0_mixed T_nil Tryz.func71 (bodyOf_some (by kernel_rfl)) (by kernel_rfl) (loops_of (ks := []) (by kernel_rfl) trivial) laws_szIntS_e
def laws_szFont_arg : Sh := ⟨[(0, .agg [.str, .rd [] .i64, .rd [] .i64]), (1, .c (.int .i64))], [], []⟩
def laws_szFont_res : List Sh := [⟨[(0, .c (.int .i64))], [], []⟩]
noncomputable def laws_szFont (a0_0 : ByteArray) (a0_1 : List Int) (a0_2 : List Int) (a1 : Int) : Option ((Int × Unit) × Unit × Unit) :=
 let x1 : Int := w64 (a1 - (a0_0.size : Int));
 let x2 : Bool := decide (x1 < (0 : Int));
 br x2
 (some (((-1 : Int), ()), (), ()))
 ((laws_szIntS a0_1 x1).bind fun r3 =>
 let x4 : Bool := decide (r3.1.1 < (0 : Int));
 br x4
 (some (((-1 : Int), ()), (), ()))
 ((laws_szIntS a0_2 r3.1.1).bind fun r5 =>
 let x6 : Bool := decide (r5.1.1 < (0 : Int));
 br x6
 (some (((-1 : Int), ()), (), ()))
 (some ((r5.1.1, ()), (), ()))))
noncomputable def laws_szFont_C : Ctr := ⟨28, laws_szFont_arg, laws_szFont_res, fun x => laws_szFont x.1.1.1 x.1.1.2.1 x.1.1.2.2.1 x.1.2.1, none⟩
def laws_szFont_H : Hint := ⟨[], [], [], fun _ => []⟩
noncomputable def laws_szFont_T : List Ctr := [laws_szIntS_C]
noncomputable def laws_szFont_Ls : List Lp := []
theorem laws_szFont_e : ∀ x, laws_szFont_C.F x = runBodyW E0 laws_szFont_T laws_szFont_Ls laws_szFont_H 28 Tryz.f28.results.toList (bodyOf Tryz.f28) [] (laws_szFont_arg.mk' x) laws_szFont_res := fun x => by kernel_rfl
theorem laws_szFont_ok : laws_szFont_C.Ok E0 := fn_ok (T := laws_szFont_T) (h := laws_szFont_H) (Ls := laws_szFont_Ls) E0_mixed (T_cons laws_szIntS_ok T_nil) Tryz.func28 (bodyOf_some (by kernel_rfl)) (by kernel_rfl) (loops_of (ks := []) (by kernel_rfl) trivial) laws_szFont_e
def laws_szMatrixS_arg : Sh := ⟨[(0, .c (.rd [] .mat)), (1, .c (.int .i64))], [], []⟩
def laws_szMatrixS_res : List Sh := [⟨[(0, .c (.int .i64))], [], []⟩]
noncomputable def laws_szMatrixS (a0 : List (Int × Int)) (a1 : Int) : Option ((Int × Unit) × Unit × Unit) :=
 let x1 : Int := w64 (a1 - (a0.length : Int));
 let x2 : Bool := decide (x1 < (0 : Int));
 br x2
 (some (((-1 : Int), ()), (), ()))
 (some ((x1, ()), (), ()))
noncomputable def laws_szMatrixS_C : Ctr := ⟨30, laws_szMatrixS_arg, laws_szMatrixS_res, fun x => laws_szMatrixS x.1.1 x.1.2.1, none⟩
def laws_szMatrixS_H : Hint := ⟨[], [], [], fun _ => []⟩
noncomputable def laws_szMatrixS_T : List Ctr := []
noncomputable def laws_szMatrixS_Ls : List Lp := []
theorem laws_szMatrixS_e : ∀ x, laws_szMatrixS_C.F x = runBodyW E0 laws_szMatrixS_T laws_szMatrixS_Ls laws_szMatrixS_H 30 Tryz.f30.results.toList (bodyOf Tryz.f30) [] (laws_szMatrixS_arg.mk' x) laws_szMatrixS_res := fun x => by kernel_rfl
theorem laws_szMatrixS_ok : laws_szMatrixS_C.Ok E0 := fn_ok (T := laws_szMatrixS_T) (h := laws_szMatrixS_H) (Ls := laws_szMatrixS_Ls) E0_mixed T_nil Tryz.func30 (bodyOf_some (by kernel_rfl)) (by kernel_rfl) (loops_of (ks := []) (by kernel_rfl) trivial) laws_szMatrixS_e
def laws_szMatrixSS_arg : Sh := ⟨[(0, .c (.rd [] .mats)), (1, .c (.int .i64))], [], []⟩
def laws_szMatrixSS_res : List Sh := [⟨[(0, .c (.int .i64))], [], []⟩]
noncomputable def laws_szMatrixSS_s0 (x : (List (List (Int × Int)) × Int × Int × Unit) × Unit × Unit) : Option (((List (List (Int × Int)) × Int × Int × Unit) × Unit × Unit) ⊕ (((Int × Unit) × Unit × Unit) ⊕ ((Int × Unit) × Unit × Unit))) :=
 let x3 : Bool := decide (x.1.2.2.1 < (x.1.1.length : Int));
 br x3
 (ck (0 ≤ x.1.2.2.1)
 (ck (x.1.2.2.1.toNat < x.1.1.length)
 (let x4 : List (Int × Int) := x.1.1.getD x.1.2.2.1.toNat [];
 (laws_szMatrixS x4 x.1.2.1).bind fun r5 =>
 let x6 : Bool := decide (r5.1.1 < (0 : Int));
 br x6
 (some (.inr (.inl (((-1 : Int), ()), (), ()))))
 (let x7 : Int := w64 (x.1.2.2.1 + (1 : Int));
 some (.inl ((x.1.1, r5.1.1, x7, ()), (), ()))))))
 (some (.inr (.inr ((x.1.2.1, ()), (), ()))))
def laws_szMatrixSS_h0 : Sh := ⟨[(0, .c (.rd [] .mats)), (1, .c (.int .i64)), (5, .c (.int .i64))], [], []⟩
def laws_szMatrixSS_r0 : List Sh := [⟨[(4, .c (.int .i64))], [], []⟩, ⟨[(1, .c (.int .i64))], [], []⟩]
noncomputable def laws_szMatrixSS_L0 : Lp := ⟨0, [], laws_szMatrixSS_h0, [], [(.ret, []), (.exit 0, [])], laws_szMatrixSS_r0, loopC laws_szMatrixSS_s0⟩
noncomputable def laws_szMatrixSS (a0 : List (List (Int × Int))) (a1 : Int) : Option ((Int × Unit) × Unit × Unit) :=
 let x1 : Int := w64 (a1 - (a0.length : Int));
 let x2 : Bool := decide (x1 < (0 : Int));
 br x2
 (some (((-1 : Int), ()), (), ()))
 ((loopC laws_szMatrixSS_s0 ((a0, x1, (0 : Int), ()), (), ())).bind fun r8 =>
 sumK r8 (fun y11 =>
 some ((y11.1.1, ()), (), ())) (fun y12 =>
 some ((y12.1.1, ()), (), ())))
noncomputable def laws_szMatrixSS_C : Ctr := ⟨29, laws_szMatrixSS_arg, laws_szMatrixSS_res, fun x => laws_szMatrixSS x.1.1 x.1.2.1, none⟩
def laws_szMatrixSS_H : Hint := ⟨[], [], [], fun _ => []⟩
noncomputable def laws_szMatrixSS_T : List Ctr := [laws_szMatrixS_C]
noncomputable def laws_szMatrixSS_Ls : List Lp := [laws_szMatrixSS_L0]
theorem laws_szMatrixSS_l0 : ∀ x, laws_szMatrixSS_s0 x = stepW E0 laws_szMatrixSS_T laws_szMatrixSS_Ls laws_szMatrixSS_H (loopAt (bodyOf Tryz.f29) 0) 0 laws_szMatrixSS_h0 [] [(.ret, []), (.exit 0, [])] laws_szMatrixSS_r0 x := fun x => by kernel_rfl
theorem laws_szMatrixSS_e : ∀ x, laws_szMatrixSS_C.F x = runBodyW E0 laws_szMatrixSS_T laws_szMatrixSS_Ls laws_szMatrixSS_H 29 Tryz.f29.results.toList (bodyOf Tryz.f29) [] (laws_szMatrixSS_arg.mk' x) laws_szMatrixSS_res := fun x => by kernel_rfl
theorem laws_szMatrixSS_ok : laws_szMatrixSS_C.Ok E0 := fn_ok (T := laws_szMatrixSS_T) (h := laws_szMatrixSS_H) (Ls := laws_szMatrixSS_Ls) E0_mixed (T_cons laws_szMatrixS_ok T_nil) Tryz.func29 (bodyOf_some (by kernel_rfl)) (by kernel_rfl) (loops_of (ks := [0]) (by kernel_rfl) ⟨(loop_one (h := laws_szMatrixSS_H) (own := []) (head := laws_szMatrixSS_h0) (back := []) (exs := [(.ret, []), (.exit 0, [])]) (res := laws_szMatrixSS_r0) (step := laws_szMatrixSS_s0) (by kernel_rfl) laws_szMatrixSS_l0), trivial⟩) laws_szMatrixSS_e
def laws_szMachine_arg : Sh := ⟨[(0, .agg [.str, .rd [] .i64, .rd [] .i64, .rd [] .mats, .int .i64, .int .i64, .int .i64, .int .i64, .rd [] .mat, .rd [] .mat]), (1, .c (.int .i64))], [], []⟩
def laws_szMachine_res : List Sh := [⟨[(0, .c (.int .i64))], [], []⟩]
noncomputable def laws_szMachine (a0_0 : ByteArray) (a0_1 : List Int) (a0_2 : List Int) (a0_3 : List (List (Int × Int))) (a0_4 : Int) (a0_5 : Int) (a0_6 : Int) (a0_7 : Int) (a0_8 : List (Int × Int)) (a0_9 : List (Int × Int)) (a1 : Int) : Option ((Int × Unit) × Unit × Unit) :=
 (laws_szFont a0_0 a0_1 a0_2 a1).bind fun r1 =>
 let x2 : Bool := decide (r1.1.1 < (0 : Int));
 br x2
 (some (((-1 : Int), ()), (), ()))
 ((laws_szMatrixSS a0_3 r1.1.1).bind fun r3 =>
 let x4 : Bool := decide (r3.1.1 < (0 : Int));
 br x4
 (some (((-1 : Int), ()), (), ()))
 ((laws_szMatrixS a0_8 r3.1.1).bind fun r5 =>
 let x6 : Bool := decide (r5.1.1 < (0 : Int));
 br x6
 (some (((-1 : Int), ()), (), ()))
 ((laws_szMatrixS a0_9 r5.1.1).bind fun r7 =>
 let x8 : Bool := decide (r7.1.1 < (0 : Int));
 br x8
 (some (((-1 : Int), ()), (), ()))
 (some ((r7.1.1, ()), (), ())))))
noncomputable def laws_szMachine_C : Ctr := ⟨10, laws_szMachine_arg, laws_szMachine_res, fun x => laws_szMachine x.1.1.1 x.1.1.2.1 x.1.1.2.2.1 x.1.1.2.2.2.1 x.1.1.2.2.2.2.1 x.1.1.2.2.2.2.2.1 x.1.1.2.2.2.2.2.2.1 x.1.1.2.2.2.2.2.2.2.1 x.1.1.2.2.2.2.2.2.2.2.1 x.1.1.2.2.2.2.2.2.2.2.2.1 x.1.2.1, none⟩
def laws_szMachine_H : Hint := ⟨[], [], [], fun _ => []⟩
noncomputable def laws_szMachine_T : List Ctr := [laws_szFont_C, laws_szMatrixSS_C, laws_szMatrixS_C]
noncomputable def laws_szMachine_Ls : List Lp := []
theorem laws_szMachine_e : ∀ x, laws_szMachine_C.F x = runBodyW E0 laws_szMachine_T laws_szMachine_Ls laws_szMachine_H 10 Tryz.f10.results.toList (bodyOf Tryz.f10) [] (laws_szMachine_arg.mk' x) laws_szMachine_res := fun x => by kernel_rfl
theorem laws_szMachine_ok : laws_szMachine_C.Ok E0 := fn_ok (T := laws_szMachine_T) (h := laws_szMachine_H) (Ls := laws_szMachine_Ls) E0_mixed (T_cons laws_szFont_ok (T_cons laws_szMatrixSS_ok (T_cons laws_szMatrixS_ok T_nil))) Tryz.func10 (bodyOf_some (by kernel_rfl)) (by kernel_rfl) (loops_of (ks := []) (by kernel_rfl) trivial) laws_szMachine_e
def laws_szStringS_arg : Sh := ⟨[(0, .c (.rd [] .str)), (1, .c (.int .i64))], [], []⟩
def laws_szStringS_res : List Sh := [⟨[(0, .c (.int .i64))], [], []⟩]
noncomputable def laws_szStringS_s0 (x : (List ByteArray × Int × Int × Unit) × Unit × Unit) : Option (((List ByteArray × Int × Int × Unit) × Unit × Unit) ⊕ (((Int × Unit) × Unit × Unit) ⊕ ((Int × Unit) × Unit × Unit))) :=
 let x3 : Bool := decide (x.1.2.2.1 < (x.1.1.length : Int));
 br x3
 (ck (0 ≤ x.1.2.2.1)
 (ck (x.1.2.2.1.toNat < x.1.1.length)
 (let x4 : ByteArray := x.1.1.getD x.1.2.2.1.toNat ByteArray.empty;
 let x5 : Int := w64 (x.1.2.1 - (x4.size : Int));
 let x6 : Bool := decide (x5 < (0 : Int));
 br x6
 (some (.inr (.inl (((-1 : Int), ()), (), ()))))
 (let x7 : Int := w64 (x.1.2.2.1 + (1 : Int));
 some (.inl ((x.1.1, x5, x7, ()), (), ()))))))
 (some (.inr (.inr ((x.1.2.1, ()), (), ()))))
def laws_szStringS_h0 : Sh := ⟨[(0, .c (.rd [] .str)), (1, .c (.int .i64)), (5, .c (.int .i64))], [], []⟩
def laws_szStringS_r0 : List Sh := [⟨[(4, .c (.int .i64))], [], []⟩, ⟨[(1, .c (.int .i64))], [], []⟩]
noncomputable def laws_szStringS_L0 : Lp := ⟨0, [], laws_szStringS_h0, [], [(.ret, []), (.exit 0, [])], laws_szStringS_r0, loopC laws_szStringS_s0⟩
noncomputable def laws_szStringS (a0 : List ByteArray) (a1 : Int) : Option ((Int × Unit) × Unit × Unit) :=
 let x1 : Int := w64 (a1 - (a0.length : Int));
 let x2 : Bool := decide (x1 < (0 : Int));
 br x2
 (some (((-1 : Int), ()), (), ()))
 ((loopC laws_szStringS_s0 ((a0, x1, (0 : Int), ()), (), ())).bind fun r8 =>
 sumK r8 (fun y11 =>
 some ((y11.1.1, ()), (), ())) (fun y12 =>
 some ((y12.1.1, ()), (), ())))
noncomputable def laws_szStringS_C : Ctr := ⟨11, laws_szStringS_arg, laws_szStringS_res, fun x => laws_szStringS x.1.1 x.1.2.1, none⟩
def laws_szStringS_H : Hint := ⟨[], [], [], fun _ => []⟩
noncomputable def laws_szStringS_T : List Ctr := []
noncomputable def laws_szStringS_Ls : List Lp := [laws_szStringS_L0]
theorem laws_szStringS_l0 : ∀ x, laws_szStringS_s0 x = stepW E0 laws_szStringS_T laws_szStringS_Ls laws_szStringS_H (loopAt (bodyOf Tryz.f11) 0) 0 laws_szStringS_h0 [] [(.ret, []), (.exit 0, [])] laws_szStringS_r0 x := fun x => by kernel_rfl
theorem laws_szStringS_e : ∀ x, laws_szStringS_C.F x = runBodyW E0 laws_szStringS_T laws_szStringS_Ls laws_szStringS_H 11 Tryz.f11.results.toList (bodyOf Tryz.f11) [] (laws_szStringS_arg.mk' x) laws_szStringS_res := fun x => by kernel_rfl
theorem laws_szStringS_ok : laws_szStringS_C.Ok E0 := fn_ok (T := laws_szStringS_T) (h := laws_szStringS_H) (Ls := laws_szStringS_Ls) E0_mixed T_nil Tryz.func11 (bodyOf_some (by kernel_rfl)) (by kernel_rfl) (loops_of (ks := [0]) (by kernel_rfl) ⟨(loop_one (h := laws_szStringS_H) (own := []) (head := laws_szStringS_h0) (back := []) (exs := [(.ret, []), (.exit 0, [])]) (res := laws_szStringS_r0) (step := laws_szStringS_s0) (by kernel_rfl) laws_szStringS_l0), trivial⟩) laws_szStringS_e
def laws_szDesk_arg : Sh := ⟨[(0, .agg [.str, .rd [] .i64, .rd [] .i64, .rd [] .mats, .int .i64, .int .i64, .int .i64, .int .i64, .rd [] .mat, .rd [] .mat, .rd [] .str]), (1, .c (.int .i64))], [], []⟩
def laws_szDesk_res : List Sh := [⟨[(0, .c (.int .i64))], [], []⟩]
noncomputable def laws_szDesk (a0_0 : ByteArray) (a0_1 : List Int) (a0_2 : List Int) (a0_3 : List (List (Int × Int))) (a0_4 : Int) (a0_5 : Int) (a0_6 : Int) (a0_7 : Int) (a0_8 : List (Int × Int)) (a0_9 : List (Int × Int)) (a0_10 : List ByteArray) (a1 : Int) : Option ((Int × Unit) × Unit × Unit) :=
 (laws_szMachine a0_0 a0_1 a0_2 a0_3 a0_4 a0_5 a0_6 a0_7 a0_8 a0_9 a1).bind fun r1 =>
 let x2 : Bool := decide (r1.1.1 < (0 : Int));
 br x2
 (some (((-1 : Int), ()), (), ()))
 ((laws_szStringS a0_10 r1.1.1).bind fun r3 =>
 let x4 : Bool := decide (r3.1.1 < (0 : Int));
 br x4
 (some (((-1 : Int), ()), (), ()))
 (some ((r3.1.1, ()), (), ())))
noncomputable def laws_szDesk_C : Ctr := ⟨5, laws_szDesk_arg, laws_szDesk_res, fun x => laws_szDesk x.1.1.1 x.1.1.2.1 x.1.1.2.2.1 x.1.1.2.2.2.1 x.1.1.2.2.2.2.1 x.1.1.2.2.2.2.2.1 x.1.1.2.2.2.2.2.2.1 x.1.1.2.2.2.2.2.2.2.1 x.1.1.2.2.2.2.2.2.2.2.1 x.1.1.2.2.2.2.2.2.2.2.2.1 x.1.1.2.2.2.2.2.2.2.2.2.2.1 x.1.2.1, none⟩
def laws_szDesk_H : Hint := ⟨[], [], [], fun _ => []⟩
noncomputable def laws_szDesk_T : List Ctr := [laws_szMachine_C, laws_szStringS_C]
noncomputable def laws_szDesk_Ls : List Lp := []
theorem laws_szDesk_e : ∀ x, laws_szDesk_C.F x = runBodyW E0 laws_szDesk_T laws_szDesk_Ls laws_szDesk_H 5 Tryz.f5.results.toList (bodyOf Tryz.f5) [] (laws_szDesk_arg.mk' x) laws_szDesk_res := fun x => by kernel_rfl
theorem laws_szDesk_ok : laws_szDesk_C.Ok E0 := fn_ok (T := laws_szDesk_T) (h := laws_szDesk_H) (Ls := laws_szDesk_Ls) E0_mixed (T_cons laws_szMachine_ok (T_cons laws_szStringS_ok T_nil)) Tryz.func5 (bodyOf_some (by kernel_rfl)) (by kernel_rfl) (loops_of (ks := []) (by kernel_rfl) trivial) laws_szDesk_e
def laws_toIntS_arg : Sh := ⟨[(0, .c (.rd [] .i64))], [], []⟩
def laws_toIntS_res : List Sh := [⟨[(0, .c (.own 0))], [], [(0, .i64)]⟩]
noncomputable def laws_toIntS_s0 (x : (List Int × Unit × Int × Unit) × Unit × (List Int × Unit)) : Option (((List Int × Unit × Int × Unit) × Unit × (List Int × Unit)) ⊕ ((Unit × Unit) × Unit × (List Int × Unit))) :=
 let x2 : Bool := decide (x.1.2.2.1 < (x.1.1.length : Int));
 br x2
 (ck (0 ≤ x.1.2.2.1)
 (ck (x.1.2.2.1.toNat < x.1.1.length)
 (let x3 : Int := x.1.1.getD x.1.2.2.1.toNat 0;
 ck (0 ≤ x.1.2.2.1)
 (ck (x.1.2.2.1.toNat < x.2.2.1.length)
 (ck (x.1.2.2.1.toNat < x.2.2.1.length)
 (let x4 : List Int := x.2.2.1.set x.1.2.2.1.toNat x3;
 let x5 : Int := w64 (x.1.2.2.1 + (1 : Int));
 some (.inl ((x.1.1, (), x5, ()), (), (x4, ())))))))))
 (some (.inr (((), ()), (), (x.2.2.1, ()))))
def laws_toIntS_h0 : Sh := ⟨[(0, .c (.rd [] .i64)), (3, .c (.own 0)), (4, .c (.int .i64))], [], [(0, .i64)]⟩
def laws_toIntS_r0 : List Sh := [⟨[(3, .c (.own 0))], [], [(0, .i64)]⟩]
noncomputable def laws_toIntS_L0 : Lp := ⟨0, [], laws_toIntS_h0, [], [(.exit 0, [])], laws_toIntS_r0, loopC laws_toIntS_s0⟩
noncomputable def laws_toIntS (a0 : List Int) : Option ((Unit × Unit) × Unit × (List Int × Unit)) :=
 ck (0 ≤ (a0.length : Int))
 (ck (0 ≤ (a0.length : Int))
 (ck ((a0.length : Int).toNat = (a0.length : Int).toNat ∧ (a0.length : Int).toNat * 8 ≤ 140737488355328 ∧ (a0.length : Int).toNat ≤ 9223372036854775807)
 (let x1 : List Int := List.replicate ((a0.length : Int).toNat) 0;
 (loopC laws_toIntS_s0 ((a0, (), (0 : Int), ()), (), (x1, ()))).bind fun r6 =>
 some (((), ()), (), (r6.2.2.1, ())))))
noncomputable def laws_toIntS_C : Ctr := ⟨76, laws_toIntS_arg, laws_toIntS_res, fun x => laws_toIntS x.1.1, none⟩
def laws_toIntS_H : Hint := ⟨[], [], [], fun _ => []⟩
noncomputable def laws_toIntS_T : List Ctr := []
noncomputable def laws_toIntS_Ls : List Lp := [laws_toIntS_L0]
theorem laws_toIntS_l0 : ∀ x, laws_toIntS_s0 x = stepW E0 laws_toIntS_T laws_toIntS_Ls laws_toIntS_H (loopAt (bodyOf Tryz.f76) 0) 0 laws_toIntS_h0 [] [(.exit 0, [])] laws_toIntS_r0 x := fun x => by kernel_rfl
theorem laws_toIntS_e : ∀ x, laws_toIntS_C.F x = runBodyW E0 laws_toIntS_T laws_toIntS_Ls laws_toIntS_H 76 Tryz.f76.results.toList (bodyOf Tryz.f76) [] (laws_toIntS_arg.mk' x) laws_toIntS_res := fun x => by kernel_rfl
theorem laws_toIntS_ok : laws_toIntS_C.Ok E0 := fn_ok (T := laws_toIntS_T) (h := laws_toIntS_H) (Ls := laws_toIntS_Ls) E0_mixed T_nil Tryz.func76 (bodyOf_some (by kernel_rfl)) (by kernel_rfl) (loops_of (ks := [0]) (by kernel_rfl) ⟨(loop_one (h := laws_toIntS_H) (own := []) (head := laws_toIntS_h0) (back := []) (exs := [(.exit 0, [])]) (res := laws_toIntS_r0) (step := laws_toIntS_s0) (by kernel_rfl) laws_toIntS_l0), trivial⟩) laws_toIntS_e
def laws_toFont_arg : Sh := ⟨[(0, .agg [.str, .rd [] .i64, .rd [] .i64])], [], []⟩
def laws_toFont_res : List Sh := [⟨[(0, .agg [.str, .own 0, .own 1])], [], [(0, .i64), (1, .i64)]⟩]
noncomputable def laws_toFont (a0_0 : ByteArray) (a0_1 : List Int) (a0_2 : List Int) : Option (((ByteArray × Unit × Unit × Unit) × Unit) × Unit × (List Int × List Int × Unit)) :=
 (laws_toIntS a0_1).bind fun r1 =>
 (laws_toIntS a0_2).bind fun r2 =>
 some (((a0_0, (), (), ()), ()), (), (r1.2.2.1, r2.2.2.1, ()))
noncomputable def laws_toFont_C : Ctr := ⟨32, laws_toFont_arg, laws_toFont_res, fun x => laws_toFont x.1.1.1 x.1.1.2.1 x.1.1.2.2.1, none⟩
def laws_toFont_H : Hint := ⟨[], [], [], fun _ => []⟩
noncomputable def laws_toFont_T : List Ctr := [laws_toIntS_C]
noncomputable def laws_toFont_Ls : List Lp := []
theorem laws_toFont_e : ∀ x, laws_toFont_C.F x = runBodyW E0 laws_toFont_T laws_toFont_Ls laws_toFont_H 32 Tryz.f32.results.toList (bodyOf Tryz.f32) [] (laws_toFont_arg.mk' x) laws_toFont_res := fun x => by kernel_rfl
theorem laws_toFont_ok : laws_toFont_C.Ok E0 := fn_ok (T := laws_toFont_T) (h := laws_toFont_H) (Ls := laws_toFont_Ls) E0_mixed (T_cons laws_toIntS_ok T_nil) Tryz.func32 (bodyOf_some (by kernel_rfl)) (by kernel_rfl) (loops_of (ks := []) (by kernel_rfl) trivial) laws_toFont_e
def laws_toMatrix_arg : Sh := ⟨[(0, .agg [.int .i64, .int .i64])], [], []⟩
def laws_toMatrix_res : List Sh := [⟨[(0, .agg [.int .i64, .int .i64])], [], []⟩]
noncomputable def laws_toMatrix (a0_0 : Int) (a0_1 : Int) : Option (((Int × Int × Unit) × Unit) × Unit × Unit) :=
 some (((a0_0, a0_1, ()), ()), (), ())
noncomputable def laws_toMatrix_C : Ctr := ⟨77, laws_toMatrix_arg, laws_toMatrix_res, fun x => laws_toMatrix x.1.1.1 x.1.1.2.1, none⟩
def laws_toMatrix_H : Hint := ⟨[], [], [], fun _ => []⟩
noncomputable def laws_toMatrix_T : List Ctr := []
noncomputable def laws_toMatrix_Ls : List Lp := []
theorem laws_toMatrix_e : ∀ x, laws_toMatrix_C.F x = runBodyW E0 laws_toMatrix_T laws_toMatrix_Ls laws_toMatrix_H 77 Tryz.f77.results.toList (bodyOf Tryz.f77) [] (laws_toMatrix_arg.mk' x) laws_toMatrix_res := fun x => by kernel_rfl
theorem laws_toMatrix_ok : laws_toMatrix_C.Ok E0 := fn_ok (T := laws_toMatrix_T) (h := laws_toMatrix_H) (Ls := laws_toMatrix_Ls) E0_mixed T_nil Tryz.func77 (bodyOf_some (by kernel_rfl)) (by kernel_rfl) (loops_of (ks := []) (by kernel_rfl) trivial) laws_toMatrix_e
def laws_toMatrixS_arg : Sh := ⟨[(0, .c (.rd [] .mat))], [], []⟩
def laws_toMatrixS_res : List Sh := [⟨[(0, .c (.own 0))], [], [(0, .mat)]⟩]
noncomputable def laws_toMatrixS_s0 (x : (List (Int × Int) × Unit × Int × Unit) × Unit × (List (Int × Int) × Unit)) : Option (((List (Int × Int) × Unit × Int × Unit) × Unit × (List (Int × Int) × Unit)) ⊕ ((Unit × Unit) × Unit × (List (Int × Int) × Unit))) :=
 let x2 : Bool := decide (x.1.2.2.1 < (x.1.1.length : Int));
 br x2
 (ck (0 ≤ x.1.2.2.1)
 (ck (x.1.2.2.1.toNat < x.1.1.length)
 (let x3 : Int × Int := x.1.1.getD x.1.2.2.1.toNat (0, 0);
 (laws_toMatrix x3.1 x3.2).bind fun r4 =>
 ck (0 ≤ x.1.2.2.1)
 (ck (x.1.2.2.1.toNat < x.2.2.1.length)
 (ck (x.1.2.2.1.toNat < x.2.2.1.length)
 (let x5 : List (Int × Int) := x.2.2.1.set x.1.2.2.1.toNat (r4.1.1.1, r4.1.1.2.1);
 let x6 : Int := w64 (x.1.2.2.1 + (1 : Int));
 some (.inl ((x.1.1, (), x6, ()), (), (x5, ())))))))))
 (some (.inr (((), ()), (), (x.2.2.1, ()))))
def laws_toMatrixS_h0 : Sh := ⟨[(0, .c (.rd [] .mat)), (3, .c (.own 0)), (4, .c (.int .i64))], [], [(0, .mat)]⟩
def laws_toMatrixS_r0 : List Sh := [⟨[(3, .c (.own 0))], [], [(0, .mat)]⟩]
noncomputable def laws_toMatrixS_L0 : Lp := ⟨0, [], laws_toMatrixS_h0, [], [(.exit 0, [])], laws_toMatrixS_r0, loopC laws_toMatrixS_s0⟩
noncomputable def laws_toMatrixS (a0 : List (Int × Int)) : Option ((Unit × Unit) × Unit × (List (Int × Int) × Unit)) :=
 ck (0 ≤ (a0.length : Int))
 (ck (0 ≤ (a0.length : Int))
 (ck ((a0.length : Int).toNat = (a0.length : Int).toNat ∧ (a0.length : Int).toNat * 16 ≤ 140737488355328 ∧ (a0.length : Int).toNat ≤ 9223372036854775807)
 (let x1 : List (Int × Int) := List.replicate ((a0.length : Int).toNat) (0, 0);
 (loopC laws_toMatrixS_s0 ((a0, (), (0 : Int), ()), (), (x1, ()))).bind fun r7 =>
 some (((), ()), (), (r7.2.2.1, ())))))
noncomputable def laws_toMatrixS_C : Ctr := ⟨35, laws_toMatrixS_arg, laws_toMatrixS_res, fun x => laws_toMatrixS x.1.1, none⟩
def laws_toMatrixS_H : Hint := ⟨[], [], [], fun _ => []⟩
noncomputable def laws_toMatrixS_T : List Ctr := [laws_toMatrix_C]
noncomputable def laws_toMatrixS_Ls : List Lp := [laws_toMatrixS_L0]
theorem laws_toMatrixS_l0 : ∀ x, laws_toMatrixS_s0 x = stepW E0 laws_toMatrixS_T laws_toMatrixS_Ls laws_toMatrixS_H (loopAt (bodyOf Tryz.f35) 0) 0 laws_toMatrixS_h0 [] [(.exit 0, [])] laws_toMatrixS_r0 x := fun x => by kernel_rfl
theorem laws_toMatrixS_e : ∀ x, laws_toMatrixS_C.F x = runBodyW E0 laws_toMatrixS_T laws_toMatrixS_Ls laws_toMatrixS_H 35 Tryz.f35.results.toList (bodyOf Tryz.f35) [] (laws_toMatrixS_arg.mk' x) laws_toMatrixS_res := fun x => by kernel_rfl
theorem laws_toMatrixS_ok : laws_toMatrixS_C.Ok E0 := fn_ok (T := laws_toMatrixS_T) (h := laws_toMatrixS_H) (Ls := laws_toMatrixS_Ls) E0_mixed (T_cons laws_toMatrix_ok T_nil) Tryz.func35 (bodyOf_some (by kernel_rfl)) (by kernel_rfl) (loops_of (ks := [0]) (by kernel_rfl) ⟨(loop_one (h := laws_toMatrixS_H) (own := []) (head := laws_toMatrixS_h0) (back := []) (exs := [(.exit 0, [])]) (res := laws_toMatrixS_r0) (step := laws_toMatrixS_s0) (by kernel_rfl) laws_toMatrixS_l0), trivial⟩) laws_toMatrixS_e
def laws_toMatrixSS_arg : Sh := ⟨[(0, .c (.rd [] .mats))], [], []⟩
def laws_toMatrixSS_res : List Sh := [⟨[(0, .c (.own 0))], [], [(0, .mats)]⟩]
noncomputable def laws_toMatrixSS_s0 (x : (List (List (Int × Int)) × Unit × Int × Unit) × Unit × (List (List (Int × Int)) × Unit)) : Option (((List (List (Int × Int)) × Unit × Int × Unit) × Unit × (List (List (Int × Int)) × Unit)) ⊕ ((Unit × Unit) × Unit × (List (List (Int × Int)) × Unit))) :=
 let x2 : Bool := decide (x.1.2.2.1 < (x.1.1.length : Int));
 br x2
 (ck (0 ≤ x.1.2.2.1)
 (ck (x.1.2.2.1.toNat < x.1.1.length)
 (let x3 : List (Int × Int) := x.1.1.getD x.1.2.2.1.toNat [];
 (laws_toMatrixS x3).bind fun r4 =>
 ck (0 ≤ x.1.2.2.1)
 (ck (x.1.2.2.1.toNat < x.2.2.1.length)
 (ck (x.1.2.2.1.toNat < x.2.2.1.length)
 (let x5 : List (List (Int × Int)) := x.2.2.1.set x.1.2.2.1.toNat r4.2.2.1;
 let x6 : Int := w64 (x.1.2.2.1 + (1 : Int));
 some (.inl ((x.1.1, (), x6, ()), (), (x5, ())))))))))
 (some (.inr (((), ()), (), (x.2.2.1, ()))))
def laws_toMatrixSS_h0 : Sh := ⟨[(0, .c (.rd [] .mats)), (3, .c (.own 0)), (4, .c (.int .i64))], [], [(0, .mats)]⟩
def laws_toMatrixSS_r0 : List Sh := [⟨[(3, .c (.own 0))], [], [(0, .mats)]⟩]
noncomputable def laws_toMatrixSS_L0 : Lp := ⟨0, [], laws_toMatrixSS_h0, [], [(.exit 0, [])], laws_toMatrixSS_r0, loopC laws_toMatrixSS_s0⟩
noncomputable def laws_toMatrixSS (a0 : List (List (Int × Int))) : Option ((Unit × Unit) × Unit × (List (List (Int × Int)) × Unit)) :=
 ck (0 ≤ (a0.length : Int))
 (ck (0 ≤ (a0.length : Int))
 (ck ((a0.length : Int).toNat = (a0.length : Int).toNat ∧ (a0.length : Int).toNat * 24 ≤ 140737488355328 ∧ (a0.length : Int).toNat ≤ 9223372036854775807)
 (let x1 : List (List (Int × Int)) := List.replicate ((a0.length : Int).toNat) [];
 (loopC laws_toMatrixSS_s0 ((a0, (), (0 : Int), ()), (), (x1, ()))).bind fun r7 =>
 some (((), ()), (), (r7.2.2.1, ())))))
noncomputable def laws_toMatrixSS_C : Ctr := ⟨33, laws_toMatrixSS_arg, laws_toMatrixSS_res, fun x => laws_toMatrixSS x.1.1, none⟩
def laws_toMatrixSS_H : Hint := ⟨[], [], [], fun _ => []⟩
noncomputable def laws_toMatrixSS_T : List Ctr := [laws_toMatrixS_C]
noncomputable def laws_toMatrixSS_Ls : List Lp := [laws_toMatrixSS_L0]
theorem laws_toMatrixSS_l0 : ∀ x, laws_toMatrixSS_s0 x = stepW E0 laws_toMatrixSS_T laws_toMatrixSS_Ls laws_toMatrixSS_H (loopAt (bodyOf Tryz.f33) 0) 0 laws_toMatrixSS_h0 [] [(.exit 0, [])] laws_toMatrixSS_r0 x := fun x => by kernel_rfl
theorem laws_toMatrixSS_e : ∀ x, laws_toMatrixSS_C.F x = runBodyW E0 laws_toMatrixSS_T laws_toMatrixSS_Ls laws_toMatrixSS_H 33 Tryz.f33.results.toList (bodyOf Tryz.f33) [] (laws_toMatrixSS_arg.mk' x) laws_toMatrixSS_res := fun x => by kernel_rfl
theorem laws_toMatrixSS_ok : laws_toMatrixSS_C.Ok E0 := fn_ok (T := laws_toMatrixSS_T) (h := laws_toMatrixSS_H) (Ls := laws_toMatrixSS_Ls) E0_mixed (T_cons laws_toMatrixS_ok T_nil) Tryz.func33 (bodyOf_some (by kernel_rfl)) (by kernel_rfl) (loops_of (ks := [0]) (by kernel_rfl) ⟨(loop_one (h := laws_toMatrixSS_H) (own := []) (head := laws_toMatrixSS_h0) (back := []) (exs := [(.exit 0, [])]) (res := laws_toMatrixSS_r0) (step := laws_toMatrixSS_s0) (by kernel_rfl) laws_toMatrixSS_l0), trivial⟩) laws_toMatrixSS_e
def laws_toMeasure_arg : Sh := ⟨[(0, .agg [.int .i64, .int .i64, .int .i64])], [], []⟩
def laws_toMeasure_res : List Sh := [⟨[(0, .agg [.int .i64, .int .i64, .int .i64])], [], []⟩]
noncomputable def laws_toMeasure (a0_0 : Int) (a0_1 : Int) (a0_2 : Int) : Option (((Int × Int × Int × Unit) × Unit) × Unit × Unit) :=
 some (((a0_0, a0_1, a0_2, ()), ()), (), ())
noncomputable def laws_toMeasure_C : Ctr := ⟨34, laws_toMeasure_arg, laws_toMeasure_res, fun x => laws_toMeasure x.1.1.1 x.1.1.2.1 x.1.1.2.2.1, none⟩
def laws_toMeasure_H : Hint := ⟨[], [], [], fun _ => []⟩
noncomputable def laws_toMeasure_T : List Ctr := []
noncomputable def laws_toMeasure_Ls : List Lp := []
theorem laws_toMeasure_e : ∀ x, laws_toMeasure_C.F x = runBodyW E0 laws_toMeasure_T laws_toMeasure_Ls laws_toMeasure_H 34 Tryz.f34.results.toList (bodyOf Tryz.f34) [] (laws_toMeasure_arg.mk' x) laws_toMeasure_res := fun x => by kernel_rfl
theorem laws_toMeasure_ok : laws_toMeasure_C.Ok E0 := fn_ok (T := laws_toMeasure_T) (h := laws_toMeasure_H) (Ls := laws_toMeasure_Ls) E0_mixed T_nil Tryz.func34 (bodyOf_some (by kernel_rfl)) (by kernel_rfl) (loops_of (ks := []) (by kernel_rfl) trivial) laws_toMeasure_e
def laws_toMachine_arg : Sh := ⟨[(0, .agg [.str, .rd [] .i64, .rd [] .i64, .rd [] .mats, .int .i64, .int .i64, .int .i64, .int .i64, .rd [] .mat, .rd [] .mat])], [], []⟩
def laws_toMachine_res : List Sh := [⟨[(0, .agg [.str, .own 0, .own 1, .own 2, .int .i64, .int .i64, .int .i64, .int .i64, .own 3, .own 4])], [], [(0, .i64), (1, .i64), (2, .mats), (3, .mat), (4, .mat)]⟩]
noncomputable def laws_toMachine (a0_0 : ByteArray) (a0_1 : List Int) (a0_2 : List Int) (a0_3 : List (List (Int × Int))) (a0_4 : Int) (a0_5 : Int) (a0_6 : Int) (a0_7 : Int) (a0_8 : List (Int × Int)) (a0_9 : List (Int × Int)) : Option (((ByteArray × Unit × Unit × Unit × Int × Int × Int × Int × Unit × Unit × Unit) × Unit) × Unit × (List Int × List Int × List (List (Int × Int)) × List (Int × Int) × List (Int × Int) × Unit)) :=
 (laws_toFont a0_0 a0_1 a0_2).bind fun r1 =>
 (laws_toMatrixSS a0_3).bind fun r2 =>
 (laws_toMeasure a0_5 a0_6 a0_7).bind fun r3 =>
 (laws_toMatrixS a0_8).bind fun r4 =>
 (laws_toMatrixS a0_9).bind fun r5 =>
 some (((r1.1.1.1, (), (), (), a0_4, r3.1.1.1, r3.1.1.2.1, r3.1.1.2.2.1, (), (), ()), ()), (), (r1.2.2.1, r1.2.2.2.1, r2.2.2.1, r4.2.2.1, r5.2.2.1, ()))
noncomputable def laws_toMachine_C : Ctr := ⟨13, laws_toMachine_arg, laws_toMachine_res, fun x => laws_toMachine x.1.1.1 x.1.1.2.1 x.1.1.2.2.1 x.1.1.2.2.2.1 x.1.1.2.2.2.2.1 x.1.1.2.2.2.2.2.1 x.1.1.2.2.2.2.2.2.1 x.1.1.2.2.2.2.2.2.2.1 x.1.1.2.2.2.2.2.2.2.2.1 x.1.1.2.2.2.2.2.2.2.2.2.1, none⟩
def laws_toMachine_H : Hint := ⟨[], [], [], fun _ => []⟩
noncomputable def laws_toMachine_T : List Ctr := [laws_toFont_C, laws_toMatrixSS_C, laws_toMeasure_C, laws_toMatrixS_C]
noncomputable def laws_toMachine_Ls : List Lp := []
theorem laws_toMachine_e : ∀ x, laws_toMachine_C.F x = runBodyW E0 laws_toMachine_T laws_toMachine_Ls laws_toMachine_H 13 Tryz.f13.results.toList (bodyOf Tryz.f13) [] (laws_toMachine_arg.mk' x) laws_toMachine_res := fun x => by kernel_rfl
theorem laws_toMachine_ok : laws_toMachine_C.Ok E0 := fn_ok (T := laws_toMachine_T) (h := laws_toMachine_H) (Ls := laws_toMachine_Ls) E0_mixed (T_cons laws_toFont_ok (T_cons laws_toMatrixSS_ok (T_cons laws_toMeasure_ok (T_cons laws_toMatrixS_ok T_nil)))) Tryz.func13 (bodyOf_some (by kernel_rfl)) (by kernel_rfl) (loops_of (ks := []) (by kernel_rfl) trivial) laws_toMachine_e
def laws_toStringS_arg : Sh := ⟨[(0, .c (.rd [] .str))], [], []⟩
def laws_toStringS_res : List Sh := [⟨[(0, .c (.own 0))], [], [(0, .str)]⟩]
noncomputable def laws_toStringS_s0 (x : (List ByteArray × Unit × Int × Unit) × Unit × (List ByteArray × Unit)) : Option (((List ByteArray × Unit × Int × Unit) × Unit × (List ByteArray × Unit)) ⊕ ((Unit × Unit) × Unit × (List ByteArray × Unit))) :=
 let x2 : Bool := decide (x.1.2.2.1 < (x.1.1.length : Int));
 br x2
 (ck (0 ≤ x.1.2.2.1)
 (ck (x.1.2.2.1.toNat < x.1.1.length)
 (let x3 : ByteArray := x.1.1.getD x.1.2.2.1.toNat ByteArray.empty;
 ck (0 ≤ x.1.2.2.1)
 (ck (x.1.2.2.1.toNat < x.2.2.1.length)
 (ck (x.1.2.2.1.toNat < x.2.2.1.length)
 (let x4 : List ByteArray := x.2.2.1.set x.1.2.2.1.toNat x3;
 let x5 : Int := w64 (x.1.2.2.1 + (1 : Int));
 some (.inl ((x.1.1, (), x5, ()), (), (x4, ())))))))))
 (some (.inr (((), ()), (), (x.2.2.1, ()))))
def laws_toStringS_h0 : Sh := ⟨[(0, .c (.rd [] .str)), (3, .c (.own 0)), (4, .c (.int .i64))], [], [(0, .str)]⟩
def laws_toStringS_r0 : List Sh := [⟨[(3, .c (.own 0))], [], [(0, .str)]⟩]
noncomputable def laws_toStringS_L0 : Lp := ⟨0, [], laws_toStringS_h0, [], [(.exit 0, [])], laws_toStringS_r0, loopC laws_toStringS_s0⟩
noncomputable def laws_toStringS (a0 : List ByteArray) : Option ((Unit × Unit) × Unit × (List ByteArray × Unit)) :=
 ck (0 ≤ (a0.length : Int))
 (ck (0 ≤ (a0.length : Int))
 (ck ((a0.length : Int).toNat = (a0.length : Int).toNat ∧ (a0.length : Int).toNat * 16 ≤ 140737488355328 ∧ (a0.length : Int).toNat ≤ 9223372036854775807)
 (let x1 : List ByteArray := List.replicate ((a0.length : Int).toNat) ByteArray.empty;
 (loopC laws_toStringS_s0 ((a0, (), (0 : Int), ()), (), (x1, ()))).bind fun r6 =>
 some (((), ()), (), (r6.2.2.1, ())))))
noncomputable def laws_toStringS_C : Ctr := ⟨14, laws_toStringS_arg, laws_toStringS_res, fun x => laws_toStringS x.1.1, none⟩
def laws_toStringS_H : Hint := ⟨[], [], [], fun _ => []⟩
noncomputable def laws_toStringS_T : List Ctr := []
noncomputable def laws_toStringS_Ls : List Lp := [laws_toStringS_L0]
theorem laws_toStringS_l0 : ∀ x, laws_toStringS_s0 x = stepW E0 laws_toStringS_T laws_toStringS_Ls laws_toStringS_H (loopAt (bodyOf Tryz.f14) 0) 0 laws_toStringS_h0 [] [(.exit 0, [])] laws_toStringS_r0 x := fun x => by kernel_rfl
theorem laws_toStringS_e : ∀ x, laws_toStringS_C.F x = runBodyW E0 laws_toStringS_T laws_toStringS_Ls laws_toStringS_H 14 Tryz.f14.results.toList (bodyOf Tryz.f14) [] (laws_toStringS_arg.mk' x) laws_toStringS_res := fun x => by kernel_rfl
theorem laws_toStringS_ok : laws_toStringS_C.Ok E0 := fn_ok (T := laws_toStringS_T) (h := laws_toStringS_H) (Ls := laws_toStringS_Ls) E0_mixed T_nil Tryz.func14 (bodyOf_some (by kernel_rfl)) (by kernel_rfl) (loops_of (ks := [0]) (by kernel_rfl) ⟨(loop_one (h := laws_toStringS_H) (own := []) (head := laws_toStringS_h0) (back := []) (exs := [(.exit 0, [])]) (res := laws_toStringS_r0) (step := laws_toStringS_s0) (by kernel_rfl) laws_toStringS_l0), trivial⟩) laws_toStringS_e
def laws_toDesk_arg : Sh := ⟨[(0, .agg [.str, .rd [] .i64, .rd [] .i64, .rd [] .mats, .int .i64, .int .i64, .int .i64, .int .i64, .rd [] .mat, .rd [] .mat, .rd [] .str])], [], []⟩
def laws_toDesk_res : List Sh := [⟨[(0, .agg [.str, .own 0, .own 1, .own 2, .int .i64, .int .i64, .int .i64, .int .i64, .own 3, .own 4, .own 5])], [], [(0, .i64), (1, .i64), (2, .mats), (3, .mat), (4, .mat), (5, .str)]⟩]
noncomputable def laws_toDesk (a0_0 : ByteArray) (a0_1 : List Int) (a0_2 : List Int) (a0_3 : List (List (Int × Int))) (a0_4 : Int) (a0_5 : Int) (a0_6 : Int) (a0_7 : Int) (a0_8 : List (Int × Int)) (a0_9 : List (Int × Int)) (a0_10 : List ByteArray) : Option (((ByteArray × Unit × Unit × Unit × Int × Int × Int × Int × Unit × Unit × Unit × Unit) × Unit) × Unit × (List Int × List Int × List (List (Int × Int)) × List (Int × Int) × List (Int × Int) × List ByteArray × Unit)) :=
 (laws_toMachine a0_0 a0_1 a0_2 a0_3 a0_4 a0_5 a0_6 a0_7 a0_8 a0_9).bind fun r1 =>
 (laws_toStringS a0_10).bind fun r2 =>
 some (((r1.1.1.1, (), (), (), r1.1.1.2.2.2.2.1, r1.1.1.2.2.2.2.2.1, r1.1.1.2.2.2.2.2.2.1, r1.1.1.2.2.2.2.2.2.2.1, (), (), (), ()), ()), (), (r1.2.2.1, r1.2.2.2.1, r1.2.2.2.2.1, r1.2.2.2.2.2.1, r1.2.2.2.2.2.2.1, r2.2.2.1, ()))
noncomputable def laws_toDesk_C : Ctr := ⟨7, laws_toDesk_arg, laws_toDesk_res, fun x => laws_toDesk x.1.1.1 x.1.1.2.1 x.1.1.2.2.1 x.1.1.2.2.2.1 x.1.1.2.2.2.2.1 x.1.1.2.2.2.2.2.1 x.1.1.2.2.2.2.2.2.1 x.1.1.2.2.2.2.2.2.2.1 x.1.1.2.2.2.2.2.2.2.2.1 x.1.1.2.2.2.2.2.2.2.2.2.1 x.1.1.2.2.2.2.2.2.2.2.2.2.1, none⟩
def laws_toDesk_H : Hint := ⟨[], [], [], fun _ => []⟩
noncomputable def laws_toDesk_T : List Ctr := [laws_toMachine_C, laws_toStringS_C]
noncomputable def laws_toDesk_Ls : List Lp := []
theorem laws_toDesk_e : ∀ x, laws_toDesk_C.F x = runBodyW E0 laws_toDesk_T laws_toDesk_Ls laws_toDesk_H 7 Tryz.f7.results.toList (bodyOf Tryz.f7) [] (laws_toDesk_arg.mk' x) laws_toDesk_res := fun x => by kernel_rfl
theorem laws_toDesk_ok : laws_toDesk_C.Ok E0 := fn_ok (T := laws_toDesk_T) (h := laws_toDesk_H) (Ls := laws_toDesk_Ls) E0_mixed (T_cons laws_toMachine_ok (T_cons laws_toStringS_ok T_nil)) Tryz.func7 (bodyOf_some (by kernel_rfl)) (by kernel_rfl) (loops_of (ks := []) (by kernel_rfl) trivial) laws_toDesk_e
def spec_l1In_arg : Sh := ⟨[(0, .c (.int .i64)), (1, .c (.int .i64)), (2, .c (.int .i64))], [], []⟩
def spec_l1In_res : List Sh := [⟨[(0, .c (.bool))], [], []⟩]
noncomputable def spec_l1In (a0 : Int) (a1 : Int) (a2 : Int) : Option ((Bool × Unit) × Unit × Unit) :=
 let x1 : Bool := decide (a0 ≥ a1);
 br x1
 (let x2 : Bool := decide (a0 ≤ a2);
 some ((x2, ()), (), ()))
 (some ((false, ()), (), ()))
noncomputable def spec_l1In_C : Ctr := ⟨49, spec_l1In_arg, spec_l1In_res, fun x => spec_l1In x.1.1 x.1.2.1 x.1.2.2.1, none⟩
def spec_l1In_H : Hint := ⟨[], [], [], fun _ => []⟩
noncomputable def spec_l1In_T : List Ctr := []
noncomputable def spec_l1In_Ls : List Lp := []
theorem spec_l1In_e : ∀ x, spec_l1In_C.F x = runBodyW E0 spec_l1In_T spec_l1In_Ls spec_l1In_H 49 Tryz.f49.results.toList (bodyOf Tryz.f49) [] (spec_l1In_arg.mk' x) spec_l1In_res := fun x => by kernel_rfl
theorem spec_l1In_ok : spec_l1In_C.Ok E0 := fn_ok (T := spec_l1In_T) (h := spec_l1In_H) (Ls := spec_l1In_Ls) E0_mixed T_nil Tryz.func49 (bodyOf_some (by kernel_rfl)) (by kernel_rfl) (loops_of (ks := []) (by kernel_rfl) trivial) spec_l1In_e
def spec_l1Part_arg : Sh := ⟨[(0, .c (.int .i64)), (1, .c (.int .i64))], [], []⟩
def spec_l1Part_res : List Sh := [⟨[(0, .c (.bool))], [], []⟩]
noncomputable def spec_l1Part (a0 : Int) (a1 : Int) : Option ((Bool × Unit) × Unit × Unit) :=
 let x1 : Int := bAndNot .i64 a0 a1;
 let x2 : Bool := x1 == (0 : Int);
 some ((x2, ()), (), ())
noncomputable def spec_l1Part_C : Ctr := ⟨85, spec_l1Part_arg, spec_l1Part_res, fun x => spec_l1Part x.1.1 x.1.2.1, none⟩
def spec_l1Part_H : Hint := ⟨[], [], [], fun _ => []⟩
noncomputable def spec_l1Part_T : List Ctr := []
noncomputable def spec_l1Part_Ls : List Lp := []
theorem spec_l1Part_e : ∀ x, spec_l1Part_C.F x = runBodyW E0 spec_l1Part_T spec_l1Part_Ls spec_l1Part_H 85 Tryz.f85.results.toList (bodyOf Tryz.f85) [] (spec_l1Part_arg.mk' x) spec_l1Part_res := fun x => by kernel_rfl
theorem spec_l1Part_ok : spec_l1Part_C.Ok E0 := fn_ok (T := spec_l1Part_T) (h := spec_l1Part_H) (Ls := spec_l1Part_Ls) E0_mixed T_nil Tryz.func85 (bodyOf_some (by kernel_rfl)) (by kernel_rfl) (loops_of (ks := []) (by kernel_rfl) trivial) spec_l1Part_e
def spec_l1Fall_arg : Sh := ⟨[(0, .c (.rd [] .i64)), (1, .c (.int .i64))], [], []⟩
def spec_l1Fall_res : List Sh := [⟨[(0, .c (.int .i64))], [], []⟩]
noncomputable def spec_l1Fall_s0 (x : (List Int × Int × List Int × Int × Int × Unit) × Unit × Unit) : Option (((List Int × Int × List Int × Int × Int × Unit) × Unit × Unit) ⊕ (((Int × Unit) × Unit × Unit) ⊕ ((List Int × Unit) × Unit × Unit))) :=
 let x1 : Bool := decide (x.1.2.2.2.2.1 < x.1.2.2.2.1);
 br x1
 (ck (0 ≤ x.1.2.2.2.2.1)
 (ck (x.1.2.2.2.2.1.toNat < x.1.2.2.1.length)
 (let x2 : Int := x.1.2.2.1.getD x.1.2.2.2.2.1.toNat 0;
 (spec_l1Part x.1.2.1 x2).bind fun r3 =>
 br r3.1.1
 (some (.inr (.inl ((x.1.2.2.2.2.1, ()), (), ()))))
 (let x4 : Int := w64 (x.1.2.2.2.2.1 + (1 : Int));
 some (.inl ((x.1.1, x.1.2.1, x.1.2.2.1, x.1.2.2.2.1, x4, ()), (), ()))))))
 (some (.inr (.inr ((x.1.1, ()), (), ()))))
def spec_l1Fall_h0 : Sh := ⟨[(0, .c (.rd [] .i64)), (1, .c (.int .i64)), (7, .c (.rd [] .i64)), (8, .c (.int .i64)), (9, .c (.int .i64))], [], []⟩
def spec_l1Fall_r0 : List Sh := [⟨[(4, .c (.int .i64))], [], []⟩, ⟨[(0, .c (.rd [] .i64))], [], []⟩]
noncomputable def spec_l1Fall_L0 : Lp := ⟨0, [], spec_l1Fall_h0, [], [(.ret, []), (.exit 0, [])], spec_l1Fall_r0, loopC spec_l1Fall_s0⟩
noncomputable def spec_l1Fall (a0 : List Int) (a1 : Int) : Option ((Int × Unit) × Unit × Unit) :=
 (loopC spec_l1Fall_s0 ((a0, a1, a0, (a0.length : Int), (0 : Int), ()), (), ())).bind fun r5 =>
 sumK r5 (fun y8 =>
 some ((y8.1.1, ()), (), ())) (fun y9 =>
 some (((y9.1.1.length : Int), ()), (), ()))
noncomputable def spec_l1Fall_C : Ctr := ⟨141, spec_l1Fall_arg, spec_l1Fall_res, fun x => spec_l1Fall x.1.1 x.1.2.1, none⟩
def spec_l1Fall_H : Hint := ⟨[], [], [], fun _ => []⟩
noncomputable def spec_l1Fall_T : List Ctr := [spec_l1Part_C]
noncomputable def spec_l1Fall_Ls : List Lp := [spec_l1Fall_L0]
theorem spec_l1Fall_l0 : ∀ x, spec_l1Fall_s0 x = stepW E0 spec_l1Fall_T spec_l1Fall_Ls spec_l1Fall_H (loopAt (bodyOf Tryz.f141) 0) 0 spec_l1Fall_h0 [] [(.ret, []), (.exit 0, [])] spec_l1Fall_r0 x := fun x => by kernel_rfl
theorem spec_l1Fall_e : ∀ x, spec_l1Fall_C.F x = runBodyW E0 spec_l1Fall_T spec_l1Fall_Ls spec_l1Fall_H 141 Tryz.f141.results.toList (bodyOf Tryz.f141) [] (spec_l1Fall_arg.mk' x) spec_l1Fall_res := fun x => by kernel_rfl
theorem spec_l1Fall_ok : spec_l1Fall_C.Ok E0 := fn_ok (T := spec_l1Fall_T) (h := spec_l1Fall_H) (Ls := spec_l1Fall_Ls) E0_mixed (T_cons spec_l1Part_ok T_nil) Tryz.func141 (bodyOf_some (by kernel_rfl)) (by kernel_rfl) (loops_of (ks := [0]) (by kernel_rfl) ⟨(loop_one (h := spec_l1Fall_H) (own := []) (head := spec_l1Fall_h0) (back := []) (exs := [(.ret, []), (.exit 0, [])]) (res := spec_l1Fall_r0) (step := spec_l1Fall_s0) (by kernel_rfl) spec_l1Fall_l0), trivial⟩) spec_l1Fall_e
def spec_l1Set_arg : Sh := ⟨[(0, .c (.int .i64))], [], []⟩
def spec_l1Set_res : List Sh := [⟨[(0, .c (.bool))], [], []⟩]
noncomputable def spec_l1Set (a0 : Int) : Option ((Bool × Unit) × Unit × Unit) :=
 (spec_l1In a0 (0 : Int) (127 : Int)).bind fun r1 =>
 some ((r1.1.1, ()), (), ())
noncomputable def spec_l1Set_C : Ctr := ⟨84, spec_l1Set_arg, spec_l1Set_res, fun x => spec_l1Set x.1.1, none⟩
def spec_l1Set_H : Hint := ⟨[], [], [], fun _ => []⟩
noncomputable def spec_l1Set_T : List Ctr := [spec_l1In_C]
noncomputable def spec_l1Set_Ls : List Lp := []
theorem spec_l1Set_e : ∀ x, spec_l1Set_C.F x = runBodyW E0 spec_l1Set_T spec_l1Set_Ls spec_l1Set_H 84 Tryz.f84.results.toList (bodyOf Tryz.f84) [] (spec_l1Set_arg.mk' x) spec_l1Set_res := fun x => by kernel_rfl
theorem spec_l1Set_ok : spec_l1Set_C.Ok E0 := fn_ok (T := spec_l1Set_T) (h := spec_l1Set_H) (Ls := spec_l1Set_Ls) E0_mixed (T_cons spec_l1In_ok T_nil) Tryz.func84 (bodyOf_some (by kernel_rfl)) (by kernel_rfl) (loops_of (ks := []) (by kernel_rfl) trivial) spec_l1Set_e
def spec_IsBar_arg : Sh := ⟨[(0, .c (.rd [] .i64))], [], []⟩
def spec_IsBar_res : List Sh := [⟨[(0, .c (.bool))], [], []⟩]
noncomputable def spec_IsBar_s0 (x : (List Int × List Int × Int × Int × Unit) × Unit × Unit) : Option (((List Int × List Int × Int × Int × Unit) × Unit × Unit) ⊕ (((Bool × Unit) × Unit × Unit) ⊕ ((List Int × Unit) × Unit × Unit))) :=
 let x1 : Bool := decide (x.1.2.2.2.1 < x.1.2.2.1);
 br x1
 (ck (0 ≤ x.1.2.2.2.1)
 (ck (x.1.2.2.2.1.toNat < x.1.2.1.length)
 (let x2 : Int := x.1.2.1.getD x.1.2.2.2.1.toNat 0;
 (spec_l1Set x2).bind fun r3 =>
 br (!r3.1.1)
 (some (.inr (.inl ((false, ()), (), ()))))
 (let x4 : Int := w64 (x.1.2.2.2.1 + (1 : Int));
 some (.inl ((x.1.1, x.1.2.1, x.1.2.2.1, x4, ()), (), ()))))))
 (some (.inr (.inr ((x.1.1, ()), (), ()))))
def spec_IsBar_h0 : Sh := ⟨[(0, .c (.rd [] .i64)), (5, .c (.rd [] .i64)), (6, .c (.int .i64)), (7, .c (.int .i64))], [], []⟩
def spec_IsBar_r0 : List Sh := [⟨[(2, .c (.bool))], [], []⟩, ⟨[(0, .c (.rd [] .i64))], [], []⟩]
noncomputable def spec_IsBar_L0 : Lp := ⟨0, [], spec_IsBar_h0, [], [(.ret, []), (.exit 0, [])], spec_IsBar_r0, loopC spec_IsBar_s0⟩
noncomputable def spec_IsBar (a0 : List Int) : Option ((Bool × Unit) × Unit × Unit) :=
 (loopC spec_IsBar_s0 ((a0, a0, (a0.length : Int), (0 : Int), ()), (), ())).bind fun r5 =>
 sumK r5 (fun y8 =>
 some ((y8.1.1, ()), (), ())) (fun y9 =>
 (spec_l1In (y9.1.1.length : Int) (1 : Int) (40 : Int)).bind fun r10 =>
 some ((r10.1.1, ()), (), ()))
noncomputable def spec_IsBar_C : Ctr := ⟨144, spec_IsBar_arg, spec_IsBar_res, fun x => spec_IsBar x.1.1, none⟩
def spec_IsBar_H : Hint := ⟨[], [], [], fun _ => []⟩
noncomputable def spec_IsBar_T : List Ctr := [spec_l1Set_C, spec_l1In_C]
noncomputable def spec_IsBar_Ls : List Lp := [spec_IsBar_L0]
theorem spec_IsBar_l0 : ∀ x, spec_IsBar_s0 x = stepW E0 spec_IsBar_T spec_IsBar_Ls spec_IsBar_H (loopAt (bodyOf Tryz.f144) 0) 0 spec_IsBar_h0 [] [(.ret, []), (.exit 0, [])] spec_IsBar_r0 x := fun x => by kernel_rfl
theorem spec_IsBar_e : ∀ x, spec_IsBar_C.F x = runBodyW E0 spec_IsBar_T spec_IsBar_Ls spec_IsBar_H 144 Tryz.f144.results.toList (bodyOf Tryz.f144) [] (spec_IsBar_arg.mk' x) spec_IsBar_res := fun x => by kernel_rfl
theorem spec_IsBar_ok : spec_IsBar_C.Ok E0 := fn_ok (T := spec_IsBar_T) (h := spec_IsBar_H) (Ls := spec_IsBar_Ls) E0_mixed (T_cons spec_l1Set_ok (T_cons spec_l1In_ok T_nil)) Tryz.func144 (bodyOf_some (by kernel_rfl)) (by kernel_rfl) (loops_of (ks := [0]) (by kernel_rfl) ⟨(loop_one (h := spec_IsBar_H) (own := []) (head := spec_IsBar_h0) (back := []) (exs := [(.ret, []), (.exit 0, [])]) (res := spec_IsBar_r0) (step := spec_IsBar_s0) (by kernel_rfl) spec_IsBar_l0), trivial⟩) spec_IsBar_e
def spec_SortsAll_arg : Sh := ⟨[(0, .c (.rd [] .i64))], [], []⟩
def spec_SortsAll_res : List Sh := [⟨[(0, .c (.bool))], [], []⟩]
noncomputable def spec_SortsAll_s0 (x : (List Int × List Int × Int × Int × Unit) × Unit × Unit) : Option (((List Int × List Int × Int × Int × Unit) × Unit × Unit) ⊕ (((Bool × Unit) × Unit × Unit) ⊕ ((List Int × Unit) × Unit × Unit))) :=
 let x1 : Bool := decide (x.1.2.2.2.1 < x.1.2.2.1);
 br x1
 (ck (0 ≤ x.1.2.2.2.1)
 (ck (x.1.2.2.2.1.toNat < x.1.2.1.length)
 (let x2 : Int := x.1.2.1.getD x.1.2.2.2.1.toNat 0;
 (spec_l1Fall x.1.1 x2).bind fun r3 =>
 let x4 : Bool := r3.1.1 != x.1.2.2.2.1;
 br x4
 (some (.inr (.inl ((false, ()), (), ()))))
 (let x5 : Int := w64 (x.1.2.2.2.1 + (1 : Int));
 some (.inl ((x.1.1, x.1.2.1, x.1.2.2.1, x5, ()), (), ()))))))
 (some (.inr (.inr ((x.1.1, ()), (), ()))))
def spec_SortsAll_h0 : Sh := ⟨[(0, .c (.rd [] .i64)), (5, .c (.rd [] .i64)), (6, .c (.int .i64)), (7, .c (.int .i64))], [], []⟩
def spec_SortsAll_r0 : List Sh := [⟨[(2, .c (.bool))], [], []⟩, ⟨[(0, .c (.rd [] .i64))], [], []⟩]
noncomputable def spec_SortsAll_L0 : Lp := ⟨0, [], spec_SortsAll_h0, [], [(.ret, []), (.exit 0, [])], spec_SortsAll_r0, loopC spec_SortsAll_s0⟩
noncomputable def spec_SortsAll (a0 : List Int) : Option ((Bool × Unit) × Unit × Unit) :=
 (loopC spec_SortsAll_s0 ((a0, a0, (a0.length : Int), (0 : Int), ()), (), ())).bind fun r6 =>
 sumK r6 (fun y9 =>
 some ((y9.1.1, ()), (), ())) (fun y10 =>
 (spec_IsBar y10.1.1).bind fun r11 =>
 some ((r11.1.1, ()), (), ()))
noncomputable def spec_SortsAll_C : Ctr := ⟨121, spec_SortsAll_arg, spec_SortsAll_res, fun x => spec_SortsAll x.1.1, none⟩
def spec_SortsAll_H : Hint := ⟨[], [], [], fun _ => []⟩
noncomputable def spec_SortsAll_T : List Ctr := [spec_l1Fall_C, spec_IsBar_C]
noncomputable def spec_SortsAll_Ls : List Lp := [spec_SortsAll_L0]
theorem spec_SortsAll_l0 : ∀ x, spec_SortsAll_s0 x = stepW E0 spec_SortsAll_T spec_SortsAll_Ls spec_SortsAll_H (loopAt (bodyOf Tryz.f121) 0) 0 spec_SortsAll_h0 [] [(.ret, []), (.exit 0, [])] spec_SortsAll_r0 x := fun x => by kernel_rfl
theorem spec_SortsAll_e : ∀ x, spec_SortsAll_C.F x = runBodyW E0 spec_SortsAll_T spec_SortsAll_Ls spec_SortsAll_H 121 Tryz.f121.results.toList (bodyOf Tryz.f121) [] (spec_SortsAll_arg.mk' x) spec_SortsAll_res := fun x => by kernel_rfl
theorem spec_SortsAll_ok : spec_SortsAll_C.Ok E0 := fn_ok (T := spec_SortsAll_T) (h := spec_SortsAll_H) (Ls := spec_SortsAll_Ls) E0_mixed (T_cons spec_l1Fall_ok (T_cons spec_IsBar_ok T_nil)) Tryz.func121 (bodyOf_some (by kernel_rfl)) (by kernel_rfl) (loops_of (ks := [0]) (by kernel_rfl) ⟨(loop_one (h := spec_SortsAll_H) (own := []) (head := spec_SortsAll_h0) (back := []) (exs := [(.ret, []), (.exit 0, [])]) (res := spec_SortsAll_r0) (step := spec_SortsAll_s0) (by kernel_rfl) spec_SortsAll_l0), trivial⟩) spec_SortsAll_e
def spec_FontOk_arg : Sh := ⟨[(0, .agg [.str, .rd [] .i64, .rd [] .i64])], [], []⟩
def spec_FontOk_res : List Sh := [⟨[(0, .c (.bool))], [], []⟩]
noncomputable def spec_FontOk_s2 (x : (Unit × Int × Int × Int × Unit × ByteArray × Int × Int × Bool × Unit × List Int × Int × (Int × Unit) × Int × Bool × Bool × Unit) × ((ByteArray × List Int × List Int × Unit) × Unit) × Unit) : Option (((Unit × Int × Int × Int × Unit × ByteArray × Int × Int × Bool × Unit × List Int × Int × (Int × Unit) × Int × Bool × Bool × Unit) × ((ByteArray × List Int × List Int × Unit) × Unit) × Unit) ⊕ (((Bool × Unit) × Unit × Unit) ⊕ ((Unit × Int × Int × Unit × ByteArray × Int × Int × Bool × Unit × List Int × Int × (Int × Unit) × Int × Bool × Bool × Unit) × ((ByteArray × List Int × List Int × Unit) × Unit) × Unit))) :=
 let x11 : Bool := decide (x.1.2.2.2.1 < x.1.2.2.1);
 br x11
 (ck (0 ≤ x.1.2.2.1 ∧ x.1.2.2.1.toNat < x.2.1.1.1.size)
 (let x12 : Int := byteAt x.2.1.1.1 x.1.2.2.1.toNat;
 ck (0 ≤ x.1.2.2.2.1 ∧ x.1.2.2.2.1.toNat < x.2.1.1.1.size)
 (let x13 : Int := byteAt x.2.1.1.1 x.1.2.2.2.1.toNat;
 let x14 : Bool := x12 == x13;
 br x14
 (some (.inr (.inl ((false, ()), (), ()))))
 (let x15 : Int := w64 (x.1.2.2.2.1 + (1 : Int));
 some (.inl (((), x.1.2.1, x.1.2.2.1, x15, (), x.1.2.2.2.2.2.1, x.1.2.2.2.2.2.2.1, x.1.2.2.2.2.2.2.2.1, x.1.2.2.2.2.2.2.2.2.1, (), x.1.2.2.2.2.2.2.2.2.2.2.1, x.1.2.2.2.2.2.2.2.2.2.2.2.1, (x.1.2.2.2.2.2.2.2.2.2.2.2.2.1.1, ()), x.1.2.2.2.2.2.2.2.2.2.2.2.2.2.1, x.1.2.2.2.2.2.2.2.2.2.2.2.2.2.2.1, x.1.2.2.2.2.2.2.2.2.2.2.2.2.2.2.2.1, ()), ((x.2.1.1.1, x.2.1.1.2.1, x.2.1.1.2.2.1, ()), ()), ()))))))
 (some (.inr (.inr (((), x.1.2.1, x.1.2.2.1, (), x.1.2.2.2.2.2.1, x.1.2.2.2.2.2.2.1, x.1.2.2.2.2.2.2.2.1, x.1.2.2.2.2.2.2.2.2.1, (), x.1.2.2.2.2.2.2.2.2.2.2.1, x.1.2.2.2.2.2.2.2.2.2.2.2.1, (x.1.2.2.2.2.2.2.2.2.2.2.2.2.1.1, ()), x.1.2.2.2.2.2.2.2.2.2.2.2.2.2.1, x.1.2.2.2.2.2.2.2.2.2.2.2.2.2.2.1, x.1.2.2.2.2.2.2.2.2.2.2.2.2.2.2.2.1, ()), ((x.2.1.1.1, x.2.1.1.2.1, x.2.1.1.2.2.1, ()), ()), ()))))
def spec_FontOk_h2 : Sh := ⟨[(1, .c (.box 0 0)), (3, .c (.int .i64)), (4, .c (.int .i64)), (5, .c (.int .i64)), (43, .c (.box 0 0)), (44, .c (.str)), (45, .c (.int .i64)), (46, .c (.int .u8)), (47, .c (.bool)), (50, .c (.box 0 1)), (51, .c (.rd [] .i64)), (52, .c (.int .i64)), (53, .c (.rad [] [.int .i64])), (54, .c (.int .i64)), (55, .c (.bool)), (56, .c (.bool))], [(0, .cells [.str, .rd [] .i64, .rd [] .i64])], []⟩
def spec_FontOk_r2 : List Sh := [⟨[(2, .c (.bool))], [], []⟩, ⟨[(1, .c (.box 0 0)), (3, .c (.int .i64)), (4, .c (.int .i64)), (43, .c (.box 0 0)), (44, .c (.str)), (45, .c (.int .i64)), (46, .c (.int .u8)), (47, .c (.bool)), (50, .c (.box 0 1)), (51, .c (.rd [] .i64)), (52, .c (.int .i64)), (53, .c (.rad [] [.int .i64])), (54, .c (.int .i64)), (55, .c (.bool)), (56, .c (.bool))], [(0, .cells [.str, .rd [] .i64, .rd [] .i64])], []⟩]
noncomputable def spec_FontOk_L2 : Lp := ⟨2, [], spec_FontOk_h2, [], [(.ret, []), (.exit 2, [])], spec_FontOk_r2, loopC spec_FontOk_s2⟩
noncomputable def spec_FontOk_s0 (x : (Unit × Int × Int × Unit) × ((ByteArray × List Int × List Int × Unit) × Unit) × Unit) : Option (((Unit × Int × Int × Unit) × ((ByteArray × List Int × List Int × Unit) × Unit) × Unit) ⊕ (((Bool × Unit) × Unit × Unit) ⊕ (Unit × Unit × Unit))) :=
 let x5 : Bool := decide (x.1.2.2.1 < x.1.2.1);
 br x5
 (ck (0 ≤ x.1.2.2.1 ∧ x.1.2.2.1.toNat < x.2.1.1.1.size)
 (let x6 : Int := byteAt x.2.1.1.1 x.1.2.2.1.toNat;
 let x7 : Bool := decide (x6 < (33 : Int));
 br x7
 (some (.inr (.inl ((false, ()), (), ()))))
 (ck (0 ≤ x.1.2.2.1 ∧ x.1.2.2.1.toNat < x.2.1.1.1.size)
 (let x8 : Bool := decide (x6 > (126 : Int));
 br x8
 (some (.inr (.inl ((false, ()), (), ()))))
 (ck (0 ≤ x.1.2.2.1)
 (ck (x.1.2.2.1.toNat < x.2.1.1.2.1.length)
 (let x9 : Int := x.2.1.1.2.1.getD x.1.2.2.1.toNat 0;
 (spec_l1In x9 (1 : Int) (60 : Int)).bind fun r10 =>
 br (!r10.1.1)
 (some (.inr (.inl ((false, ()), (), ()))))
 ((loopC spec_FontOk_s2 (((), x.1.2.1, x.1.2.2.1, (0 : Int), (), x.2.1.1.1, x.1.2.2.1, x6, x8, (), x.2.1.1.2.1, x.1.2.2.1, (x9, ()), x9, r10.1.1, !r10.1.1, ()), ((x.2.1.1.1, x.2.1.1.2.1, x.2.1.1.2.2.1, ()), ()), ())).bind fun r16 =>
 sumK r16 (fun y19 =>
 some (.inr (.inl ((y19.1.1, ()), (), ())))) (fun y20 =>
 let x21 : Int := w64 (y20.1.2.2.1 + (1 : Int));
 some (.inl (((), y20.1.2.1, x21, ()), ((y20.2.1.1.1, y20.2.1.1.2.1, y20.2.1.1.2.2.1, ()), ()), ())))))))))))
 (some (.inr (.inr ((), (), ()))))
def spec_FontOk_h0 : Sh := ⟨[(1, .c (.box 0 0)), (3, .c (.int .i64)), (4, .c (.int .i64))], [(0, .cells [.str, .rd [] .i64, .rd [] .i64])], []⟩
def spec_FontOk_r0 : List Sh := [⟨[(2, .c (.bool))], [], []⟩, ⟨[], [], []⟩]
noncomputable def spec_FontOk_L0 : Lp := ⟨0, [], spec_FontOk_h0, [], [(.ret, []), (.exit 0, [])], spec_FontOk_r0, loopC spec_FontOk_s0⟩
noncomputable def spec_FontOk (a0_0 : ByteArray) (a0_1 : List Int) (a0_2 : List Int) : Option ((Bool × Unit) × Unit × Unit) :=
 (spec_l1In (a0_0.size : Int) (1 : Int) (40 : Int)).bind fun r1 =>
 br (!r1.1.1)
 (some ((false, ()), (), ()))
 (let x2 : Bool := (a0_1.length : Int) != (a0_0.size : Int);
 br x2
 (some ((false, ()), (), ()))
 (let x3 : Bool := (a0_2.length : Int) != (a0_0.size : Int);
 br x3
 (some ((false, ()), (), ()))
 ((spec_SortsAll a0_2).bind fun r4 =>
 br (!r4.1.1)
 (some ((false, ()), (), ()))
 ((loopC spec_FontOk_s0 (((), (a0_0.size : Int), (0 : Int), ()), ((a0_0, a0_1, a0_2, ()), ()), ())).bind fun r22 =>
 sumK r22 (fun y25 =>
 some ((y25.1.1, ()), (), ())) (fun y26 =>
 some ((true, ()), (), ()))))))
noncomputable def spec_FontOk_C : Ctr := ⟨83, spec_FontOk_arg, spec_FontOk_res, fun x => spec_FontOk x.1.1.1 x.1.1.2.1 x.1.1.2.2.1, none⟩
def spec_FontOk_H : Hint := ⟨[], [], [], fun _ => []⟩
noncomputable def spec_FontOk_T : List Ctr := [spec_l1In_C, spec_SortsAll_C]
noncomputable def spec_FontOk_Ls : List Lp := [spec_FontOk_L2, spec_FontOk_L0]
theorem spec_FontOk_l0 : ∀ x, spec_FontOk_s0 x = stepW E0 spec_FontOk_T spec_FontOk_Ls spec_FontOk_H (loopAt (bodyOf Tryz.f83) 0) 0 spec_FontOk_h0 [] [(.ret, []), (.exit 0, [])] spec_FontOk_r0 x := fun x => by kernel_rfl
theorem spec_FontOk_l2 : ∀ x, spec_FontOk_s2 x = stepW E0 spec_FontOk_T spec_FontOk_Ls spec_FontOk_H (loopAt (bodyOf Tryz.f83) 1) 2 spec_FontOk_h2 [] [(.ret, []), (.exit 2, [])] spec_FontOk_r2 x := fun x => by kernel_rfl
theorem spec_FontOk_e : ∀ x, spec_FontOk_C.F x = runBodyW E0 spec_FontOk_T spec_FontOk_Ls spec_FontOk_H 83 Tryz.f83.results.toList (bodyOf Tryz.f83) [] (spec_FontOk_arg.mk' x) spec_FontOk_res := fun x => by kernel_rfl
theorem spec_FontOk_ok : spec_FontOk_C.Ok E0 := fn_ok (T := spec_FontOk_T) (h := spec_FontOk_H) (Ls := spec_FontOk_Ls) E0_mixed (T_cons spec_l1In_ok (T_cons spec_SortsAll_ok T_nil)) Tryz.func83 (bodyOf_some (by kernel_rfl)) (by kernel_rfl) (loops_of (ks := [0, 2]) (by kernel_rfl) ⟨(loop_one (h := spec_FontOk_H) (own := []) (head := spec_FontOk_h0) (back := []) (exs := [(.ret, []), (.exit 0, [])]) (res := spec_FontOk_r0) (step := spec_FontOk_s0) (by kernel_rfl) spec_FontOk_l0), (loop_one (h := spec_FontOk_H) (own := []) (head := spec_FontOk_h2) (back := []) (exs := [(.ret, []), (.exit 2, [])]) (res := spec_FontOk_r2) (step := spec_FontOk_s2) (by kernel_rfl) spec_FontOk_l2), trivial⟩) spec_FontOk_e
def spec_l2Matrix_arg : Sh := ⟨[(0, .agg [.str, .rd [] .i64, .rd [] .i64]), (1, .agg [.int .i64, .int .i64])], [], []⟩
def spec_l2Matrix_res : List Sh := [⟨[(0, .c (.bool))], [], []⟩]
noncomputable def spec_l2Matrix (a0_0 : ByteArray) (a0_1 : List Int) (a0_2 : List Int) (a1_0 : Int) (a1_1 : Int) : Option ((Bool × Unit) × Unit × Unit) :=
 let x1 : Int := w64 ((a0_0.size : Int) - (1 : Int));
 (spec_l1In a1_0 (0 : Int) x1).bind fun r2 =>
 br r2.1.1
 ((spec_l1Set a1_1).bind fun r3 =>
 br r3.1.1
 (ck (0 ≤ a1_0)
 (ck (a1_0.toNat < a0_2.length)
 (let x4 : Int := a0_2.getD a1_0.toNat 0;
 (spec_l1Part a1_1 x4).bind fun r5 =>
 some ((r5.1.1, ()), (), ()))))
 (some ((false, ()), (), ())))
 (some ((false, ()), (), ()))
noncomputable def spec_l2Matrix_C : Ctr := ⟨51, spec_l2Matrix_arg, spec_l2Matrix_res, fun x => spec_l2Matrix x.1.1.1 x.1.1.2.1 x.1.1.2.2.1 x.1.2.1.1 x.1.2.1.2.1, none⟩
def spec_l2Matrix_H : Hint := ⟨[], [], [], fun _ => []⟩
noncomputable def spec_l2Matrix_T : List Ctr := [spec_l1In_C, spec_l1Set_C, spec_l1Part_C]
noncomputable def spec_l2Matrix_Ls : List Lp := []
theorem spec_l2Matrix_e : ∀ x, spec_l2Matrix_C.F x = runBodyW E0 spec_l2Matrix_T spec_l2Matrix_Ls spec_l2Matrix_H 51 Tryz.f51.results.toList (bodyOf Tryz.f51) [] (spec_l2Matrix_arg.mk' x) spec_l2Matrix_res := fun x => by kernel_rfl
theorem spec_l2Matrix_ok : spec_l2Matrix_C.Ok E0 := fn_ok (T := spec_l2Matrix_T) (h := spec_l2Matrix_H) (Ls := spec_l2Matrix_Ls) E0_mixed (T_cons spec_l1In_ok (T_cons spec_l1Set_ok (T_cons spec_l1Part_ok T_nil))) Tryz.func51 (bodyOf_some (by kernel_rfl)) (by kernel_rfl) (loops_of (ks := []) (by kernel_rfl) trivial) spec_l2Matrix_e
def spec_MagazineOk_arg : Sh := ⟨[(0, .agg [.str, .rd [] .i64, .rd [] .i64]), (1, .c (.rd [] .mats))], [], []⟩
def spec_MagazineOk_res : List Sh := [⟨[(0, .c (.bool))], [], []⟩]
noncomputable def spec_MagazineOk_s2 (x : (Unit × List (List (Int × Int)) × Int × Int × List (Int × Int) × Int × Int × Unit) × ((ByteArray × List Int × List Int × Unit) × Unit) × Unit) : Option (((Unit × List (List (Int × Int)) × Int × Int × List (Int × Int) × Int × Int × Unit) × ((ByteArray × List Int × List Int × Unit) × Unit) × Unit) ⊕ (((Bool × Unit) × Unit × Unit) ⊕ ((Unit × List (List (Int × Int)) × Int × Int × Unit) × ((ByteArray × List Int × List Int × Unit) × Unit) × Unit))) :=
 let x6 : Bool := decide (x.1.2.2.2.2.2.2.1 < x.1.2.2.2.2.2.1);
 br x6
 (ck (0 ≤ x.1.2.2.2.2.2.2.1)
 (ck (x.1.2.2.2.2.2.2.1.toNat < x.1.2.2.2.2.1.length)
 (let x7 : Int × Int := x.1.2.2.2.2.1.getD x.1.2.2.2.2.2.2.1.toNat (0, 0);
 (spec_l2Matrix x.2.1.1.1 x.2.1.1.2.1 x.2.1.1.2.2.1 x7.1 x7.2).bind fun r8 =>
 br (!r8.1.1)
 (some (.inr (.inl ((false, ()), (), ()))))
 (let x9 : Int := w64 (x.1.2.2.2.2.2.2.1 + (1 : Int));
 some (.inl (((), x.1.2.1, x.1.2.2.1, x.1.2.2.2.1, x.1.2.2.2.2.1, x.1.2.2.2.2.2.1, x9, ()), ((x.2.1.1.1, x.2.1.1.2.1, x.2.1.1.2.2.1, ()), ()), ()))))))
 (some (.inr (.inr (((), x.1.2.1, x.1.2.2.1, x.1.2.2.2.1, ()), ((x.2.1.1.1, x.2.1.1.2.1, x.2.1.1.2.2.1, ()), ()), ()))))
def spec_MagazineOk_h2 : Sh := ⟨[(2, .c (.box 0 0)), (20, .c (.rd [] .mats)), (21, .c (.int .i64)), (22, .c (.int .i64)), (29, .c (.rd [] .mat)), (30, .c (.int .i64)), (31, .c (.int .i64))], [(0, .cells [.str, .rd [] .i64, .rd [] .i64])], []⟩
def spec_MagazineOk_r2 : List Sh := [⟨[(4, .c (.bool))], [], []⟩, ⟨[(2, .c (.box 0 0)), (20, .c (.rd [] .mats)), (21, .c (.int .i64)), (22, .c (.int .i64))], [(0, .cells [.str, .rd [] .i64, .rd [] .i64])], []⟩]
noncomputable def spec_MagazineOk_L2 : Lp := ⟨2, [], spec_MagazineOk_h2, [], [(.ret, []), (.exit 2, [])], spec_MagazineOk_r2, loopC spec_MagazineOk_s2⟩
noncomputable def spec_MagazineOk_s0 (x : (Unit × List (List (Int × Int)) × Int × Int × Unit) × ((ByteArray × List Int × List Int × Unit) × Unit) × Unit) : Option (((Unit × List (List (Int × Int)) × Int × Int × Unit) × ((ByteArray × List Int × List Int × Unit) × Unit) × Unit) ⊕ (((Bool × Unit) × Unit × Unit) ⊕ (Unit × Unit × Unit))) :=
 let x3 : Bool := decide (x.1.2.2.2.1 < x.1.2.2.1);
 br x3
 (ck (0 ≤ x.1.2.2.2.1)
 (ck (x.1.2.2.2.1.toNat < x.1.2.1.length)
 (let x4 : List (Int × Int) := x.1.2.1.getD x.1.2.2.2.1.toNat [];
 let x5 : Bool := decide ((x4.length : Int) > (20 : Int));
 br x5
 (some (.inr (.inl ((false, ()), (), ()))))
 ((loopC spec_MagazineOk_s2 (((), x.1.2.1, x.1.2.2.1, x.1.2.2.2.1, x4, (x4.length : Int), (0 : Int), ()), ((x.2.1.1.1, x.2.1.1.2.1, x.2.1.1.2.2.1, ()), ()), ())).bind fun r10 =>
 sumK r10 (fun y13 =>
 some (.inr (.inl ((y13.1.1, ()), (), ())))) (fun y14 =>
 let x15 : Int := w64 (y14.1.2.2.2.1 + (1 : Int));
 some (.inl (((), y14.1.2.1, y14.1.2.2.1, x15, ()), ((y14.2.1.1.1, y14.2.1.1.2.1, y14.2.1.1.2.2.1, ()), ()), ())))))))
 (some (.inr (.inr ((), (), ()))))
def spec_MagazineOk_h0 : Sh := ⟨[(2, .c (.box 0 0)), (20, .c (.rd [] .mats)), (21, .c (.int .i64)), (22, .c (.int .i64))], [(0, .cells [.str, .rd [] .i64, .rd [] .i64])], []⟩
def spec_MagazineOk_r0 : List Sh := [⟨[(4, .c (.bool))], [], []⟩, ⟨[], [], []⟩]
noncomputable def spec_MagazineOk_L0 : Lp := ⟨0, [], spec_MagazineOk_h0, [], [(.ret, []), (.exit 0, [])], spec_MagazineOk_r0, loopC spec_MagazineOk_s0⟩
noncomputable def spec_MagazineOk (a0_0 : ByteArray) (a0_1 : List Int) (a0_2 : List Int) (a1 : List (List (Int × Int))) : Option ((Bool × Unit) × Unit × Unit) :=
 (spec_FontOk a0_0 a0_1 a0_2).bind fun r1 =>
 br (!r1.1.1)
 (some ((false, ()), (), ()))
 (let x2 : Bool := (a1.length : Int) != (a0_0.size : Int);
 br x2
 (some ((false, ()), (), ()))
 ((loopC spec_MagazineOk_s0 (((), a1, (a1.length : Int), (0 : Int), ()), ((a0_0, a0_1, a0_2, ()), ()), ())).bind fun r16 =>
 sumK r16 (fun y19 =>
 some ((y19.1.1, ()), (), ())) (fun y20 =>
 some ((true, ()), (), ()))))
noncomputable def spec_MagazineOk_C : Ctr := ⟨48, spec_MagazineOk_arg, spec_MagazineOk_res, fun x => spec_MagazineOk x.1.1.1 x.1.1.2.1 x.1.1.2.2.1 x.1.2.1, none⟩
def spec_MagazineOk_H : Hint := ⟨[], [], [], fun _ => []⟩
noncomputable def spec_MagazineOk_T : List Ctr := [spec_FontOk_C, spec_l2Matrix_C]
noncomputable def spec_MagazineOk_Ls : List Lp := [spec_MagazineOk_L2, spec_MagazineOk_L0]
theorem spec_MagazineOk_l0 : ∀ x, spec_MagazineOk_s0 x = stepW E0 spec_MagazineOk_T spec_MagazineOk_Ls spec_MagazineOk_H (loopAt (bodyOf Tryz.f48) 0) 0 spec_MagazineOk_h0 [] [(.ret, []), (.exit 0, [])] spec_MagazineOk_r0 x := fun x => by kernel_rfl
theorem spec_MagazineOk_l2 : ∀ x, spec_MagazineOk_s2 x = stepW E0 spec_MagazineOk_T spec_MagazineOk_Ls spec_MagazineOk_H (loopAt (bodyOf Tryz.f48) 1) 2 spec_MagazineOk_h2 [] [(.ret, []), (.exit 2, [])] spec_MagazineOk_r2 x := fun x => by kernel_rfl
theorem spec_MagazineOk_e : ∀ x, spec_MagazineOk_C.F x = runBodyW E0 spec_MagazineOk_T spec_MagazineOk_Ls spec_MagazineOk_H 48 Tryz.f48.results.toList (bodyOf Tryz.f48) [] (spec_MagazineOk_arg.mk' x) spec_MagazineOk_res := fun x => by kernel_rfl
theorem spec_MagazineOk_ok : spec_MagazineOk_C.Ok E0 := fn_ok (T := spec_MagazineOk_T) (h := spec_MagazineOk_H) (Ls := spec_MagazineOk_Ls) E0_mixed (T_cons spec_FontOk_ok (T_cons spec_l2Matrix_ok T_nil)) Tryz.func48 (bodyOf_some (by kernel_rfl)) (by kernel_rfl) (loops_of (ks := [0, 2]) (by kernel_rfl) ⟨(loop_one (h := spec_MagazineOk_H) (own := []) (head := spec_MagazineOk_h0) (back := []) (exs := [(.ret, []), (.exit 0, [])]) (res := spec_MagazineOk_r0) (step := spec_MagazineOk_s0) (by kernel_rfl) spec_MagazineOk_l0), (loop_one (h := spec_MagazineOk_H) (own := []) (head := spec_MagazineOk_h2) (back := []) (exs := [(.ret, []), (.exit 2, [])]) (res := spec_MagazineOk_r2) (step := spec_MagazineOk_s2) (by kernel_rfl) spec_MagazineOk_l2), trivial⟩) spec_MagazineOk_e
def spec_MeasureOk_arg : Sh := ⟨[(0, .agg [.int .i64, .int .i64, .int .i64])], [], []⟩
def spec_MeasureOk_res : List Sh := [⟨[(0, .c (.bool))], [], []⟩]
noncomputable def spec_MeasureOk (a0_0 : Int) (a0_1 : Int) (a0_2 : Int) : Option ((Bool × Unit) × Unit × Unit) :=
 (spec_l1In a0_0 (1 : Int) (2000 : Int)).bind fun r1 =>
 br r1.1.1
 ((spec_l1In a0_1 (1 : Int) (100 : Int)).bind fun r2 =>
 br r2.1.1
 ((spec_l1In a0_2 a0_1 (100 : Int)).bind fun r3 =>
 some ((r3.1.1, ()), (), ()))
 (some ((false, ()), (), ())))
 (some ((false, ()), (), ()))
noncomputable def spec_MeasureOk_C : Ctr := ⟨50, spec_MeasureOk_arg, spec_MeasureOk_res, fun x => spec_MeasureOk x.1.1.1 x.1.1.2.1 x.1.1.2.2.1, none⟩
def spec_MeasureOk_H : Hint := ⟨[], [], [], fun _ => []⟩
noncomputable def spec_MeasureOk_T : List Ctr := [spec_l1In_C]
noncomputable def spec_MeasureOk_Ls : List Lp := []
theorem spec_MeasureOk_e : ∀ x, spec_MeasureOk_C.F x = runBodyW E0 spec_MeasureOk_T spec_MeasureOk_Ls spec_MeasureOk_H 50 Tryz.f50.results.toList (bodyOf Tryz.f50) [] (spec_MeasureOk_arg.mk' x) spec_MeasureOk_res := fun x => by kernel_rfl
theorem spec_MeasureOk_ok : spec_MeasureOk_C.Ok E0 := fn_ok (T := spec_MeasureOk_T) (h := spec_MeasureOk_H) (Ls := spec_MeasureOk_Ls) E0_mixed (T_cons spec_l1In_ok T_nil) Tryz.func50 (bodyOf_some (by kernel_rfl)) (by kernel_rfl) (loops_of (ks := []) (by kernel_rfl) trivial) spec_MeasureOk_e
def spec_l5Items_arg : Sh := ⟨[(0, .agg [.str, .rd [] .i64, .rd [] .i64]), (1, .c (.rd [] .mat))], [], []⟩
def spec_l5Items_res : List Sh := [⟨[(0, .c (.own 0))], [], [(0, .i64)]⟩]
noncomputable def spec_l5Items_s0 (x : (Unit × Unit × List (Int × Int) × Int × Int × Unit) × ((ByteArray × List Int × List Int × Unit) × Unit) × (List Int × Unit)) : Option (((Unit × Unit × List (Int × Int) × Int × Int × Unit) × ((ByteArray × List Int × List Int × Unit) × Unit) × (List Int × Unit)) ⊕ ((Unit × Unit) × Unit × (List Int × Unit))) :=
 let x1 : Bool := decide (x.1.2.2.2.2.1 < x.1.2.2.2.1);
 br x1
 (ck (0 ≤ x.1.2.2.2.2.1)
 (ck (x.1.2.2.2.2.1.toNat < x.1.2.2.1.length)
 (let x2 : Int × Int := x.1.2.2.1.getD x.1.2.2.2.2.1.toNat (0, 0);
 let x3 : Bool := decide (x2.1 < (0 : Int));
 br x3
 (ck ((x.2.2.1.length + [(0 : Int)].length) * 8 ≤ 140737488355328 ∧ (x.2.2.1.length + [(0 : Int)].length) ≤ 9223372036854775807)
 (let x4 : List Int := x.2.2.1 ++ [(0 : Int)];
 let x5 : Int := w64 (x.1.2.2.2.2.1 + (1 : Int));
 some (.inl (((), (), x.1.2.2.1, x.1.2.2.2.1, x5, ()), ((x.2.1.1.1, x.2.1.1.2.1, x.2.1.1.2.2.1, ()), ()), (x4, ())))))
 (ck (0 ≤ x2.1)
 (ck (x2.1.toNat < x.2.1.1.2.1.length)
 (let x6 : Int := x.2.1.1.2.1.getD x2.1.toNat 0;
 ck ((x.2.2.1.length + [x6].length) * 8 ≤ 140737488355328 ∧ (x.2.2.1.length + [x6].length) ≤ 9223372036854775807)
 (let x7 : List Int := x.2.2.1 ++ [x6];
 let x8 : Int := w64 (x.1.2.2.2.2.1 + (1 : Int));
 some (.inl (((), (), x.1.2.2.1, x.1.2.2.2.1, x8, ()), ((x.2.1.1.1, x.2.1.1.2.1, x.2.1.1.2.2.1, ()), ()), (x7, ()))))))))))
 (some (.inr (((), ()), (), (x.2.2.1, ()))))
def spec_l5Items_h0 : Sh := ⟨[(2, .c (.box 0 0)), (5, .c (.own 0)), (9, .c (.rd [] .mat)), (10, .c (.int .i64)), (11, .c (.int .i64))], [(0, .cells [.str, .rd [] .i64, .rd [] .i64])], [(0, .i64)]⟩
def spec_l5Items_r0 : List Sh := [⟨[(5, .c (.own 0))], [], [(0, .i64)]⟩]
noncomputable def spec_l5Items_L0 : Lp := ⟨0, [], spec_l5Items_h0, [], [(.exit 0, [])], spec_l5Items_r0, loopC spec_l5Items_s0⟩
noncomputable def spec_l5Items (a0_0 : ByteArray) (a0_1 : List Int) (a0_2 : List Int) (a1 : List (Int × Int)) : Option ((Unit × Unit) × Unit × (List Int × Unit)) :=
 (loopC spec_l5Items_s0 (((), (), a1, (a1.length : Int), (0 : Int), ()), ((a0_0, a0_1, a0_2, ()), ()), ([], ()))).bind fun r9 =>
 some (((), ()), (), (r9.2.2.1, ()))
noncomputable def spec_l5Items_C : Ctr := ⟨53, spec_l5Items_arg, spec_l5Items_res, fun x => spec_l5Items x.1.1.1 x.1.1.2.1 x.1.1.2.2.1 x.1.2.1, none⟩
def spec_l5Items_H : Hint := ⟨[], [], [], fun _ => []⟩
noncomputable def spec_l5Items_T : List Ctr := []
noncomputable def spec_l5Items_Ls : List Lp := [spec_l5Items_L0]
theorem spec_l5Items_l0 : ∀ x, spec_l5Items_s0 x = stepW E0 spec_l5Items_T spec_l5Items_Ls spec_l5Items_H (loopAt (bodyOf Tryz.f53) 0) 0 spec_l5Items_h0 [] [(.exit 0, [])] spec_l5Items_r0 x := fun x => by kernel_rfl
theorem spec_l5Items_e : ∀ x, spec_l5Items_C.F x = runBodyW E0 spec_l5Items_T spec_l5Items_Ls spec_l5Items_H 53 Tryz.f53.results.toList (bodyOf Tryz.f53) [] (spec_l5Items_arg.mk' x) spec_l5Items_res := fun x => by kernel_rfl
theorem spec_l5Items_ok : spec_l5Items_C.Ok E0 := fn_ok (T := spec_l5Items_T) (h := spec_l5Items_H) (Ls := spec_l5Items_Ls) E0_mixed T_nil Tryz.func53 (bodyOf_some (by kernel_rfl)) (by kernel_rfl) (loops_of (ks := [0]) (by kernel_rfl) ⟨(loop_one (h := spec_l5Items_H) (own := []) (head := spec_l5Items_h0) (back := []) (exs := [(.exit 0, [])]) (res := spec_l5Items_r0) (step := spec_l5Items_s0) (by kernel_rfl) spec_l5Items_l0), trivial⟩) spec_l5Items_e
def spec_l3Sum_arg : Sh := ⟨[(0, .c (.rd [] .i64))], [], []⟩
def spec_l3Sum_res : List Sh := [⟨[(0, .c (.int .i64)), (1, .c (.int .i64))], [], []⟩]
noncomputable def spec_l3Sum_s0 (x : (Int × Int × List Int × Int × Int × Unit) × Unit × Unit) : Option (((Int × Int × List Int × Int × Int × Unit) × Unit × Unit) ⊕ ((Int × Int × Unit) × Unit × Unit)) :=
 let x1 : Bool := decide (x.1.2.2.2.2.1 < x.1.2.2.2.1);
 br x1
 (ck (0 ≤ x.1.2.2.2.2.1)
 (ck (x.1.2.2.2.2.1.toNat < x.1.2.2.1.length)
 (let x2 : Int := x.1.2.2.1.getD x.1.2.2.2.2.1.toNat 0;
 let x3 : Int := w64 (x.1.1 + x2);
 let x4 : Bool := x2 == (0 : Int);
 br x4
 (let x5 : Int := w64 (x.1.2.1 + (1 : Int));
 let x6 : Int := w64 (x.1.2.2.2.2.1 + (1 : Int));
 some (.inl ((x3, x5, x.1.2.2.1, x.1.2.2.2.1, x6, ()), (), ())))
 (let x7 : Int := w64 (x.1.2.2.2.2.1 + (1 : Int));
 some (.inl ((x3, x.1.2.1, x.1.2.2.1, x.1.2.2.2.1, x7, ()), (), ()))))))
 (some (.inr ((x.1.1, x.1.2.1, ()), (), ())))
def spec_l3Sum_h0 : Sh := ⟨[(4, .c (.int .i64)), (5, .c (.int .i64)), (8, .c (.rd [] .i64)), (9, .c (.int .i64)), (10, .c (.int .i64))], [], []⟩
def spec_l3Sum_r0 : List Sh := [⟨[(4, .c (.int .i64)), (5, .c (.int .i64))], [], []⟩]
noncomputable def spec_l3Sum_L0 : Lp := ⟨0, [], spec_l3Sum_h0, [], [(.exit 0, [])], spec_l3Sum_r0, loopC spec_l3Sum_s0⟩
noncomputable def spec_l3Sum (a0 : List Int) : Option ((Int × Int × Unit) × Unit × Unit) :=
 (loopC spec_l3Sum_s0 (((0 : Int), (0 : Int), a0, (a0.length : Int), (0 : Int), ()), (), ())).bind fun r8 =>
 some ((r8.1.1, r8.1.2.1, ()), (), ())
noncomputable def spec_l3Sum_C : Ctr := ⟨86, spec_l3Sum_arg, spec_l3Sum_res, fun x => spec_l3Sum x.1.1, none⟩
def spec_l3Sum_H : Hint := ⟨[], [], [], fun _ => []⟩
noncomputable def spec_l3Sum_T : List Ctr := []
noncomputable def spec_l3Sum_Ls : List Lp := [spec_l3Sum_L0]
theorem spec_l3Sum_l0 : ∀ x, spec_l3Sum_s0 x = stepW E0 spec_l3Sum_T spec_l3Sum_Ls spec_l3Sum_H (loopAt (bodyOf Tryz.f86) 0) 0 spec_l3Sum_h0 [] [(.exit 0, [])] spec_l3Sum_r0 x := fun x => by kernel_rfl
theorem spec_l3Sum_e : ∀ x, spec_l3Sum_C.F x = runBodyW E0 spec_l3Sum_T spec_l3Sum_Ls spec_l3Sum_H 86 Tryz.f86.results.toList (bodyOf Tryz.f86) [] (spec_l3Sum_arg.mk' x) spec_l3Sum_res := fun x => by kernel_rfl
theorem spec_l3Sum_ok : spec_l3Sum_C.Ok E0 := fn_ok (T := spec_l3Sum_T) (h := spec_l3Sum_H) (Ls := spec_l3Sum_Ls) E0_mixed T_nil Tryz.func86 (bodyOf_some (by kernel_rfl)) (by kernel_rfl) (loops_of (ks := [0]) (by kernel_rfl) ⟨(loop_one (h := spec_l3Sum_H) (own := []) (head := spec_l3Sum_h0) (back := []) (exs := [(.exit 0, [])]) (res := spec_l3Sum_r0) (step := spec_l3Sum_s0) (by kernel_rfl) spec_l3Sum_l0), trivial⟩) spec_l3Sum_e
def spec_LineOk_arg : Sh := ⟨[(0, .c (.rd [] .i64))], [], []⟩
def spec_LineOk_res : List Sh := [⟨[(0, .c (.bool))], [], []⟩]
noncomputable def spec_LineOk_s0 (x : (List Int × List Int × Int × Int × Unit) × Unit × Unit) : Option (((List Int × List Int × Int × Int × Unit) × Unit × Unit) ⊕ (((Bool × Unit) × Unit × Unit) ⊕ ((List Int × Unit) × Unit × Unit))) :=
 let x1 : Bool := decide (x.1.2.2.2.1 < x.1.2.2.1);
 br x1
 (ck (0 ≤ x.1.2.2.2.1)
 (ck (x.1.2.2.2.1.toNat < x.1.2.1.length)
 (let x2 : Int := x.1.2.1.getD x.1.2.2.2.1.toNat 0;
 (spec_l1In x2 (0 : Int) (60 : Int)).bind fun r3 =>
 br (!r3.1.1)
 (some (.inr (.inl ((false, ()), (), ()))))
 (let x4 : Int := w64 (x.1.2.2.2.1 + (1 : Int));
 some (.inl ((x.1.1, x.1.2.1, x.1.2.2.1, x4, ()), (), ()))))))
 (some (.inr (.inr ((x.1.1, ()), (), ()))))
def spec_LineOk_h0 : Sh := ⟨[(0, .c (.rd [] .i64)), (5, .c (.rd [] .i64)), (6, .c (.int .i64)), (7, .c (.int .i64))], [], []⟩
def spec_LineOk_r0 : List Sh := [⟨[(2, .c (.bool))], [], []⟩, ⟨[(0, .c (.rd [] .i64))], [], []⟩]
noncomputable def spec_LineOk_L0 : Lp := ⟨0, [], spec_LineOk_h0, [], [(.ret, []), (.exit 0, [])], spec_LineOk_r0, loopC spec_LineOk_s0⟩
noncomputable def spec_LineOk (a0 : List Int) : Option ((Bool × Unit) × Unit × Unit) :=
 (loopC spec_LineOk_s0 ((a0, a0, (a0.length : Int), (0 : Int), ()), (), ())).bind fun r5 =>
 sumK r5 (fun y8 =>
 some ((y8.1.1, ()), (), ())) (fun y9 =>
 let x10 : Bool := decide ((y9.1.1.length : Int) ≤ (120 : Int));
 some ((x10, ()), (), ()))
noncomputable def spec_LineOk_C : Ctr := ⟨87, spec_LineOk_arg, spec_LineOk_res, fun x => spec_LineOk x.1.1, none⟩
def spec_LineOk_H : Hint := ⟨[], [], [], fun _ => []⟩
noncomputable def spec_LineOk_T : List Ctr := [spec_l1In_C]
noncomputable def spec_LineOk_Ls : List Lp := [spec_LineOk_L0]
theorem spec_LineOk_l0 : ∀ x, spec_LineOk_s0 x = stepW E0 spec_LineOk_T spec_LineOk_Ls spec_LineOk_H (loopAt (bodyOf Tryz.f87) 0) 0 spec_LineOk_h0 [] [(.ret, []), (.exit 0, [])] spec_LineOk_r0 x := fun x => by kernel_rfl
theorem spec_LineOk_e : ∀ x, spec_LineOk_C.F x = runBodyW E0 spec_LineOk_T spec_LineOk_Ls spec_LineOk_H 87 Tryz.f87.results.toList (bodyOf Tryz.f87) [] (spec_LineOk_arg.mk' x) spec_LineOk_res := fun x => by kernel_rfl
theorem spec_LineOk_ok : spec_LineOk_C.Ok E0 := fn_ok (T := spec_LineOk_T) (h := spec_LineOk_H) (Ls := spec_LineOk_Ls) E0_mixed (T_cons spec_l1In_ok T_nil) Tryz.func87 (bodyOf_some (by kernel_rfl)) (by kernel_rfl) (loops_of (ks := [0]) (by kernel_rfl) ⟨(loop_one (h := spec_LineOk_H) (own := []) (head := spec_LineOk_h0) (back := []) (exs := [(.ret, []), (.exit 0, [])]) (res := spec_LineOk_r0) (step := spec_LineOk_s0) (by kernel_rfl) spec_LineOk_l0), trivial⟩) spec_LineOk_e
def spec_l3Fits_arg : Sh := ⟨[(0, .agg [.int .i64, .int .i64, .int .i64]), (1, .c (.rd [] .i64))], [], []⟩
def spec_l3Fits_res : List Sh := [⟨[(0, .c (.bool))], [], []⟩]
noncomputable def spec_l3Fits (a0_0 : Int) (a0_1 : Int) (a0_2 : Int) (a1 : List Int) : Option ((Bool × Unit) × Unit × Unit) :=
 (spec_l3Sum a1).bind fun r1 =>
 (spec_LineOk a1).bind fun r2 =>
 br r2.1.1
 (let x3 : Int := w64 (r1.1.2.1 * a0_1);
 let x4 : Int := w64 (r1.1.1 + x3);
 let x5 : Bool := decide (x4 ≤ a0_0);
 some ((x5, ()), (), ()))
 (some ((false, ()), (), ()))
noncomputable def spec_l3Fits_C : Ctr := ⟨52, spec_l3Fits_arg, spec_l3Fits_res, fun x => spec_l3Fits x.1.1.1 x.1.1.2.1 x.1.1.2.2.1 x.1.2.1, none⟩
def spec_l3Fits_H : Hint := ⟨[], [], [], fun _ => []⟩
noncomputable def spec_l3Fits_T : List Ctr := [spec_l3Sum_C, spec_LineOk_C]
noncomputable def spec_l3Fits_Ls : List Lp := []
theorem spec_l3Fits_e : ∀ x, spec_l3Fits_C.F x = runBodyW E0 spec_l3Fits_T spec_l3Fits_Ls spec_l3Fits_H 52 Tryz.f52.results.toList (bodyOf Tryz.f52) [] (spec_l3Fits_arg.mk' x) spec_l3Fits_res := fun x => by kernel_rfl
theorem spec_l3Fits_ok : spec_l3Fits_C.Ok E0 := fn_ok (T := spec_l3Fits_T) (h := spec_l3Fits_H) (Ls := spec_l3Fits_Ls) E0_mixed (T_cons spec_l3Sum_ok (T_cons spec_LineOk_ok T_nil)) Tryz.func52 (bodyOf_some (by kernel_rfl)) (by kernel_rfl) (loops_of (ks := []) (by kernel_rfl) trivial) spec_l3Fits_e
def spec_MachineOk_arg : Sh := ⟨[(0, .agg [.str, .rd [] .i64, .rd [] .i64, .rd [] .mats, .int .i64, .int .i64, .int .i64, .int .i64, .rd [] .mat, .rd [] .mat])], [], []⟩
def spec_MachineOk_res : List Sh := [⟨[(0, .c (.bool))], [], []⟩]
noncomputable def spec_MachineOk_s0 (x : (Unit × List (Int × Int) × Int × Int × Unit) × ((ByteArray × List Int × List Int × List (List (Int × Int)) × Int × Int × Int × Int × List (Int × Int) × List (Int × Int) × Unit) × Unit) × Unit) : Option (((Unit × List (Int × Int) × Int × Int × Unit) × ((ByteArray × List Int × List Int × List (List (Int × Int)) × Int × Int × Int × Int × List (Int × Int) × List (Int × Int) × Unit) × Unit) × Unit) ⊕ (((Bool × Unit) × Unit × Unit) ⊕ ((Unit × Unit) × ((ByteArray × List Int × List Int × List (List (Int × Int)) × Int × Int × Int × Int × List (Int × Int) × List (Int × Int) × Unit) × Unit) × Unit))) :=
 let x5 : Bool := decide (x.1.2.2.2.1 < x.1.2.2.1);
 br x5
 (ck (0 ≤ x.1.2.2.2.1)
 (ck (x.1.2.2.2.1.toNat < x.1.2.1.length)
 (let x6 : Int × Int := x.1.2.1.getD x.1.2.2.2.1.toNat (0, 0);
 (spec_l2Matrix x.2.1.1.1 x.2.1.1.2.1 x.2.1.1.2.2.1 x6.1 x6.2).bind fun r7 =>
 br (!r7.1.1)
 (let x8 : Bool := x6.1 != (-1 : Int);
 br x8
 (some (.inr (.inl ((false, ()), (), ()))))
 (let x9 : Bool := x6.2 != (0 : Int);
 br x9
 (some (.inr (.inl ((false, ()), (), ()))))
 (let x10 : Int := w64 (x.1.2.2.2.1 + (1 : Int));
 some (.inl (((), x.1.2.1, x.1.2.2.1, x10, ()), ((x.2.1.1.1, x.2.1.1.2.1, x.2.1.1.2.2.1, x.2.1.1.2.2.2.1, x.2.1.1.2.2.2.2.1, x.2.1.1.2.2.2.2.2.1, x.2.1.1.2.2.2.2.2.2.1, x.2.1.1.2.2.2.2.2.2.2.1, x.2.1.1.2.2.2.2.2.2.2.2.1, x.2.1.1.2.2.2.2.2.2.2.2.2.1, ()), ()), ())))))
 (let x11 : Int := w64 (x.1.2.2.2.1 + (1 : Int));
 some (.inl (((), x.1.2.1, x.1.2.2.1, x11, ()), ((x.2.1.1.1, x.2.1.1.2.1, x.2.1.1.2.2.1, x.2.1.1.2.2.2.1, x.2.1.1.2.2.2.2.1, x.2.1.1.2.2.2.2.2.1, x.2.1.1.2.2.2.2.2.2.1, x.2.1.1.2.2.2.2.2.2.2.1, x.2.1.1.2.2.2.2.2.2.2.2.1, x.2.1.1.2.2.2.2.2.2.2.2.2.1, ()), ()), ()))))))
 (some (.inr (.inr (((), ()), ((x.2.1.1.1, x.2.1.1.2.1, x.2.1.1.2.2.1, x.2.1.1.2.2.2.1, x.2.1.1.2.2.2.2.1, x.2.1.1.2.2.2.2.2.1, x.2.1.1.2.2.2.2.2.2.1, x.2.1.1.2.2.2.2.2.2.2.1, x.2.1.1.2.2.2.2.2.2.2.2.1, x.2.1.1.2.2.2.2.2.2.2.2.2.1, ()), ()), ()))))
def spec_MachineOk_h0 : Sh := ⟨[(1, .c (.box 0 0)), (32, .c (.rd [] .mat)), (33, .c (.int .i64)), (34, .c (.int .i64))], [(0, .cells [.str, .rd [] .i64, .rd [] .i64, .rd [] .mats, .int .i64, .int .i64, .int .i64, .int .i64, .rd [] .mat, .rd [] .mat])], []⟩
def spec_MachineOk_r0 : List Sh := [⟨[(2, .c (.bool))], [], []⟩, ⟨[(1, .c (.box 0 0))], [(0, .cells [.str, .rd [] .i64, .rd [] .i64, .rd [] .mats, .int .i64, .int .i64, .int .i64, .int .i64, .rd [] .mat, .rd [] .mat])], []⟩]
noncomputable def spec_MachineOk_L0 : Lp := ⟨0, [], spec_MachineOk_h0, [], [(.ret, []), (.exit 0, [])], spec_MachineOk_r0, loopC spec_MachineOk_s0⟩
noncomputable def spec_MachineOk_s2 (x : (Unit × List (Int × Int) × Int × Int × Unit) × ((ByteArray × List Int × List Int × List (List (Int × Int)) × Int × Int × Int × Int × List (Int × Int) × List (Int × Int) × Unit) × Unit) × Unit) : Option (((Unit × List (Int × Int) × Int × Int × Unit) × ((ByteArray × List Int × List Int × List (List (Int × Int)) × Int × Int × Int × Int × List (Int × Int) × List (Int × Int) × Unit) × Unit) × Unit) ⊕ (((Bool × Unit) × Unit × Unit) ⊕ ((Unit × Unit) × ((ByteArray × List Int × List Int × List (List (Int × Int)) × Int × Int × Int × Int × List (Int × Int) × List (Int × Int) × Unit) × Unit) × Unit))) :=
 let x17 : Bool := decide (x.1.2.2.2.1 < x.1.2.2.1);
 br x17
 (ck (0 ≤ x.1.2.2.2.1)
 (ck (x.1.2.2.2.1.toNat < x.1.2.1.length)
 (let x18 : Int × Int := x.1.2.1.getD x.1.2.2.2.1.toNat (0, 0);
 (spec_l2Matrix x.2.1.1.1 x.2.1.1.2.1 x.2.1.1.2.2.1 x18.1 x18.2).bind fun r19 =>
 br (!r19.1.1)
 (some (.inr (.inl ((false, ()), (), ()))))
 (let x20 : Int := w64 (x.1.2.2.2.1 + (1 : Int));
 some (.inl (((), x.1.2.1, x.1.2.2.1, x20, ()), ((x.2.1.1.1, x.2.1.1.2.1, x.2.1.1.2.2.1, x.2.1.1.2.2.2.1, x.2.1.1.2.2.2.2.1, x.2.1.1.2.2.2.2.2.1, x.2.1.1.2.2.2.2.2.2.1, x.2.1.1.2.2.2.2.2.2.2.1, x.2.1.1.2.2.2.2.2.2.2.2.1, x.2.1.1.2.2.2.2.2.2.2.2.2.1, ()), ()), ()))))))
 (some (.inr (.inr (((), ()), ((x.2.1.1.1, x.2.1.1.2.1, x.2.1.1.2.2.1, x.2.1.1.2.2.2.1, x.2.1.1.2.2.2.2.1, x.2.1.1.2.2.2.2.2.1, x.2.1.1.2.2.2.2.2.2.1, x.2.1.1.2.2.2.2.2.2.2.1, x.2.1.1.2.2.2.2.2.2.2.2.1, x.2.1.1.2.2.2.2.2.2.2.2.2.1, ()), ()), ()))))
def spec_MachineOk_h2 : Sh := ⟨[(1, .c (.box 0 0)), (55, .c (.rd [] .mat)), (56, .c (.int .i64)), (57, .c (.int .i64))], [(0, .cells [.str, .rd [] .i64, .rd [] .i64, .rd [] .mats, .int .i64, .int .i64, .int .i64, .int .i64, .rd [] .mat, .rd [] .mat])], []⟩
def spec_MachineOk_r2 : List Sh := [⟨[(2, .c (.bool))], [], []⟩, ⟨[(1, .c (.box 0 0))], [(0, .cells [.str, .rd [] .i64, .rd [] .i64, .rd [] .mats, .int .i64, .int .i64, .int .i64, .int .i64, .rd [] .mat, .rd [] .mat])], []⟩]
noncomputable def spec_MachineOk_L2 : Lp := ⟨2, [], spec_MachineOk_h2, [], [(.ret, []), (.exit 2, [])], spec_MachineOk_r2, loopC spec_MachineOk_s2⟩
noncomputable def spec_MachineOk (a0_0 : ByteArray) (a0_1 : List Int) (a0_2 : List Int) (a0_3 : List (List (Int × Int))) (a0_4 : Int) (a0_5 : Int) (a0_6 : Int) (a0_7 : Int) (a0_8 : List (Int × Int)) (a0_9 : List (Int × Int)) : Option ((Bool × Unit) × Unit × Unit) :=
 (spec_MagazineOk a0_0 a0_1 a0_2 a0_3).bind fun r1 =>
 br (!r1.1.1)
 (some ((false, ()), (), ()))
 ((spec_l1In a0_4 (0 : Int) (60 : Int)).bind fun r2 =>
 br (!r2.1.1)
 (some ((false, ()), (), ()))
 ((spec_MeasureOk a0_5 a0_6 a0_7).bind fun r3 =>
 br (!r3.1.1)
 (some ((false, ()), (), ()))
 (let x4 : Bool := decide ((a0_9.length : Int) > (240 : Int));
 br x4
 (some ((false, ()), (), ()))
 ((loopC spec_MachineOk_s0 (((), a0_8, (a0_8.length : Int), (0 : Int), ()), ((a0_0, a0_1, a0_2, a0_3, a0_4, a0_5, a0_6, a0_7, a0_8, a0_9, ()), ()), ())).bind fun r12 =>
 sumK r12 (fun y15 =>
 some ((y15.1.1, ()), (), ())) (fun y16 =>
 (loopC spec_MachineOk_s2 (((), y16.2.1.1.2.2.2.2.2.2.2.2.2.1, (y16.2.1.1.2.2.2.2.2.2.2.2.2.1.length : Int), (0 : Int), ()), ((y16.2.1.1.1, y16.2.1.1.2.1, y16.2.1.1.2.2.1, y16.2.1.1.2.2.2.1, y16.2.1.1.2.2.2.2.1, y16.2.1.1.2.2.2.2.2.1, y16.2.1.1.2.2.2.2.2.2.1, y16.2.1.1.2.2.2.2.2.2.2.1, y16.2.1.1.2.2.2.2.2.2.2.2.1, y16.2.1.1.2.2.2.2.2.2.2.2.2.1, ()), ()), ())).bind fun r21 =>
 sumK r21 (fun y24 =>
 some ((y24.1.1, ()), (), ())) (fun y25 =>
 (spec_l5Items y25.2.1.1.1 y25.2.1.1.2.1 y25.2.1.1.2.2.1 y25.2.1.1.2.2.2.2.2.2.2.2.1).bind fun r26 =>
 (spec_l3Fits y25.2.1.1.2.2.2.2.2.1 y25.2.1.1.2.2.2.2.2.2.1 y25.2.1.1.2.2.2.2.2.2.2.1 r26.2.2.1).bind fun r27 =>
 some ((r27.1.1, ()), (), ())))))))
noncomputable def spec_MachineOk_C : Ctr := ⟨24, spec_MachineOk_arg, spec_MachineOk_res, fun x => spec_MachineOk x.1.1.1 x.1.1.2.1 x.1.1.2.2.1 x.1.1.2.2.2.1 x.1.1.2.2.2.2.1 x.1.1.2.2.2.2.2.1 x.1.1.2.2.2.2.2.2.1 x.1.1.2.2.2.2.2.2.2.1 x.1.1.2.2.2.2.2.2.2.2.1 x.1.1.2.2.2.2.2.2.2.2.2.1, none⟩
def spec_MachineOk_H : Hint := ⟨[], [], [], fun _ => []⟩
noncomputable def spec_MachineOk_T : List Ctr := [spec_MagazineOk_C, spec_l1In_C, spec_MeasureOk_C, spec_l2Matrix_C, spec_l5Items_C, spec_l3Fits_C]
noncomputable def spec_MachineOk_Ls : List Lp := [spec_MachineOk_L0, spec_MachineOk_L2]
theorem spec_MachineOk_l0 : ∀ x, spec_MachineOk_s0 x = stepW E0 spec_MachineOk_T spec_MachineOk_Ls spec_MachineOk_H (loopAt (bodyOf Tryz.f24) 0) 0 spec_MachineOk_h0 [] [(.ret, []), (.exit 0, [])] spec_MachineOk_r0 x := fun x => by kernel_rfl
theorem spec_MachineOk_l2 : ∀ x, spec_MachineOk_s2 x = stepW E0 spec_MachineOk_T spec_MachineOk_Ls spec_MachineOk_H (loopAt (bodyOf Tryz.f24) 1) 2 spec_MachineOk_h2 [] [(.ret, []), (.exit 2, [])] spec_MachineOk_r2 x := fun x => by kernel_rfl
theorem spec_MachineOk_e : ∀ x, spec_MachineOk_C.F x = runBodyW E0 spec_MachineOk_T spec_MachineOk_Ls spec_MachineOk_H 24 Tryz.f24.results.toList (bodyOf Tryz.f24) [] (spec_MachineOk_arg.mk' x) spec_MachineOk_res := fun x => by kernel_rfl
theorem spec_MachineOk_ok : spec_MachineOk_C.Ok E0 := fn_ok (T := spec_MachineOk_T) (h := spec_MachineOk_H) (Ls := spec_MachineOk_Ls) E0_mixed (T_cons spec_MagazineOk_ok (T_cons spec_l1In_ok (T_cons spec_MeasureOk_ok (T_cons spec_l2Matrix_ok (T_cons spec_l5Items_ok (T_cons spec_l3Fits_ok T_nil)))))) Tryz.func24 (bodyOf_some (by kernel_rfl)) (by kernel_rfl) (loops_of (ks := [0, 2]) (by kernel_rfl) ⟨(loop_one (h := spec_MachineOk_H) (own := []) (head := spec_MachineOk_h0) (back := []) (exs := [(.ret, []), (.exit 0, [])]) (res := spec_MachineOk_r0) (step := spec_MachineOk_s0) (by kernel_rfl) spec_MachineOk_l0), (loop_one (h := spec_MachineOk_H) (own := []) (head := spec_MachineOk_h2) (back := []) (exs := [(.ret, []), (.exit 2, [])]) (res := spec_MachineOk_r2) (step := spec_MachineOk_s2) (by kernel_rfl) spec_MachineOk_l2), trivial⟩) spec_MachineOk_e
def spec_l6Words_arg : Sh := ⟨[(0, .c (.str))], [], []⟩
def spec_l6Words_res : List Sh := [⟨[(0, .c (.own 0))], [], [(0, .str)]⟩]
noncomputable def spec_l6Words_s0 (x : (ByteArray × Unit × Int × Int × Unit) × Unit × (List ByteArray × Unit)) : Option (((ByteArray × Unit × Int × Int × Unit) × Unit × (List ByteArray × Unit)) ⊕ ((Unit × Unit) × Unit × (List ByteArray × Unit))) :=
 let x1 : Bool := decide (x.1.2.2.2.1 ≤ (x.1.1.size : Int));
 br x1
 (let x2 : Bool := decide (x.1.2.2.2.1 < (x.1.1.size : Int));
 br x2
 (ck (0 ≤ x.1.2.2.2.1 ∧ x.1.2.2.2.1.toNat < x.1.1.size)
 (let x3 : Int := byteAt x.1.1 x.1.2.2.2.1.toNat;
 let x4 : Bool := x3 != (32 : Int);
 br x4
 (let x5 : Int := w64 (x.1.2.2.2.1 + (1 : Int));
 some (.inl ((x.1.1, (), x.1.2.2.1, x5, ()), (), (x.2.2.1, ()))))
 (let x6 : Bool := decide (x.1.2.2.2.1 > x.1.2.2.1);
 br x6
 (ck (0 ≤ x.1.2.2.1)
 (ck (0 ≤ x.1.2.2.2.1)
 (ck (x.1.2.2.1.toNat ≤ x.1.2.2.2.1.toNat ∧ x.1.2.2.2.1.toNat ≤ x.1.1.size)
 (let x7 : ByteArray := x.1.1.extract x.1.2.2.1.toNat x.1.2.2.2.1.toNat;
 ck ((x.2.2.1.length + [x7].length) * 16 ≤ 140737488355328 ∧ (x.2.2.1.length + [x7].length) ≤ 9223372036854775807)
 (let x8 : List ByteArray := x.2.2.1 ++ [x7];
 let x9 : Int := w64 (x.1.2.2.2.1 + (1 : Int));
 some (.inl ((x.1.1, (), x9, x9, ()), (), (x8, ()))))))))
 (let x10 : Int := w64 (x.1.2.2.2.1 + (1 : Int));
 some (.inl ((x.1.1, (), x10, x10, ()), (), (x.2.2.1, ())))))))
 (let x11 : Bool := decide (x.1.2.2.2.1 > x.1.2.2.1);
 br x11
 (ck (0 ≤ x.1.2.2.1)
 (ck (0 ≤ x.1.2.2.2.1)
 (ck (x.1.2.2.1.toNat ≤ x.1.2.2.2.1.toNat ∧ x.1.2.2.2.1.toNat ≤ x.1.1.size)
 (let x12 : ByteArray := x.1.1.extract x.1.2.2.1.toNat x.1.2.2.2.1.toNat;
 ck ((x.2.2.1.length + [x12].length) * 16 ≤ 140737488355328 ∧ (x.2.2.1.length + [x12].length) ≤ 9223372036854775807)
 (let x13 : List ByteArray := x.2.2.1 ++ [x12];
 let x14 : Int := w64 (x.1.2.2.2.1 + (1 : Int));
 some (.inl ((x.1.1, (), x14, x14, ()), (), (x13, ()))))))))
 (let x15 : Int := w64 (x.1.2.2.2.1 + (1 : Int));
 some (.inl ((x.1.1, (), x15, x15, ()), (), (x.2.2.1, ()))))))
 (some (.inr (((), ()), (), (x.2.2.1, ()))))
def spec_l6Words_h0 : Sh := ⟨[(0, .c (.str)), (3, .c (.own 0)), (4, .c (.int .i64)), (5, .c (.int .i64))], [], [(0, .str)]⟩
def spec_l6Words_r0 : List Sh := [⟨[(3, .c (.own 0))], [], [(0, .str)]⟩]
noncomputable def spec_l6Words_L0 : Lp := ⟨0, [], spec_l6Words_h0, [], [(.exit 0, [])], spec_l6Words_r0, loopC spec_l6Words_s0⟩
noncomputable def spec_l6Words (a0 : ByteArray) : Option ((Unit × Unit) × Unit × (List ByteArray × Unit)) :=
 (loopC spec_l6Words_s0 ((a0, (), (0 : Int), (0 : Int), ()), (), ([], ()))).bind fun r16 =>
 some (((), ()), (), (r16.2.2.1, ()))
noncomputable def spec_l6Words_C : Ctr := ⟨54, spec_l6Words_arg, spec_l6Words_res, fun x => spec_l6Words x.1.1, none⟩
def spec_l6Words_H : Hint := ⟨[], [], [], fun _ => []⟩
noncomputable def spec_l6Words_T : List Ctr := []
noncomputable def spec_l6Words_Ls : List Lp := [spec_l6Words_L0]
theorem spec_l6Words_l0 : ∀ x, spec_l6Words_s0 x = stepW E0 spec_l6Words_T spec_l6Words_Ls spec_l6Words_H (loopAt (bodyOf Tryz.f54) 0) 0 spec_l6Words_h0 [] [(.exit 0, [])] spec_l6Words_r0 x := fun x => by kernel_rfl
theorem spec_l6Words_e : ∀ x, spec_l6Words_C.F x = runBodyW E0 spec_l6Words_T spec_l6Words_Ls spec_l6Words_H 54 Tryz.f54.results.toList (bodyOf Tryz.f54) [] (spec_l6Words_arg.mk' x) spec_l6Words_res := fun x => by kernel_rfl
theorem spec_l6Words_ok : spec_l6Words_C.Ok E0 := fn_ok (T := spec_l6Words_T) (h := spec_l6Words_H) (Ls := spec_l6Words_Ls) E0_mixed T_nil Tryz.func54 (bodyOf_some (by kernel_rfl)) (by kernel_rfl) (loops_of (ks := [0]) (by kernel_rfl) ⟨(loop_one (h := spec_l6Words_H) (own := []) (head := spec_l6Words_h0) (back := []) (exs := [(.exit 0, [])]) (res := spec_l6Words_r0) (step := spec_l6Words_s0) (by kernel_rfl) spec_l6Words_l0), trivial⟩) spec_l6Words_e
def spec_l6Join_arg : Sh := ⟨[(0, .c (.rd [] .str))], [], []⟩
def spec_l6Join_res : List Sh := [⟨[(0, .c (.str))], [], []⟩]
noncomputable def spec_l6Join_s0 (x : (ByteArray × List ByteArray × Int × Int × Unit) × Unit × Unit) : Option (((ByteArray × List ByteArray × Int × Int × Unit) × Unit × Unit) ⊕ ((ByteArray × Unit) × Unit × Unit)) :=
 let x1 : Bool := decide (x.1.2.2.2.1 < x.1.2.2.1);
 br x1
 (ck (0 ≤ x.1.2.2.2.1)
 (ck (x.1.2.2.2.1.toNat < x.1.2.1.length)
 (let x2 : ByteArray := x.1.2.1.getD x.1.2.2.2.1.toNat ByteArray.empty;
 let x3 : Bool := decide (x.1.2.2.2.1 > (0 : Int));
 br x3
 (ck (((x.1.1.size + (ByteArray.mk #[32]).size : Nat) : Int) ≤ IntKind.i64.max)
 (let x4 : ByteArray := x.1.1 ++ (ByteArray.mk #[32]);
 ck (((x4.size + x2.size : Nat) : Int) ≤ IntKind.i64.max)
 (let x5 : ByteArray := x4 ++ x2;
 let x6 : Int := w64 (x.1.2.2.2.1 + (1 : Int));
 some (.inl ((x5, x.1.2.1, x.1.2.2.1, x6, ()), (), ())))))
 (ck (((x.1.1.size + x2.size : Nat) : Int) ≤ IntKind.i64.max)
 (let x7 : ByteArray := x.1.1 ++ x2;
 let x8 : Int := w64 (x.1.2.2.2.1 + (1 : Int));
 some (.inl ((x7, x.1.2.1, x.1.2.2.1, x8, ()), (), ())))))))
 (some (.inr ((x.1.1, ()), (), ())))
def spec_l6Join_h0 : Sh := ⟨[(3, .c (.str)), (6, .c (.rd [] .str)), (7, .c (.int .i64)), (8, .c (.int .i64))], [], []⟩
def spec_l6Join_r0 : List Sh := [⟨[(3, .c (.str))], [], []⟩]
noncomputable def spec_l6Join_L0 : Lp := ⟨0, [], spec_l6Join_h0, [], [(.exit 0, [])], spec_l6Join_r0, loopC spec_l6Join_s0⟩
noncomputable def spec_l6Join (a0 : List ByteArray) : Option ((ByteArray × Unit) × Unit × Unit) :=
 (loopC spec_l6Join_s0 ((ByteArray.empty, a0, (a0.length : Int), (0 : Int), ()), (), ())).bind fun r9 =>
 some ((r9.1.1, ()), (), ())
noncomputable def spec_l6Join_C : Ctr := ⟨55, spec_l6Join_arg, spec_l6Join_res, fun x => spec_l6Join x.1.1, none⟩
def spec_l6Join_H : Hint := ⟨[], [], [], fun _ => []⟩
noncomputable def spec_l6Join_T : List Ctr := []
noncomputable def spec_l6Join_Ls : List Lp := [spec_l6Join_L0]
theorem spec_l6Join_l0 : ∀ x, spec_l6Join_s0 x = stepW E0 spec_l6Join_T spec_l6Join_Ls spec_l6Join_H (loopAt (bodyOf Tryz.f55) 0) 0 spec_l6Join_h0 [] [(.exit 0, [])] spec_l6Join_r0 x := fun x => by kernel_rfl
theorem spec_l6Join_e : ∀ x, spec_l6Join_C.F x = runBodyW E0 spec_l6Join_T spec_l6Join_Ls spec_l6Join_H 55 Tryz.f55.results.toList (bodyOf Tryz.f55) [] (spec_l6Join_arg.mk' x) spec_l6Join_res := fun x => by kernel_rfl
theorem spec_l6Join_ok : spec_l6Join_C.Ok E0 := fn_ok (T := spec_l6Join_T) (h := spec_l6Join_H) (Ls := spec_l6Join_Ls) E0_mixed T_nil Tryz.func55 (bodyOf_some (by kernel_rfl)) (by kernel_rfl) (loops_of (ks := [0]) (by kernel_rfl) ⟨(loop_one (h := spec_l6Join_H) (own := []) (head := spec_l6Join_h0) (back := []) (exs := [(.exit 0, [])]) (res := spec_l6Join_r0) (step := spec_l6Join_s0) (by kernel_rfl) spec_l6Join_l0), trivial⟩) spec_l6Join_e
def spec_KeyOf_arg : Sh := ⟨[(0, .agg [.str, .rd [] .i64, .rd [] .i64]), (1, .c (.int .i64))], [], []⟩
def spec_KeyOf_res : List Sh := [⟨[(0, .c (.int .i64))], [], []⟩]
noncomputable def spec_KeyOf_s0 (x : (Int × Unit × Int × Unit) × ((ByteArray × List Int × List Int × Unit) × Unit) × Unit) : Option (((Int × Unit × Int × Unit) × ((ByteArray × List Int × List Int × Unit) × Unit) × Unit) ⊕ (((Int × Unit) × Unit × Unit) ⊕ (Unit × Unit × Unit))) :=
 let x2 : Bool := decide (x.1.2.2.1 < (x.2.1.1.1.size : Int));
 br x2
 (ck (0 ≤ x.1.2.2.1 ∧ x.1.2.2.1.toNat < x.2.1.1.1.size)
 (let x3 : Int := byteAt x.2.1.1.1 x.1.2.2.1.toNat;
 let x4 : Int := w64 x3;
 let x5 : Bool := x4 == x.1.1;
 br x5
 (some (.inr (.inl ((x.1.2.2.1, ()), (), ()))))
 (let x6 : Int := w64 (x.1.2.2.1 + (1 : Int));
 some (.inl ((x.1.1, (), x6, ()), ((x.2.1.1.1, x.2.1.1.2.1, x.2.1.1.2.2.1, ()), ()), ())))))
 (some (.inr (.inr ((), (), ()))))
def spec_KeyOf_h0 : Sh := ⟨[(1, .c (.int .i64)), (2, .c (.box 0 0)), (5, .c (.int .i64))], [(0, .cells [.str, .rd [] .i64, .rd [] .i64])], []⟩
def spec_KeyOf_r0 : List Sh := [⟨[(4, .c (.int .i64))], [], []⟩, ⟨[], [], []⟩]
noncomputable def spec_KeyOf_L0 : Lp := ⟨0, [], spec_KeyOf_h0, [], [(.ret, []), (.exit 0, [])], spec_KeyOf_r0, loopC spec_KeyOf_s0⟩
noncomputable def spec_KeyOf (a0_0 : ByteArray) (a0_1 : List Int) (a0_2 : List Int) (a1 : Int) : Option ((Int × Unit) × Unit × Unit) :=
 (spec_FontOk a0_0 a0_1 a0_2).bind fun r1 =>
 br (!r1.1.1)
 (some (((-1 : Int), ()), (), ()))
 ((loopC spec_KeyOf_s0 ((a1, (), (0 : Int), ()), ((a0_0, a0_1, a0_2, ()), ()), ())).bind fun r7 =>
 sumK r7 (fun y10 =>
 some ((y10.1.1, ()), (), ())) (fun y11 =>
 some (((-1 : Int), ()), (), ())))
noncomputable def spec_KeyOf_C : Ctr := ⟨88, spec_KeyOf_arg, spec_KeyOf_res, fun x => spec_KeyOf x.1.1.1 x.1.1.2.1 x.1.1.2.2.1 x.1.2.1, none⟩
def spec_KeyOf_H : Hint := ⟨[], [], [], fun _ => []⟩
noncomputable def spec_KeyOf_T : List Ctr := [spec_FontOk_C]
noncomputable def spec_KeyOf_Ls : List Lp := [spec_KeyOf_L0]
theorem spec_KeyOf_l0 : ∀ x, spec_KeyOf_s0 x = stepW E0 spec_KeyOf_T spec_KeyOf_Ls spec_KeyOf_H (loopAt (bodyOf Tryz.f88) 0) 0 spec_KeyOf_h0 [] [(.ret, []), (.exit 0, [])] spec_KeyOf_r0 x := fun x => by kernel_rfl
theorem spec_KeyOf_e : ∀ x, spec_KeyOf_C.F x = runBodyW E0 spec_KeyOf_T spec_KeyOf_Ls spec_KeyOf_H 88 Tryz.f88.results.toList (bodyOf Tryz.f88) [] (spec_KeyOf_arg.mk' x) spec_KeyOf_res := fun x => by kernel_rfl
theorem spec_KeyOf_ok : spec_KeyOf_C.Ok E0 := fn_ok (T := spec_KeyOf_T) (h := spec_KeyOf_H) (Ls := spec_KeyOf_Ls) E0_mixed (T_cons spec_FontOk_ok T_nil) Tryz.func88 (bodyOf_some (by kernel_rfl)) (by kernel_rfl) (loops_of (ks := [0]) (by kernel_rfl) ⟨(loop_one (h := spec_KeyOf_H) (own := []) (head := spec_KeyOf_h0) (back := []) (exs := [(.ret, []), (.exit 0, [])]) (res := spec_KeyOf_r0) (step := spec_KeyOf_s0) (by kernel_rfl) spec_KeyOf_l0), trivial⟩) spec_KeyOf_e
def spec_WordWidths_arg : Sh := ⟨[(0, .agg [.str, .rd [] .i64, .rd [] .i64]), (1, .c (.str))], [], []⟩
def spec_WordWidths_res : List Sh := [⟨[(0, .c (.own 0)), (1, .c (.bool))], [], [(0, .i64)]⟩]
noncomputable def spec_WordWidths_s2 (x : (Unit × Unit × ByteArray × Int × Int × Unit × Int × Int × Unit) × ((ByteArray × List Int × List Int × Unit) × Unit) × (List Int × List ByteArray × Unit)) : Option (((Unit × Unit × ByteArray × Int × Int × Unit × Int × Int × Unit) × ((ByteArray × List Int × List Int × Unit) × Unit) × (List Int × List ByteArray × Unit)) ⊕ (((Unit × Bool × Unit) × Unit × Unit) ⊕ ((Unit × Unit × Int × Unit × Int × Int × Unit) × ((ByteArray × List Int × List Int × Unit) × Unit) × (List Int × List ByteArray × Unit)))) :=
 let x6 : Bool := decide (x.1.2.2.2.2.1 < (x.1.2.2.1.size : Int));
 br x6
 (ck (0 ≤ x.1.2.2.2.2.1 ∧ x.1.2.2.2.2.1.toNat < x.1.2.2.1.size)
 (let x7 : Int := byteAt x.1.2.2.1 x.1.2.2.2.2.1.toNat;
 let x8 : Int := w64 x7;
 (spec_KeyOf x.2.1.1.1 x.2.1.1.2.1 x.2.1.1.2.2.1 x8).bind fun r9 =>
 let x10 : Bool := decide (r9.1.1 < (0 : Int));
 br x10
 (some (.inr (.inl (((), false, ()), (), ()))))
 (ck (0 ≤ r9.1.1)
 (ck (r9.1.1.toNat < x.2.1.1.2.1.length)
 (let x11 : Int := x.2.1.1.2.1.getD r9.1.1.toNat 0;
 let x12 : Int := w64 (x.1.2.2.2.1 + x11);
 let x13 : Bool := decide (x12 > (2000 : Int));
 br x13
 (some (.inr (.inl (((), false, ()), (), ()))))
 (let x14 : Int := w64 (x.1.2.2.2.2.1 + (1 : Int));
 some (.inl (((), (), x.1.2.2.1, x12, x14, (), x.1.2.2.2.2.2.2.1, x.1.2.2.2.2.2.2.2.1, ()), ((x.2.1.1.1, x.2.1.1.2.1, x.2.1.1.2.2.1, ()), ()), (x.2.2.1, x.2.2.2.1, ())))))))))
 (some (.inr (.inr (((), (), x.1.2.2.2.1, (), x.1.2.2.2.2.2.2.1, x.1.2.2.2.2.2.2.2.1, ()), ((x.2.1.1.1, x.2.1.1.2.1, x.2.1.1.2.2.1, ()), ()), (x.2.2.1, x.2.2.2.1, ())))))
def spec_WordWidths_h2 : Sh := ⟨[(2, .c (.box 0 0)), (7, .c (.own 0)), (9, .c (.str)), (10, .c (.int .i64)), (11, .c (.int .i64)), (25, .c (.own 1)), (26, .c (.int .i64)), (27, .c (.int .i64))], [(0, .cells [.str, .rd [] .i64, .rd [] .i64])], [(0, .i64), (1, .str)]⟩
def spec_WordWidths_r2 : List Sh := [⟨[(4, .c (.nil)), (5, .c (.bool))], [], []⟩, ⟨[(2, .c (.box 0 0)), (7, .c (.own 0)), (10, .c (.int .i64)), (25, .c (.own 1)), (26, .c (.int .i64)), (27, .c (.int .i64))], [(0, .cells [.str, .rd [] .i64, .rd [] .i64])], [(0, .i64), (1, .str)]⟩]
noncomputable def spec_WordWidths_L2 : Lp := ⟨2, [], spec_WordWidths_h2, [], [(.ret, []), (.exit 2, [])], spec_WordWidths_r2, loopC spec_WordWidths_s2⟩
noncomputable def spec_WordWidths_s0 (x : (Unit × Unit × Unit × Int × Int × Unit) × ((ByteArray × List Int × List Int × Unit) × Unit) × (List Int × List ByteArray × Unit)) : Option (((Unit × Unit × Unit × Int × Int × Unit) × ((ByteArray × List Int × List Int × Unit) × Unit) × (List Int × List ByteArray × Unit)) ⊕ (((Unit × Bool × Unit) × Unit × Unit) ⊕ ((Unit × Unit) × Unit × (List Int × Unit)))) :=
 let x4 : Bool := decide (x.1.2.2.2.2.1 < x.1.2.2.2.1);
 br x4
 (ck (0 ≤ x.1.2.2.2.2.1)
 (ck (x.1.2.2.2.2.1.toNat < x.2.2.2.1.length)
 (ck (x.1.2.2.2.2.1.toNat < x.2.2.2.1.length)
 (let x5 : ByteArray := x.2.2.2.1.getD x.1.2.2.2.2.1.toNat ByteArray.empty;
 (loopC spec_WordWidths_s2 (((), (), x5, (0 : Int), (0 : Int), (), x.1.2.2.2.1, x.1.2.2.2.2.1, ()), ((x.2.1.1.1, x.2.1.1.2.1, x.2.1.1.2.2.1, ()), ()), (x.2.2.1, x.2.2.2.1, ()))).bind fun r15 =>
 sumK r15 (fun y18 =>
 some (.inr (.inl (((), y18.1.2.1, ()), (), ())))) (fun y19 =>
 ck ((y19.2.2.1.length + [y19.1.2.2.1].length) * 8 ≤ 140737488355328 ∧ (y19.2.2.1.length + [y19.1.2.2.1].length) ≤ 9223372036854775807)
 (let x20 : List Int := y19.2.2.1 ++ [y19.1.2.2.1];
 let x21 : Int := w64 (y19.1.2.2.2.2.2.1 + (1 : Int));
 some (.inl (((), (), (), y19.1.2.2.2.2.1, x21, ()), ((y19.2.1.1.1, y19.2.1.1.2.1, y19.2.1.1.2.2.1, ()), ()), (x20, y19.2.2.2.1, ())))))))))
 (some (.inr (.inr (((), ()), (), (x.2.2.1, ())))))
def spec_WordWidths_h0 : Sh := ⟨[(2, .c (.box 0 0)), (7, .c (.own 0)), (25, .c (.own 1)), (26, .c (.int .i64)), (27, .c (.int .i64))], [(0, .cells [.str, .rd [] .i64, .rd [] .i64])], [(0, .i64), (1, .str)]⟩
def spec_WordWidths_r0 : List Sh := [⟨[(4, .c (.nil)), (5, .c (.bool))], [], []⟩, ⟨[(7, .c (.own 0))], [], [(0, .i64)]⟩]
noncomputable def spec_WordWidths_L0 : Lp := ⟨0, [], spec_WordWidths_h0, [], [(.ret, []), (.exit 0, [])], spec_WordWidths_r0, loopC spec_WordWidths_s0⟩
noncomputable def spec_WordWidths (a0_0 : ByteArray) (a0_1 : List Int) (a0_2 : List Int) (a1 : ByteArray) : Option ((Unit × Bool × Unit) × Unit × (List Int × Unit)) :=
 (spec_l6Words a1).bind fun r1 =>
 (spec_FontOk a0_0 a0_1 a0_2).bind fun r2 =>
 br (!r2.1.1)
 (some (((), false, ()), (), ([], ())))
 ((spec_l1In (r1.2.2.1.length : Int) (1 : Int) (40 : Int)).bind fun r3 =>
 br (!r3.1.1)
 (some (((), false, ()), (), ([], ())))
 ((loopC spec_WordWidths_s0 (((), (), (), (r1.2.2.1.length : Int), (0 : Int), ()), ((a0_0, a0_1, a0_2, ()), ()), ([], r1.2.2.1, ()))).bind fun r22 =>
 sumK r22 (fun y25 =>
 some (((), y25.1.2.1, ()), (), ([], ()))) (fun y26 =>
 some (((), true, ()), (), (y26.2.2.1, ())))))
noncomputable def spec_WordWidths_C : Ctr := ⟨56, spec_WordWidths_arg, spec_WordWidths_res, fun x => spec_WordWidths x.1.1.1 x.1.1.2.1 x.1.1.2.2.1 x.1.2.1, none⟩
def spec_WordWidths_H : Hint := ⟨[], [], [], fun _ => []⟩
noncomputable def spec_WordWidths_T : List Ctr := [spec_l6Words_C, spec_FontOk_C, spec_l1In_C, spec_KeyOf_C]
noncomputable def spec_WordWidths_Ls : List Lp := [spec_WordWidths_L2, spec_WordWidths_L0]
theorem spec_WordWidths_l0 : ∀ x, spec_WordWidths_s0 x = stepW E0 spec_WordWidths_T spec_WordWidths_Ls spec_WordWidths_H (loopAt (bodyOf Tryz.f56) 0) 0 spec_WordWidths_h0 [] [(.ret, []), (.exit 0, [])] spec_WordWidths_r0 x := fun x => by kernel_rfl
theorem spec_WordWidths_l2 : ∀ x, spec_WordWidths_s2 x = stepW E0 spec_WordWidths_T spec_WordWidths_Ls spec_WordWidths_H (loopAt (bodyOf Tryz.f56) 1) 2 spec_WordWidths_h2 [] [(.ret, []), (.exit 2, [])] spec_WordWidths_r2 x := fun x => by kernel_rfl
theorem spec_WordWidths_e : ∀ x, spec_WordWidths_C.F x = runBodyW E0 spec_WordWidths_T spec_WordWidths_Ls spec_WordWidths_H 56 Tryz.f56.results.toList (bodyOf Tryz.f56) [(.tm 4, 6000000, .i64)] (spec_WordWidths_arg.mk' x) spec_WordWidths_res := fun x => by kernel_rfl
theorem spec_WordWidths_ok : spec_WordWidths_C.Ok E0 := fn_ok (T := spec_WordWidths_T) (h := spec_WordWidths_H) (Ls := spec_WordWidths_Ls) E0_mixed (T_cons spec_l6Words_ok (T_cons spec_FontOk_ok (T_cons spec_l1In_ok (T_cons spec_KeyOf_ok T_nil)))) Tryz.func56 (bodyOf_some (by kernel_rfl)) (by kernel_rfl) (loops_of (ks := [0, 2]) (by kernel_rfl) ⟨(loop_one (h := spec_WordWidths_H) (own := []) (head := spec_WordWidths_h0) (back := []) (exs := [(.ret, []), (.exit 0, [])]) (res := spec_WordWidths_r0) (step := spec_WordWidths_s0) (by kernel_rfl) spec_WordWidths_l0), (loop_one (h := spec_WordWidths_H) (own := []) (head := spec_WordWidths_h2) (back := []) (exs := [(.ret, []), (.exit 2, [])]) (res := spec_WordWidths_r2) (step := spec_WordWidths_s2) (by kernel_rfl) spec_WordWidths_l2), trivial⟩) spec_WordWidths_e
def spec_TextOk_arg : Sh := ⟨[(0, .c (.rd [] .i64))], [], []⟩
def spec_TextOk_res : List Sh := [⟨[(0, .c (.bool))], [], []⟩]
noncomputable def spec_TextOk_s0 (x : (List Int × List Int × Int × Int × Unit) × Unit × Unit) : Option (((List Int × List Int × Int × Int × Unit) × Unit × Unit) ⊕ (((Bool × Unit) × Unit × Unit) ⊕ ((List Int × Unit) × Unit × Unit))) :=
 let x1 : Bool := decide (x.1.2.2.2.1 < x.1.2.2.1);
 br x1
 (ck (0 ≤ x.1.2.2.2.1)
 (ck (x.1.2.2.2.1.toNat < x.1.2.1.length)
 (let x2 : Int := x.1.2.1.getD x.1.2.2.2.1.toNat 0;
 (spec_l1In x2 (1 : Int) (2000 : Int)).bind fun r3 =>
 br (!r3.1.1)
 (some (.inr (.inl ((false, ()), (), ()))))
 (let x4 : Int := w64 (x.1.2.2.2.1 + (1 : Int));
 some (.inl ((x.1.1, x.1.2.1, x.1.2.2.1, x4, ()), (), ()))))))
 (some (.inr (.inr ((x.1.1, ()), (), ()))))
def spec_TextOk_h0 : Sh := ⟨[(0, .c (.rd [] .i64)), (5, .c (.rd [] .i64)), (6, .c (.int .i64)), (7, .c (.int .i64))], [], []⟩
def spec_TextOk_r0 : List Sh := [⟨[(2, .c (.bool))], [], []⟩, ⟨[(0, .c (.rd [] .i64))], [], []⟩]
noncomputable def spec_TextOk_L0 : Lp := ⟨0, [], spec_TextOk_h0, [], [(.ret, []), (.exit 0, [])], spec_TextOk_r0, loopC spec_TextOk_s0⟩
noncomputable def spec_TextOk (a0 : List Int) : Option ((Bool × Unit) × Unit × Unit) :=
 (loopC spec_TextOk_s0 ((a0, a0, (a0.length : Int), (0 : Int), ()), (), ())).bind fun r5 =>
 sumK r5 (fun y8 =>
 some ((y8.1.1, ()), (), ())) (fun y9 =>
 (spec_l1In (y9.1.1.length : Int) (1 : Int) (40 : Int)).bind fun r10 =>
 some ((r10.1.1, ()), (), ()))
noncomputable def spec_TextOk_C : Ctr := ⟨122, spec_TextOk_arg, spec_TextOk_res, fun x => spec_TextOk x.1.1, none⟩
def spec_TextOk_H : Hint := ⟨[], [], [], fun _ => []⟩
noncomputable def spec_TextOk_T : List Ctr := [spec_l1In_C]
noncomputable def spec_TextOk_Ls : List Lp := [spec_TextOk_L0]
theorem spec_TextOk_l0 : ∀ x, spec_TextOk_s0 x = stepW E0 spec_TextOk_T spec_TextOk_Ls spec_TextOk_H (loopAt (bodyOf Tryz.f122) 0) 0 spec_TextOk_h0 [] [(.ret, []), (.exit 0, [])] spec_TextOk_r0 x := fun x => by kernel_rfl
theorem spec_TextOk_e : ∀ x, spec_TextOk_C.F x = runBodyW E0 spec_TextOk_T spec_TextOk_Ls spec_TextOk_H 122 Tryz.f122.results.toList (bodyOf Tryz.f122) [] (spec_TextOk_arg.mk' x) spec_TextOk_res := fun x => by kernel_rfl
theorem spec_TextOk_ok : spec_TextOk_C.Ok E0 := fn_ok (T := spec_TextOk_T) (h := spec_TextOk_H) (Ls := spec_TextOk_Ls) E0_mixed (T_cons spec_l1In_ok T_nil) Tryz.func122 (bodyOf_some (by kernel_rfl)) (by kernel_rfl) (loops_of (ks := [0]) (by kernel_rfl) ⟨(loop_one (h := spec_TextOk_H) (own := []) (head := spec_TextOk_h0) (back := []) (exs := [(.ret, []), (.exit 0, [])]) (res := spec_TextOk_r0) (step := spec_TextOk_s0) (by kernel_rfl) spec_TextOk_l0), trivial⟩) spec_TextOk_e
def spec_l4Ok_arg : Sh := ⟨[(0, .agg [.int .i64, .int .i64, .int .i64]), (1, .c (.rd [] .i64))], [], []⟩
def spec_l4Ok_res : List Sh := [⟨[(0, .c (.bool))], [], []⟩]
noncomputable def spec_l4Ok (a0_0 : Int) (a0_1 : Int) (a0_2 : Int) (a1 : List Int) : Option ((Bool × Unit) × Unit × Unit) :=
 (spec_MeasureOk a0_0 a0_1 a0_2).bind fun r1 =>
 br r1.1.1
 ((spec_TextOk a1).bind fun r2 =>
 some ((r2.1.1, ()), (), ()))
 (some ((false, ()), (), ()))
noncomputable def spec_l4Ok_C : Ctr := ⟨89, spec_l4Ok_arg, spec_l4Ok_res, fun x => spec_l4Ok x.1.1.1 x.1.1.2.1 x.1.1.2.2.1 x.1.2.1, none⟩
def spec_l4Ok_H : Hint := ⟨[], [], [], fun _ => []⟩
noncomputable def spec_l4Ok_T : List Ctr := [spec_MeasureOk_C, spec_TextOk_C]
noncomputable def spec_l4Ok_Ls : List Lp := []
theorem spec_l4Ok_e : ∀ x, spec_l4Ok_C.F x = runBodyW E0 spec_l4Ok_T spec_l4Ok_Ls spec_l4Ok_H 89 Tryz.f89.results.toList (bodyOf Tryz.f89) [] (spec_l4Ok_arg.mk' x) spec_l4Ok_res := fun x => by kernel_rfl
theorem spec_l4Ok_ok : spec_l4Ok_C.Ok E0 := fn_ok (T := spec_l4Ok_T) (h := spec_l4Ok_H) (Ls := spec_l4Ok_Ls) E0_mixed (T_cons spec_MeasureOk_ok (T_cons spec_TextOk_ok T_nil)) Tryz.func89 (bodyOf_some (by kernel_rfl)) (by kernel_rfl) (loops_of (ks := []) (by kernel_rfl) trivial) spec_l4Ok_e
def spec_l4Rest_arg : Sh := ⟨[(0, .agg [.int .i64, .int .i64, .int .i64]), (1, .c (.rd [] .i64))], [], []⟩
def spec_l4Rest_res : List Sh := [⟨[(0, .c (.int .i64)), (1, .c (.int .i64))], [], []⟩]
noncomputable def spec_l4Rest_s0 (x : (List Int × Unit × Int × List Int × Int × Int × Unit) × ((Int × Int × Int × Unit) × Unit) × Unit) : Option (((List Int × Unit × Int × List Int × Int × Int × Unit) × ((Int × Int × Int × Unit) × Unit) × Unit) ⊕ ((List Int × Unit × Int × Unit) × ((Int × Int × Int × Unit) × Unit) × Unit)) :=
 let x1 : Bool := decide (x.1.2.2.2.2.2.1 < x.1.2.2.2.2.1);
 br x1
 (ck (0 ≤ x.1.2.2.2.2.2.1)
 (ck (x.1.2.2.2.2.2.1.toNat < x.1.2.2.2.1.length)
 (let x2 : Int := x.1.2.2.2.1.getD x.1.2.2.2.2.2.1.toNat 0;
 let x3 : Int := w64 (x.1.2.2.1 + x2);
 let x4 : Int := w64 (x.1.2.2.2.2.2.1 + (1 : Int));
 some (.inl ((x.1.1, (), x3, x.1.2.2.2.1, x.1.2.2.2.2.1, x4, ()), ((x.2.1.1.1, x.2.1.1.2.1, x.2.1.1.2.2.1, ()), ()), ())))))
 (some (.inr ((x.1.1, (), x.1.2.2.1, ()), ((x.2.1.1.1, x.2.1.1.2.1, x.2.1.1.2.2.1, ()), ()), ())))
def spec_l4Rest_h0 : Sh := ⟨[(1, .c (.rd [] .i64)), (2, .c (.box 0 0)), (6, .c (.int .i64)), (9, .c (.rd [] .i64)), (10, .c (.int .i64)), (11, .c (.int .i64))], [(0, .cells [.int .i64, .int .i64, .int .i64])], []⟩
def spec_l4Rest_r0 : List Sh := [⟨[(1, .c (.rd [] .i64)), (2, .c (.box 0 0)), (6, .c (.int .i64))], [(0, .cells [.int .i64, .int .i64, .int .i64])], []⟩]
noncomputable def spec_l4Rest_L0 : Lp := ⟨0, [], spec_l4Rest_h0, [], [(.exit 0, [])], spec_l4Rest_r0, loopC spec_l4Rest_s0⟩
noncomputable def spec_l4Rest (a0_0 : Int) (a0_1 : Int) (a0_2 : Int) (a1 : List Int) : Option ((Int × Int × Unit) × Unit × Unit) :=
 (loopC spec_l4Rest_s0 ((a1, (), (0 : Int), a1, (a1.length : Int), (0 : Int), ()), ((a0_0, a0_1, a0_2, ()), ()), ())).bind fun r5 =>
 let x6 : Int := w64 (r5.2.1.1.1 - r5.1.2.2.1);
 let x7 : Int := w64 ((r5.1.1.length : Int) - (1 : Int));
 let x8 : Int := w64 (x7 * r5.2.1.1.2.1);
 let x9 : Int := w64 (x6 - x8);
 some ((x9, x7, ()), (), ())
noncomputable def spec_l4Rest_C : Ctr := ⟨123, spec_l4Rest_arg, spec_l4Rest_res, fun x => spec_l4Rest x.1.1.1 x.1.1.2.1 x.1.1.2.2.1 x.1.2.1, none⟩
def spec_l4Rest_H : Hint := ⟨[], [], [], fun _ => []⟩
noncomputable def spec_l4Rest_T : List Ctr := []
noncomputable def spec_l4Rest_Ls : List Lp := [spec_l4Rest_L0]
theorem spec_l4Rest_l0 : ∀ x, spec_l4Rest_s0 x = stepW E0 spec_l4Rest_T spec_l4Rest_Ls spec_l4Rest_H (loopAt (bodyOf Tryz.f123) 0) 0 spec_l4Rest_h0 [] [(.exit 0, [])] spec_l4Rest_r0 x := fun x => by kernel_rfl
theorem spec_l4Rest_e : ∀ x, spec_l4Rest_C.F x = runBodyW E0 spec_l4Rest_T spec_l4Rest_Ls spec_l4Rest_H 123 Tryz.f123.results.toList (bodyOf Tryz.f123) [] (spec_l4Rest_arg.mk' x) spec_l4Rest_res := fun x => by kernel_rfl
theorem spec_l4Rest_ok : spec_l4Rest_C.Ok E0 := fn_ok (T := spec_l4Rest_T) (h := spec_l4Rest_H) (Ls := spec_l4Rest_Ls) E0_mixed T_nil Tryz.func123 (bodyOf_some (by kernel_rfl)) (by kernel_rfl) (loops_of (ks := [0]) (by kernel_rfl) ⟨(loop_one (h := spec_l4Rest_H) (own := []) (head := spec_l4Rest_h0) (back := []) (exs := [(.exit 0, [])]) (res := spec_l4Rest_r0) (step := spec_l4Rest_s0) (by kernel_rfl) spec_l4Rest_l0), trivial⟩) spec_l4Rest_e
def spec_l4Rise_arg : Sh := ⟨[(0, .agg [.int .i64, .int .i64, .int .i64]), (1, .c (.rd [] .i64))], [], []⟩
def spec_l4Rise_res : List Sh := [⟨[(0, .c (.int .i64))], [], []⟩]
noncomputable def spec_l4Rise (a0_0 : Int) (a0_1 : Int) (a0_2 : Int) (a1 : List Int) : Option ((Int × Unit) × Unit × Unit) :=
 (spec_l4Rest a0_0 a0_1 a0_2 a1).bind fun r1 =>
 let x2 : Bool := r1.1.2.1 == (0 : Int);
 br x2
 (some (((0 : Int), ()), (), ()))
 (ck (r1.1.2.1 ≠ 0)
 (let x3 : Int := w64 (r1.1.1.tdiv r1.1.2.1);
 let x4 : Int := w64 (a0_2 - a0_1);
 let x5 : Int := if x4 < x3 then x4 else x3;
 some ((x5, ()), (), ())))
noncomputable def spec_l4Rise_C : Ctr := ⟨124, spec_l4Rise_arg, spec_l4Rise_res, fun x => spec_l4Rise x.1.1.1 x.1.1.2.1 x.1.1.2.2.1 x.1.2.1, none⟩
def spec_l4Rise_H : Hint := ⟨[], [], [], fun _ => []⟩
noncomputable def spec_l4Rise_T : List Ctr := [spec_l4Rest_C]
noncomputable def spec_l4Rise_Ls : List Lp := []
theorem spec_l4Rise_e : ∀ x, spec_l4Rise_C.F x = runBodyW E0 spec_l4Rise_T spec_l4Rise_Ls spec_l4Rise_H 124 Tryz.f124.results.toList (bodyOf Tryz.f124) [] (spec_l4Rise_arg.mk' x) spec_l4Rise_res := fun x => by kernel_rfl
theorem spec_l4Rise_ok : spec_l4Rise_C.Ok E0 := fn_ok (T := spec_l4Rise_T) (h := spec_l4Rise_H) (Ls := spec_l4Rise_Ls) E0_mixed (T_cons spec_l4Rest_ok T_nil) Tryz.func124 (bodyOf_some (by kernel_rfl)) (by kernel_rfl) (loops_of (ks := []) (by kernel_rfl) trivial) spec_l4Rise_e
def spec_l4Kind_arg : Sh := ⟨[(0, .agg [.int .i64, .int .i64, .int .i64]), (1, .c (.rd [] .i64))], [], []⟩
def spec_l4Kind_res : List Sh := [⟨[(0, .c (.int .i64))], [], []⟩]
noncomputable def spec_l4Kind (a0_0 : Int) (a0_1 : Int) (a0_2 : Int) (a1 : List Int) : Option ((Int × Unit) × Unit × Unit) :=
 (spec_l4Rest a0_0 a0_1 a0_2 a1).bind fun r1 =>
 let x2 : Bool := decide (r1.1.1 < (0 : Int));
 br x2
 (some (((0 : Int), ()), (), ()))
 ((spec_l4Rise a0_0 a0_1 a0_2 a1).bind fun r3 =>
 let x4 : Int := w64 (r1.1.2.1 * r3.1.1);
 let x5 : Int := w64 (r1.1.1 - x4);
 let x6 : Bool := x5 == (0 : Int);
 br x6
 (some (((2 : Int), ()), (), ()))
 (let x7 : Bool := decide (x5 < r1.1.2.1);
 br x7
 (some (((2 : Int), ()), (), ()))
 (some (((1 : Int), ()), (), ()))))
noncomputable def spec_l4Kind_C : Ctr := ⟨90, spec_l4Kind_arg, spec_l4Kind_res, fun x => spec_l4Kind x.1.1.1 x.1.1.2.1 x.1.1.2.2.1 x.1.2.1, none⟩
def spec_l4Kind_H : Hint := ⟨[], [], [], fun _ => []⟩
noncomputable def spec_l4Kind_T : List Ctr := [spec_l4Rest_C, spec_l4Rise_C]
noncomputable def spec_l4Kind_Ls : List Lp := []
theorem spec_l4Kind_e : ∀ x, spec_l4Kind_C.F x = runBodyW E0 spec_l4Kind_T spec_l4Kind_Ls spec_l4Kind_H 90 Tryz.f90.results.toList (bodyOf Tryz.f90) [] (spec_l4Kind_arg.mk' x) spec_l4Kind_res := fun x => by kernel_rfl
theorem spec_l4Kind_ok : spec_l4Kind_C.Ok E0 := fn_ok (T := spec_l4Kind_T) (h := spec_l4Kind_H) (Ls := spec_l4Kind_Ls) E0_mixed (T_cons spec_l4Rest_ok (T_cons spec_l4Rise_ok T_nil)) Tryz.func90 (bodyOf_some (by kernel_rfl)) (by kernel_rfl) (loops_of (ks := []) (by kernel_rfl) trivial) spec_l4Kind_e
def spec_IsBreaking_arg : Sh := ⟨[(0, .agg [.int .i64, .int .i64, .int .i64]), (1, .c (.rd [] .i64)), (2, .c (.rd [] .i64))], [], []⟩
def spec_IsBreaking_res : List Sh := [⟨[(0, .c (.bool))], [], []⟩]
noncomputable def spec_IsBreaking_s0 (x : (List Int × Unit × Int × List Int × Int × Int × Unit) × ((Int × Int × Int × Unit) × Unit) × Unit) : Option (((List Int × Unit × Int × List Int × Int × Int × Unit) × ((Int × Int × Int × Unit) × Unit) × Unit) ⊕ (((Bool × Unit) × Unit × Unit) ⊕ ((List Int × Int × Unit) × Unit × Unit))) :=
 let x2 : Bool := decide (x.1.2.2.2.2.2.1 < x.1.2.2.2.2.1);
 br x2
 (ck (0 ≤ x.1.2.2.2.2.2.1)
 (ck (x.1.2.2.2.2.2.1.toNat < x.1.2.2.2.1.length)
 (let x3 : Int := x.1.2.2.2.1.getD x.1.2.2.2.2.2.1.toNat 0;
 let x4 : Int := w64 ((x.1.1.length : Int) - x.1.2.2.1);
 (spec_l1In x3 (1 : Int) x4).bind fun r5 =>
 br (!r5.1.1)
 (some (.inr (.inl ((false, ()), (), ()))))
 (let x6 : Int := w64 (x.1.2.2.1 + x3);
 ck (0 ≤ x.1.2.2.1)
 (ck (0 ≤ x6)
 (ck (x.1.2.2.1.toNat ≤ x6.toNat ∧ x6.toNat ≤ x.1.1.length)
 (let x7 : List Int := cut x.1.1 x.1.2.2.1.toNat x6.toNat;
 (spec_l4Kind x.2.1.1.1 x.2.1.1.2.1 x.2.1.1.2.2.1 x7).bind fun r8 =>
 let x9 : Bool := r8.1.1 == (0 : Int);
 br x9
 (some (.inr (.inl ((false, ()), (), ()))))
 (let x10 : Bool := r8.1.1 == (1 : Int);
 br x10
 (let x11 : Bool := decide (x6 < (x.1.1.length : Int));
 br x11
 (some (.inr (.inl ((false, ()), (), ()))))
 (let x12 : Int := w64 (x.1.2.2.2.2.2.1 + (1 : Int));
 some (.inl ((x.1.1, (), x6, x.1.2.2.2.1, x.1.2.2.2.2.1, x12, ()), ((x.2.1.1.1, x.2.1.1.2.1, x.2.1.1.2.2.1, ()), ()), ()))))
 (let x13 : Int := w64 (x.1.2.2.2.2.2.1 + (1 : Int));
 some (.inl ((x.1.1, (), x6, x.1.2.2.2.1, x.1.2.2.2.2.1, x13, ()), ((x.2.1.1.1, x.2.1.1.2.1, x.2.1.1.2.2.1, ()), ()), ())))))))))))
 (some (.inr (.inr ((x.1.1, x.1.2.2.1, ()), (), ()))))
def spec_IsBreaking_h0 : Sh := ⟨[(1, .c (.rd [] .i64)), (3, .c (.box 0 0)), (7, .c (.int .i64)), (15, .c (.rd [] .i64)), (16, .c (.int .i64)), (17, .c (.int .i64))], [(0, .cells [.int .i64, .int .i64, .int .i64])], []⟩
def spec_IsBreaking_r0 : List Sh := [⟨[(6, .c (.bool))], [], []⟩, ⟨[(1, .c (.rd [] .i64)), (7, .c (.int .i64))], [], []⟩]
noncomputable def spec_IsBreaking_L0 : Lp := ⟨0, [], spec_IsBreaking_h0, [], [(.ret, []), (.exit 0, [])], spec_IsBreaking_r0, loopC spec_IsBreaking_s0⟩
noncomputable def spec_IsBreaking (a0_0 : Int) (a0_1 : Int) (a0_2 : Int) (a1 : List Int) (a2 : List Int) : Option ((Bool × Unit) × Unit × Unit) :=
 (spec_l4Ok a0_0 a0_1 a0_2 a1).bind fun r1 =>
 br (!r1.1.1)
 (some ((false, ()), (), ()))
 ((loopC spec_IsBreaking_s0 ((a1, (), (0 : Int), a2, (a2.length : Int), (0 : Int), ()), ((a0_0, a0_1, a0_2, ()), ()), ())).bind fun r14 =>
 sumK r14 (fun y17 =>
 some ((y17.1.1, ()), (), ())) (fun y18 =>
 let x19 : Bool := y18.1.2.1 == (y18.1.1.length : Int);
 some ((x19, ()), (), ())))
noncomputable def spec_IsBreaking_C : Ctr := ⟨57, spec_IsBreaking_arg, spec_IsBreaking_res, fun x => spec_IsBreaking x.1.1.1 x.1.1.2.1 x.1.1.2.2.1 x.1.2.1 x.1.2.2.1, none⟩
def spec_IsBreaking_H : Hint := ⟨[], [], [], fun _ => []⟩
noncomputable def spec_IsBreaking_T : List Ctr := [spec_l4Ok_C, spec_l1In_C, spec_l4Kind_C]
noncomputable def spec_IsBreaking_Ls : List Lp := [spec_IsBreaking_L0]
theorem spec_IsBreaking_l0 : ∀ x, spec_IsBreaking_s0 x = stepW E0 spec_IsBreaking_T spec_IsBreaking_Ls spec_IsBreaking_H (loopAt (bodyOf Tryz.f57) 0) 0 spec_IsBreaking_h0 [] [(.ret, []), (.exit 0, [])] spec_IsBreaking_r0 x := fun x => by kernel_rfl
theorem spec_IsBreaking_e : ∀ x, spec_IsBreaking_C.F x = runBodyW E0 spec_IsBreaking_T spec_IsBreaking_Ls spec_IsBreaking_H 57 Tryz.f57.results.toList (bodyOf Tryz.f57) [] (spec_IsBreaking_arg.mk' x) spec_IsBreaking_res := fun x => by kernel_rfl
theorem spec_IsBreaking_ok : spec_IsBreaking_C.Ok E0 := fn_ok (T := spec_IsBreaking_T) (h := spec_IsBreaking_H) (Ls := spec_IsBreaking_Ls) E0_mixed (T_cons spec_l4Ok_ok (T_cons spec_l1In_ok (T_cons spec_l4Kind_ok T_nil))) Tryz.func57 (bodyOf_some (by kernel_rfl)) (by kernel_rfl) (loops_of (ks := [0]) (by kernel_rfl) ⟨(loop_one (h := spec_IsBreaking_H) (own := []) (head := spec_IsBreaking_h0) (back := []) (exs := [(.ret, []), (.exit 0, [])]) (res := spec_IsBreaking_r0) (step := spec_IsBreaking_s0) (by kernel_rfl) spec_IsBreaking_l0), trivial⟩) spec_IsBreaking_e
def spec_GalleyOk_arg : Sh := ⟨[(0, .agg [.str, .rd [] .i64, .rd [] .i64]), (1, .agg [.int .i64, .int .i64, .int .i64]), (2, .c (.rd [] .str))], [], []⟩
def spec_GalleyOk_res : List Sh := [⟨[(0, .c (.bool))], [], []⟩]
noncomputable def spec_GalleyOk_s0 (x : (List ByteArray × Unit × Unit × Unit × List ByteArray × Int × Int × Unit) × ((ByteArray × List Int × List Int × Unit) × (Int × Int × Int × Unit) × Unit) × (List Int × Unit)) : Option (((List ByteArray × Unit × Unit × Unit × List ByteArray × Int × Int × Unit) × ((ByteArray × List Int × List Int × Unit) × (Int × Int × Int × Unit) × Unit) × (List Int × Unit)) ⊕ (((Bool × Unit) × Unit × Unit) ⊕ ((List ByteArray × Unit × Unit × Unit × Unit) × ((ByteArray × List Int × List Int × Unit) × (Int × Int × Int × Unit) × Unit) × (List Int × Unit)))) :=
 let x1 : Bool := decide (x.1.2.2.2.2.2.2.1 < x.1.2.2.2.2.2.1);
 br x1
 (ck (0 ≤ x.1.2.2.2.2.2.2.1)
 (ck (x.1.2.2.2.2.2.2.1.toNat < x.1.2.2.2.2.1.length)
 (let x2 : ByteArray := x.1.2.2.2.2.1.getD x.1.2.2.2.2.2.2.1.toNat ByteArray.empty;
 (spec_l6Words x2).bind fun r3 =>
 (spec_l6Join r3.2.2.1).bind fun r4 =>
 let x5 : Bool := !strEq r4.1.1 x2;
 br x5
 (some (.inr (.inl ((false, ()), (), ()))))
 (ck ((x.2.2.1.length + [(r3.2.2.1.length : Int)].length) * 8 ≤ 140737488355328 ∧ (x.2.2.1.length + [(r3.2.2.1.length : Int)].length) ≤ 9223372036854775807)
 (let x6 : List Int := x.2.2.1 ++ [(r3.2.2.1.length : Int)];
 let x7 : Int := w64 (x.1.2.2.2.2.2.2.1 + (1 : Int));
 some (.inl ((x.1.1, (), (), (), x.1.2.2.2.2.1, x.1.2.2.2.2.2.1, x7, ()), ((x.2.1.1.1, x.2.1.1.2.1, x.2.1.1.2.2.1, ()), (x.2.1.2.1.1, x.2.1.2.1.2.1, x.2.1.2.1.2.2.1, ()), ()), (x6, ()))))))))
 (some (.inr (.inr ((x.1.1, (), (), (), ()), ((x.2.1.1.1, x.2.1.1.2.1, x.2.1.1.2.2.1, ()), (x.2.1.2.1.1, x.2.1.2.1.2.1, x.2.1.2.1.2.2.1, ()), ()), (x.2.2.1, ())))))
def spec_GalleyOk_h0 : Sh := ⟨[(2, .c (.rd [] .str)), (3, .c (.box 0 0)), (4, .c (.box 1 0)), (7, .c (.own 0)), (14, .c (.rd [] .str)), (15, .c (.int .i64)), (16, .c (.int .i64))], [(0, .cells [.str, .rd [] .i64, .rd [] .i64]), (1, .cells [.int .i64, .int .i64, .int .i64])], [(0, .i64)]⟩
def spec_GalleyOk_r0 : List Sh := [⟨[(6, .c (.bool))], [], []⟩, ⟨[(2, .c (.rd [] .str)), (3, .c (.box 0 0)), (4, .c (.box 1 0)), (7, .c (.own 0))], [(0, .cells [.str, .rd [] .i64, .rd [] .i64]), (1, .cells [.int .i64, .int .i64, .int .i64])], [(0, .i64)]⟩]
noncomputable def spec_GalleyOk_L0 : Lp := ⟨0, [], spec_GalleyOk_h0, [], [(.ret, []), (.exit 0, [])], spec_GalleyOk_r0, loopC spec_GalleyOk_s0⟩
noncomputable def spec_GalleyOk (a0_0 : ByteArray) (a0_1 : List Int) (a0_2 : List Int) (a1_0 : Int) (a1_1 : Int) (a1_2 : Int) (a2 : List ByteArray) : Option ((Bool × Unit) × Unit × Unit) :=
 (loopC spec_GalleyOk_s0 ((a2, (), (), (), a2, (a2.length : Int), (0 : Int), ()), ((a0_0, a0_1, a0_2, ()), (a1_0, a1_1, a1_2, ()), ()), ([], ()))).bind fun r8 =>
 sumK r8 (fun y11 =>
 some ((y11.1.1, ()), (), ())) (fun y12 =>
 (spec_l6Join y12.1.1).bind fun r13 =>
 (spec_WordWidths y12.2.1.1.1 y12.2.1.1.2.1 y12.2.1.1.2.2.1 r13.1.1).bind fun r14 =>
 br r14.1.2.1
 ((spec_IsBreaking y12.2.1.2.1.1 y12.2.1.2.1.2.1 y12.2.1.2.1.2.2.1 r14.2.2.1 y12.2.2.1).bind fun r15 =>
 some ((r15.1.1, ()), (), ()))
 (some ((false, ()), (), ())))
noncomputable def spec_GalleyOk_C : Ctr := ⟨25, spec_GalleyOk_arg, spec_GalleyOk_res, fun x => spec_GalleyOk x.1.1.1 x.1.1.2.1 x.1.1.2.2.1 x.1.2.1.1 x.1.2.1.2.1 x.1.2.1.2.2.1 x.1.2.2.1, none⟩
def spec_GalleyOk_H : Hint := ⟨[], [], [], fun _ => []⟩
noncomputable def spec_GalleyOk_T : List Ctr := [spec_l6Words_C, spec_l6Join_C, spec_WordWidths_C, spec_IsBreaking_C]
noncomputable def spec_GalleyOk_Ls : List Lp := [spec_GalleyOk_L0]
theorem spec_GalleyOk_l0 : ∀ x, spec_GalleyOk_s0 x = stepW E0 spec_GalleyOk_T spec_GalleyOk_Ls spec_GalleyOk_H (loopAt (bodyOf Tryz.f25) 0) 0 spec_GalleyOk_h0 [] [(.ret, []), (.exit 0, [])] spec_GalleyOk_r0 x := fun x => by kernel_rfl
theorem spec_GalleyOk_e : ∀ x, spec_GalleyOk_C.F x = runBodyW E0 spec_GalleyOk_T spec_GalleyOk_Ls spec_GalleyOk_H 25 Tryz.f25.results.toList (bodyOf Tryz.f25) [] (spec_GalleyOk_arg.mk' x) spec_GalleyOk_res := fun x => by kernel_rfl
theorem spec_GalleyOk_ok : spec_GalleyOk_C.Ok E0 := fn_ok (T := spec_GalleyOk_T) (h := spec_GalleyOk_H) (Ls := spec_GalleyOk_Ls) E0_mixed (T_cons spec_l6Words_ok (T_cons spec_l6Join_ok (T_cons spec_WordWidths_ok (T_cons spec_IsBreaking_ok T_nil)))) Tryz.func25 (bodyOf_some (by kernel_rfl)) (by kernel_rfl) (loops_of (ks := [0]) (by kernel_rfl) ⟨(loop_one (h := spec_GalleyOk_H) (own := []) (head := spec_GalleyOk_h0) (back := []) (exs := [(.ret, []), (.exit 0, [])]) (res := spec_GalleyOk_r0) (step := spec_GalleyOk_s0) (by kernel_rfl) spec_GalleyOk_l0), trivial⟩) spec_GalleyOk_e
def spec_DeskOk_arg : Sh := ⟨[(0, .agg [.str, .rd [] .i64, .rd [] .i64, .rd [] .mats, .int .i64, .int .i64, .int .i64, .int .i64, .rd [] .mat, .rd [] .mat, .rd [] .str])], [], []⟩
def spec_DeskOk_res : List Sh := [⟨[(0, .c (.bool))], [], []⟩]
noncomputable def spec_DeskOk (a0_0 : ByteArray) (a0_1 : List Int) (a0_2 : List Int) (a0_3 : List (List (Int × Int))) (a0_4 : Int) (a0_5 : Int) (a0_6 : Int) (a0_7 : Int) (a0_8 : List (Int × Int)) (a0_9 : List (Int × Int)) (a0_10 : List ByteArray) : Option ((Bool × Unit) × Unit × Unit) :=
 (spec_MachineOk a0_0 a0_1 a0_2 a0_3 a0_4 a0_5 a0_6 a0_7 a0_8 a0_9).bind fun r1 =>
 br r1.1.1
 (let x2 : Bool := (a0_10.length : Int) == (0 : Int);
 br x2
 (some ((true, ()), (), ()))
 ((spec_GalleyOk a0_0 a0_1 a0_2 a0_5 a0_6 a0_7 a0_10).bind fun r3 =>
 some ((r3.1.1, ()), (), ())))
 (some ((false, ()), (), ()))
noncomputable def spec_DeskOk_C : Ctr := ⟨6, spec_DeskOk_arg, spec_DeskOk_res, fun x => spec_DeskOk x.1.1.1 x.1.1.2.1 x.1.1.2.2.1 x.1.1.2.2.2.1 x.1.1.2.2.2.2.1 x.1.1.2.2.2.2.2.1 x.1.1.2.2.2.2.2.2.1 x.1.1.2.2.2.2.2.2.2.1 x.1.1.2.2.2.2.2.2.2.2.1 x.1.1.2.2.2.2.2.2.2.2.2.1 x.1.1.2.2.2.2.2.2.2.2.2.2.1, none⟩
def spec_DeskOk_H : Hint := ⟨[], [], [], fun _ => []⟩
noncomputable def spec_DeskOk_T : List Ctr := [spec_MachineOk_C, spec_GalleyOk_C]
noncomputable def spec_DeskOk_Ls : List Lp := []
theorem spec_DeskOk_e : ∀ x, spec_DeskOk_C.F x = runBodyW E0 spec_DeskOk_T spec_DeskOk_Ls spec_DeskOk_H 6 Tryz.f6.results.toList (bodyOf Tryz.f6) [] (spec_DeskOk_arg.mk' x) spec_DeskOk_res := fun x => by kernel_rfl
theorem spec_DeskOk_ok : spec_DeskOk_C.Ok E0 := fn_ok (T := spec_DeskOk_T) (h := spec_DeskOk_H) (Ls := spec_DeskOk_Ls) E0_mixed (T_cons spec_MachineOk_ok (T_cons spec_GalleyOk_ok T_nil)) Tryz.func6 (bodyOf_some (by kernel_rfl)) (by kernel_rfl) (loops_of (ks := []) (by kernel_rfl) trivial) spec_DeskOk_e
def impl_between_1_arg : Sh := ⟨[(0, .c (.int .i64)), (1, .c (.rad [] [.int .i64])), (2, .c (.rad [] [.int .i64]))], [], []⟩
def impl_between_1_res : List Sh := [⟨[(0, .c (.bool))], [], []⟩]
noncomputable def impl_between_1 (a0 : Int) (a1_0 : Int) (a2_0 : Int) : Option ((Bool × Unit) × Unit × Unit) :=
 let x1 : Bool := decide (a0 < a1_0);
 br x1
 (some ((true, ()), (), ()))
 (let x2 : Bool := decide (a0 > a2_0);
 some ((x2, ()), (), ()))
noncomputable def impl_between_1_C : Ctr := ⟨146, impl_between_1_arg, impl_between_1_res, fun x => impl_between_1 x.1.1 x.1.2.1.1 x.1.2.2.1.1, none⟩
def impl_between_1_H : Hint := ⟨[], [], [], fun _ => []⟩
noncomputable def impl_between_1_T : List Ctr := []
noncomputable def impl_between_1_Ls : List Lp := []
theorem impl_between_1_e : ∀ x, impl_between_1_C.F x = runBodyW E0 impl_between_1_T impl_between_1_Ls impl_between_1_H 146 Tryz.f146.results.toList (bodyOf Tryz.f146) [] (impl_between_1_arg.mk' x) impl_between_1_res := fun x => by kernel_rfl
theorem impl_between_1_ok : impl_between_1_C.Ok E0 := fn_ok (T := impl_between_1_T) (h := impl_between_1_H) (Ls := impl_between_1_Ls) E0_mixed T_nil Tryz.func146 (bodyOf_some (by kernel_rfl)) (by kernel_rfl) (loops_of (ks := []) (by kernel_rfl) trivial) impl_between_1_e
def IndexFunc_int_impl_between_1_arg : Sh := ⟨[(0, .c (.rd [] .i64)), (1, .c (.fnr 146 [[.int .i64], [.int .i64]]))], [], []⟩
def IndexFunc_int_impl_between_1_res : List Sh := [⟨[(0, .c (.int .i64))], [], []⟩]
noncomputable def IndexFunc_int_impl_between_1_s0 (x : (List Int × ((Int × Unit) × (Int × Unit) × Unit) × Int × Int × Unit) × Unit × Unit) : Option (((List Int × ((Int × Unit) × (Int × Unit) × Unit) × Int × Int × Unit) × Unit × Unit) ⊕ (((Int × Unit) × Unit × Unit) ⊕ (Unit × Unit × Unit))) :=
 let x1 : Bool := decide (x.1.2.2.2.1 < x.1.2.2.1);
 br x1
 (ck (0 ≤ x.1.2.2.2.1)
 (ck (x.1.2.2.2.1.toNat < x.1.1.length)
 (let x2 : Int := x.1.1.getD x.1.2.2.2.1.toNat 0;
 (impl_between_1 x2 x.1.2.1.1.1 x.1.2.1.2.1.1).bind fun r3 =>
 br r3.1.1
 (some (.inr (.inl ((x.1.2.2.2.1, ()), (), ()))))
 (let x4 : Int := w64 (x.1.2.2.2.1 + (1 : Int));
 some (.inl ((x.1.1, ((x.1.2.1.1.1, ()), (x.1.2.1.2.1.1, ()), ()), x.1.2.2.1, x4, ()), (), ()))))))
 (some (.inr (.inr ((), (), ()))))
def IndexFunc_int_impl_between_1_h0 : Sh := ⟨[(0, .c (.rd [] .i64)), (1, .c (.fnr 146 [[.int .i64], [.int .i64]])), (7, .c (.int .i64)), (8, .c (.int .i64))], [], []⟩
def IndexFunc_int_impl_between_1_r0 : List Sh := [⟨[(4, .c (.int .i64))], [], []⟩, ⟨[], [], []⟩]
noncomputable def IndexFunc_int_impl_between_1_L0 : Lp := ⟨0, [], IndexFunc_int_impl_between_1_h0, [], [(.ret, []), (.exit 0, [])], IndexFunc_int_impl_between_1_r0, loopC IndexFunc_int_impl_between_1_s0⟩
noncomputable def IndexFunc_int_impl_between_1 (a0 : List Int) (a1_0_0 : Int) (a1_1_0 : Int) : Option ((Int × Unit) × Unit × Unit) :=
 (loopC IndexFunc_int_impl_between_1_s0 ((a0, ((a1_0_0, ()), (a1_1_0, ()), ()), (a0.length : Int), (0 : Int), ()), (), ())).bind fun r5 =>
 sumK r5 (fun y8 =>
 some ((y8.1.1, ()), (), ())) (fun y9 =>
 some (((-1 : Int), ()), (), ()))
noncomputable def IndexFunc_int_impl_between_1_C : Ctr := ⟨154, IndexFunc_int_impl_between_1_arg, IndexFunc_int_impl_between_1_res, fun x => IndexFunc_int_impl_between_1 x.1.1 x.1.2.1.1.1 x.1.2.1.2.1.1, none⟩
def IndexFunc_int_impl_between_1_H : Hint := ⟨[], [], [], fun _ => []⟩
noncomputable def IndexFunc_int_impl_between_1_T : List Ctr := [impl_between_1_C]
noncomputable def IndexFunc_int_impl_between_1_Ls : List Lp := [IndexFunc_int_impl_between_1_L0]
theorem IndexFunc_int_impl_between_1_l0 : ∀ x, IndexFunc_int_impl_between_1_s0 x = stepW E0 IndexFunc_int_impl_between_1_T IndexFunc_int_impl_between_1_Ls IndexFunc_int_impl_between_1_H (loopAt (bodyOf Tryz.f154) 0) 0 IndexFunc_int_impl_between_1_h0 [] [(.ret, []), (.exit 0, [])] IndexFunc_int_impl_between_1_r0 x := fun x => by kernel_rfl
theorem IndexFunc_int_impl_between_1_e : ∀ x, IndexFunc_int_impl_between_1_C.F x = runBodyW E0 IndexFunc_int_impl_between_1_T IndexFunc_int_impl_between_1_Ls IndexFunc_int_impl_between_1_H 154 Tryz.f154.results.toList (bodyOf Tryz.f154) [] (IndexFunc_int_impl_between_1_arg.mk' x) IndexFunc_int_impl_between_1_res := fun x => by kernel_rfl
theorem IndexFunc_int_impl_between_1_ok : IndexFunc_int_impl_between_1_C.Ok E0 := fn_ok (T := IndexFunc_int_impl_between_1_T) (h := IndexFunc_int_impl_between_1_H) (Ls := IndexFunc_int_impl_between_1_Ls) E0_mixed (T_cons impl_between_1_ok T_nil) Tryz.func154 (bodyOf_some (by kernel_rfl)) (by kernel_rfl) (loops_of (ks := [0]) (by kernel_rfl) ⟨(loop_one (h := IndexFunc_int_impl_between_1_H) (own := []) (head := IndexFunc_int_impl_between_1_h0) (back := []) (exs := [(.ret, []), (.exit 0, [])]) (res := IndexFunc_int_impl_between_1_r0) (step := IndexFunc_int_impl_between_1_s0) (by kernel_rfl) IndexFunc_int_impl_between_1_l0), trivial⟩) IndexFunc_int_impl_between_1_e
def ContainsFunc_int_impl_between_1_arg : Sh := ⟨[(0, .c (.rd [] .i64)), (1, .c (.fnr 146 [[.int .i64], [.int .i64]]))], [], []⟩
def ContainsFunc_int_impl_between_1_res : List Sh := [⟨[(0, .c (.bool))], [], []⟩]
noncomputable def ContainsFunc_int_impl_between_1 (a0 : List Int) (a1_0_0 : Int) (a1_1_0 : Int) : Option ((Bool × Unit) × Unit × Unit) :=
 (IndexFunc_int_impl_between_1 a0 a1_0_0 a1_1_0).bind fun r1 =>
 let x2 : Bool := decide (r1.1.1 ≥ (0 : Int));
 some ((x2, ()), (), ())
noncomputable def ContainsFunc_int_impl_between_1_C : Ctr := ⟨145, ContainsFunc_int_impl_between_1_arg, ContainsFunc_int_impl_between_1_res, fun x => ContainsFunc_int_impl_between_1 x.1.1 x.1.2.1.1.1 x.1.2.1.2.1.1, none⟩
def ContainsFunc_int_impl_between_1_H : Hint := ⟨[], [], [], fun _ => []⟩
noncomputable def ContainsFunc_int_impl_between_1_T : List Ctr := [IndexFunc_int_impl_between_1_C]
noncomputable def ContainsFunc_int_impl_between_1_Ls : List Lp := []
theorem ContainsFunc_int_impl_between_1_e : ∀ x, ContainsFunc_int_impl_between_1_C.F x = runBodyW E0 ContainsFunc_int_impl_between_1_T ContainsFunc_int_impl_between_1_Ls ContainsFunc_int_impl_between_1_H 145 Tryz.f145.results.toList (bodyOf Tryz.f145) [] (ContainsFunc_int_impl_between_1_arg.mk' x) ContainsFunc_int_impl_between_1_res := fun x => by kernel_rfl
theorem ContainsFunc_int_impl_between_1_ok : ContainsFunc_int_impl_between_1_C.Ok E0 := fn_ok (T := ContainsFunc_int_impl_between_1_T) (h := ContainsFunc_int_impl_between_1_H) (Ls := ContainsFunc_int_impl_between_1_Ls) E0_mixed (T_cons IndexFunc_int_impl_between_1_ok T_nil) Tryz.func145 (bodyOf_some (by kernel_rfl)) (by kernel_rfl) (loops_of (ks := []) (by kernel_rfl) trivial) ContainsFunc_int_impl_between_1_e
def impl_between_arg : Sh := ⟨[(0, .c (.rd [] .i64)), (1, .c (.int .i64)), (2, .c (.int .i64))], [], []⟩
def impl_between_res : List Sh := [⟨[(0, .c (.bool))], [], []⟩]
noncomputable def impl_between (a0 : List Int) (a1 : Int) (a2 : Int) : Option ((Bool × Unit) × Unit × Unit) :=
 (ContainsFunc_int_impl_between_1 a0 a1 a2).bind fun r1 =>
 some ((!r1.1.1, ()), (), ())
noncomputable def impl_between_C : Ctr := ⟨125, impl_between_arg, impl_between_res, fun x => impl_between x.1.1 x.1.2.1 x.1.2.2.1, none⟩
def impl_between_H : Hint := ⟨[], [], [], fun _ => []⟩
noncomputable def impl_between_T : List Ctr := [ContainsFunc_int_impl_between_1_C]
noncomputable def impl_between_Ls : List Lp := []
theorem impl_between_e : ∀ x, impl_between_C.F x = runBodyW E0 impl_between_T impl_between_Ls impl_between_H 125 Tryz.f125.results.toList (bodyOf Tryz.f125) [] (impl_between_arg.mk' x) impl_between_res := fun x => by kernel_rfl
theorem impl_between_ok : impl_between_C.Ok E0 := fn_ok (T := impl_between_T) (h := impl_between_H) (Ls := impl_between_Ls) E0_mixed (T_cons ContainsFunc_int_impl_between_1_ok T_nil) Tryz.func125 (bodyOf_some (by kernel_rfl)) (by kernel_rfl) (loops_of (ks := []) (by kernel_rfl) trivial) impl_between_e
def impl_isSet_arg : Sh := ⟨[(0, .c (.int .i64))], [], []⟩
def impl_isSet_res : List Sh := [⟨[(0, .c (.bool))], [], []⟩]
noncomputable def impl_isSet (a0 : Int) : Option ((Bool × Unit) × Unit × Unit) :=
 let x1 : Bool := decide (a0 ≥ (0 : Int));
 br x1
 (let x2 : Bool := decide (a0 ≤ (127 : Int));
 some ((x2, ()), (), ()))
 (some ((false, ()), (), ()))
noncomputable def impl_isSet_C : Ctr := ⟨94, impl_isSet_arg, impl_isSet_res, fun x => impl_isSet x.1.1, none⟩
def impl_isSet_H : Hint := ⟨[], [], [], fun _ => []⟩
noncomputable def impl_isSet_T : List Ctr := []
noncomputable def impl_isSet_Ls : List Lp := []
theorem impl_isSet_e : ∀ x, impl_isSet_C.F x = runBodyW E0 impl_isSet_T impl_isSet_Ls impl_isSet_H 94 Tryz.f94.results.toList (bodyOf Tryz.f94) [] (impl_isSet_arg.mk' x) impl_isSet_res := fun x => by kernel_rfl
theorem impl_isSet_ok : impl_isSet_C.Ok E0 := fn_ok (T := impl_isSet_T) (h := impl_isSet_H) (Ls := impl_isSet_Ls) E0_mixed T_nil Tryz.func94 (bodyOf_some (by kernel_rfl)) (by kernel_rfl) (loops_of (ks := []) (by kernel_rfl) trivial) impl_isSet_e
def impl_IsBar_1_arg : Sh := ⟨[(0, .c (.int .i64))], [], []⟩
def impl_IsBar_1_res : List Sh := [⟨[(0, .c (.bool))], [], []⟩]
noncomputable def impl_IsBar_1 (a0 : Int) : Option ((Bool × Unit) × Unit × Unit) :=
 (impl_isSet a0).bind fun r1 =>
 some ((!r1.1.1, ()), (), ())
noncomputable def impl_IsBar_1_C : Ctr := ⟨155, impl_IsBar_1_arg, impl_IsBar_1_res, fun x => impl_IsBar_1 x.1.1, none⟩
def impl_IsBar_1_H : Hint := ⟨[], [], [], fun _ => []⟩
noncomputable def impl_IsBar_1_T : List Ctr := [impl_isSet_C]
noncomputable def impl_IsBar_1_Ls : List Lp := []
theorem impl_IsBar_1_e : ∀ x, impl_IsBar_1_C.F x = runBodyW E0 impl_IsBar_1_T impl_IsBar_1_Ls impl_IsBar_1_H 155 Tryz.f155.results.toList (bodyOf Tryz.f155) [] (impl_IsBar_1_arg.mk' x) impl_IsBar_1_res := fun x => by kernel_rfl
theorem impl_IsBar_1_ok : impl_IsBar_1_C.Ok E0 := fn_ok (T := impl_IsBar_1_T) (h := impl_IsBar_1_H) (Ls := impl_IsBar_1_Ls) E0_mixed (T_cons impl_isSet_ok T_nil) Tryz.func155 (bodyOf_some (by kernel_rfl)) (by kernel_rfl) (loops_of (ks := []) (by kernel_rfl) trivial) impl_IsBar_1_e
def IndexFunc_int_impl_IsBar_1_arg : Sh := ⟨[(0, .c (.rd [] .i64)), (1, .c (.fnr 155 []))], [], []⟩
def IndexFunc_int_impl_IsBar_1_res : List Sh := [⟨[(0, .c (.int .i64))], [], []⟩]
noncomputable def IndexFunc_int_impl_IsBar_1_s0 (x : (List Int × Unit × Int × Int × Unit) × Unit × Unit) : Option (((List Int × Unit × Int × Int × Unit) × Unit × Unit) ⊕ (((Int × Unit) × Unit × Unit) ⊕ (Unit × Unit × Unit))) :=
 let x1 : Bool := decide (x.1.2.2.2.1 < x.1.2.2.1);
 br x1
 (ck (0 ≤ x.1.2.2.2.1)
 (ck (x.1.2.2.2.1.toNat < x.1.1.length)
 (let x2 : Int := x.1.1.getD x.1.2.2.2.1.toNat 0;
 (impl_IsBar_1 x2).bind fun r3 =>
 br r3.1.1
 (some (.inr (.inl ((x.1.2.2.2.1, ()), (), ()))))
 (let x4 : Int := w64 (x.1.2.2.2.1 + (1 : Int));
 some (.inl ((x.1.1, (), x.1.2.2.1, x4, ()), (), ()))))))
 (some (.inr (.inr ((), (), ()))))
def IndexFunc_int_impl_IsBar_1_h0 : Sh := ⟨[(0, .c (.rd [] .i64)), (1, .c (.fnr 155 [])), (7, .c (.int .i64)), (8, .c (.int .i64))], [], []⟩
def IndexFunc_int_impl_IsBar_1_r0 : List Sh := [⟨[(4, .c (.int .i64))], [], []⟩, ⟨[], [], []⟩]
noncomputable def IndexFunc_int_impl_IsBar_1_L0 : Lp := ⟨0, [], IndexFunc_int_impl_IsBar_1_h0, [], [(.ret, []), (.exit 0, [])], IndexFunc_int_impl_IsBar_1_r0, loopC IndexFunc_int_impl_IsBar_1_s0⟩
noncomputable def IndexFunc_int_impl_IsBar_1 (a0 : List Int) : Option ((Int × Unit) × Unit × Unit) :=
 (loopC IndexFunc_int_impl_IsBar_1_s0 ((a0, (), (a0.length : Int), (0 : Int), ()), (), ())).bind fun r5 =>
 sumK r5 (fun y8 =>
 some ((y8.1.1, ()), (), ())) (fun y9 =>
 some (((-1 : Int), ()), (), ()))
noncomputable def IndexFunc_int_impl_IsBar_1_C : Ctr := ⟨154, IndexFunc_int_impl_IsBar_1_arg, IndexFunc_int_impl_IsBar_1_res, fun x => IndexFunc_int_impl_IsBar_1 x.1.1, none⟩
def IndexFunc_int_impl_IsBar_1_H : Hint := ⟨[], [], [], fun _ => []⟩
noncomputable def IndexFunc_int_impl_IsBar_1_T : List Ctr := [impl_IsBar_1_C]
noncomputable def IndexFunc_int_impl_IsBar_1_Ls : List Lp := [IndexFunc_int_impl_IsBar_1_L0]
theorem IndexFunc_int_impl_IsBar_1_l0 : ∀ x, IndexFunc_int_impl_IsBar_1_s0 x = stepW E0 IndexFunc_int_impl_IsBar_1_T IndexFunc_int_impl_IsBar_1_Ls IndexFunc_int_impl_IsBar_1_H (loopAt (bodyOf Tryz.f154) 0) 0 IndexFunc_int_impl_IsBar_1_h0 [] [(.ret, []), (.exit 0, [])] IndexFunc_int_impl_IsBar_1_r0 x := fun x => by kernel_rfl
theorem IndexFunc_int_impl_IsBar_1_e : ∀ x, IndexFunc_int_impl_IsBar_1_C.F x = runBodyW E0 IndexFunc_int_impl_IsBar_1_T IndexFunc_int_impl_IsBar_1_Ls IndexFunc_int_impl_IsBar_1_H 154 Tryz.f154.results.toList (bodyOf Tryz.f154) [] (IndexFunc_int_impl_IsBar_1_arg.mk' x) IndexFunc_int_impl_IsBar_1_res := fun x => by kernel_rfl
theorem IndexFunc_int_impl_IsBar_1_ok : IndexFunc_int_impl_IsBar_1_C.Ok E0 := fn_ok (T := IndexFunc_int_impl_IsBar_1_T) (h := IndexFunc_int_impl_IsBar_1_H) (Ls := IndexFunc_int_impl_IsBar_1_Ls) E0_mixed (T_cons impl_IsBar_1_ok T_nil) Tryz.func154 (bodyOf_some (by kernel_rfl)) (by kernel_rfl) (loops_of (ks := [0]) (by kernel_rfl) ⟨(loop_one (h := IndexFunc_int_impl_IsBar_1_H) (own := []) (head := IndexFunc_int_impl_IsBar_1_h0) (back := []) (exs := [(.ret, []), (.exit 0, [])]) (res := IndexFunc_int_impl_IsBar_1_r0) (step := IndexFunc_int_impl_IsBar_1_s0) (by kernel_rfl) IndexFunc_int_impl_IsBar_1_l0), trivial⟩) IndexFunc_int_impl_IsBar_1_e
def ContainsFunc_int_impl_IsBar_1_arg : Sh := ⟨[(0, .c (.rd [] .i64)), (1, .c (.fnr 155 []))], [], []⟩
def ContainsFunc_int_impl_IsBar_1_res : List Sh := [⟨[(0, .c (.bool))], [], []⟩]
noncomputable def ContainsFunc_int_impl_IsBar_1 (a0 : List Int) : Option ((Bool × Unit) × Unit × Unit) :=
 (IndexFunc_int_impl_IsBar_1 a0).bind fun r1 =>
 let x2 : Bool := decide (r1.1.1 ≥ (0 : Int));
 some ((x2, ()), (), ())
noncomputable def ContainsFunc_int_impl_IsBar_1_C : Ctr := ⟨145, ContainsFunc_int_impl_IsBar_1_arg, ContainsFunc_int_impl_IsBar_1_res, fun x => ContainsFunc_int_impl_IsBar_1 x.1.1, none⟩
def ContainsFunc_int_impl_IsBar_1_H : Hint := ⟨[], [], [], fun _ => []⟩
noncomputable def ContainsFunc_int_impl_IsBar_1_T : List Ctr := [IndexFunc_int_impl_IsBar_1_C]
noncomputable def ContainsFunc_int_impl_IsBar_1_Ls : List Lp := []
theorem ContainsFunc_int_impl_IsBar_1_e : ∀ x, ContainsFunc_int_impl_IsBar_1_C.F x = runBodyW E0 ContainsFunc_int_impl_IsBar_1_T ContainsFunc_int_impl_IsBar_1_Ls ContainsFunc_int_impl_IsBar_1_H 145 Tryz.f145.results.toList (bodyOf Tryz.f145) [] (ContainsFunc_int_impl_IsBar_1_arg.mk' x) ContainsFunc_int_impl_IsBar_1_res := fun x => by kernel_rfl
theorem ContainsFunc_int_impl_IsBar_1_ok : ContainsFunc_int_impl_IsBar_1_C.Ok E0 := fn_ok (T := ContainsFunc_int_impl_IsBar_1_T) (h := ContainsFunc_int_impl_IsBar_1_H) (Ls := ContainsFunc_int_impl_IsBar_1_Ls) E0_mixed (T_cons IndexFunc_int_impl_IsBar_1_ok T_nil) Tryz.func145 (bodyOf_some (by kernel_rfl)) (by kernel_rfl) (loops_of (ks := []) (by kernel_rfl) trivial) ContainsFunc_int_impl_IsBar_1_e
def impl_IsBar_arg : Sh := ⟨[(0, .c (.rd [] .i64))], [], []⟩
def impl_IsBar_res : List Sh := [⟨[(0, .c (.bool))], [], []⟩]
noncomputable def impl_IsBar (a0 : List Int) : Option ((Bool × Unit) × Unit × Unit) :=
 let x1 : Bool := decide ((a0.length : Int) ≥ (1 : Int));
 br x1
 (let x2 : Bool := decide ((a0.length : Int) ≤ (40 : Int));
 br x2
 ((ContainsFunc_int_impl_IsBar_1 a0).bind fun r3 =>
 some ((!r3.1.1, ()), (), ()))
 (some ((false, ()), (), ())))
 (some ((false, ()), (), ()))
noncomputable def impl_IsBar_C : Ctr := ⟨147, impl_IsBar_arg, impl_IsBar_res, fun x => impl_IsBar x.1.1, none⟩
def impl_IsBar_H : Hint := ⟨[], [], [], fun _ => []⟩
noncomputable def impl_IsBar_T : List Ctr := [ContainsFunc_int_impl_IsBar_1_C]
noncomputable def impl_IsBar_Ls : List Lp := []
theorem impl_IsBar_e : ∀ x, impl_IsBar_C.F x = runBodyW E0 impl_IsBar_T impl_IsBar_Ls impl_IsBar_H 147 Tryz.f147.results.toList (bodyOf Tryz.f147) [] (impl_IsBar_arg.mk' x) impl_IsBar_res := fun x => by kernel_rfl
theorem impl_IsBar_ok : impl_IsBar_C.Ok E0 := fn_ok (T := impl_IsBar_T) (h := impl_IsBar_H) (Ls := impl_IsBar_Ls) E0_mixed (T_cons ContainsFunc_int_impl_IsBar_1_ok T_nil) Tryz.func147 (bodyOf_some (by kernel_rfl)) (by kernel_rfl) (loops_of (ks := []) (by kernel_rfl) trivial) impl_IsBar_e
def impl_part_arg : Sh := ⟨[(0, .c (.int .i64)), (1, .c (.int .i64))], [], []⟩
def impl_part_res : List Sh := [⟨[(0, .c (.bool))], [], []⟩]
noncomputable def impl_part (a0 : Int) (a1 : Int) : Option ((Bool × Unit) × Unit × Unit) :=
 let x1 : Int := bAndNot .i64 a0 a1;
 let x2 : Bool := x1 == (0 : Int);
 some ((x2, ()), (), ())
noncomputable def impl_part_C : Ctr := ⟨95, impl_part_arg, impl_part_res, fun x => impl_part x.1.1 x.1.2.1, none⟩
def impl_part_H : Hint := ⟨[], [], [], fun _ => []⟩
noncomputable def impl_part_T : List Ctr := []
noncomputable def impl_part_Ls : List Lp := []
theorem impl_part_e : ∀ x, impl_part_C.F x = runBodyW E0 impl_part_T impl_part_Ls impl_part_H 95 Tryz.f95.results.toList (bodyOf Tryz.f95) [] (impl_part_arg.mk' x) impl_part_res := fun x => by kernel_rfl
theorem impl_part_ok : impl_part_C.Ok E0 := fn_ok (T := impl_part_T) (h := impl_part_H) (Ls := impl_part_Ls) E0_mixed T_nil Tryz.func95 (bodyOf_some (by kernel_rfl)) (by kernel_rfl) (loops_of (ks := []) (by kernel_rfl) trivial) impl_part_e
def impl_fall_arg : Sh := ⟨[(0, .c (.rd [] .i64)), (1, .c (.int .i64))], [], []⟩
def impl_fall_res : List Sh := [⟨[(0, .c (.int .i64))], [], []⟩]
noncomputable def impl_fall_s0 (x : (List Int × Int × List Int × Int × Int × Unit) × Unit × Unit) : Option (((List Int × Int × List Int × Int × Int × Unit) × Unit × Unit) ⊕ (((Int × Unit) × Unit × Unit) ⊕ ((List Int × Unit) × Unit × Unit))) :=
 let x1 : Bool := decide (x.1.2.2.2.2.1 < x.1.2.2.2.1);
 br x1
 (ck (0 ≤ x.1.2.2.2.2.1)
 (ck (x.1.2.2.2.2.1.toNat < x.1.2.2.1.length)
 (let x2 : Int := x.1.2.2.1.getD x.1.2.2.2.2.1.toNat 0;
 (impl_part x.1.2.1 x2).bind fun r3 =>
 br r3.1.1
 (some (.inr (.inl ((x.1.2.2.2.2.1, ()), (), ()))))
 (let x4 : Int := w64 (x.1.2.2.2.2.1 + (1 : Int));
 some (.inl ((x.1.1, x.1.2.1, x.1.2.2.1, x.1.2.2.2.1, x4, ()), (), ()))))))
 (some (.inr (.inr ((x.1.1, ()), (), ()))))
def impl_fall_h0 : Sh := ⟨[(0, .c (.rd [] .i64)), (1, .c (.int .i64)), (7, .c (.rd [] .i64)), (8, .c (.int .i64)), (9, .c (.int .i64))], [], []⟩
def impl_fall_r0 : List Sh := [⟨[(4, .c (.int .i64))], [], []⟩, ⟨[(0, .c (.rd [] .i64))], [], []⟩]
noncomputable def impl_fall_L0 : Lp := ⟨0, [], impl_fall_h0, [], [(.ret, []), (.exit 0, [])], impl_fall_r0, loopC impl_fall_s0⟩
noncomputable def impl_fall (a0 : List Int) (a1 : Int) : Option ((Int × Unit) × Unit × Unit) :=
 (loopC impl_fall_s0 ((a0, a1, a0, (a0.length : Int), (0 : Int), ()), (), ())).bind fun r5 =>
 sumK r5 (fun y8 =>
 some ((y8.1.1, ()), (), ())) (fun y9 =>
 some (((y9.1.1.length : Int), ()), (), ()))
noncomputable def impl_fall_C : Ctr := ⟨143, impl_fall_arg, impl_fall_res, fun x => impl_fall x.1.1 x.1.2.1, none⟩
def impl_fall_H : Hint := ⟨[], [], [], fun _ => []⟩
noncomputable def impl_fall_T : List Ctr := [impl_part_C]
noncomputable def impl_fall_Ls : List Lp := [impl_fall_L0]
theorem impl_fall_l0 : ∀ x, impl_fall_s0 x = stepW E0 impl_fall_T impl_fall_Ls impl_fall_H (loopAt (bodyOf Tryz.f143) 0) 0 impl_fall_h0 [] [(.ret, []), (.exit 0, [])] impl_fall_r0 x := fun x => by kernel_rfl
theorem impl_fall_e : ∀ x, impl_fall_C.F x = runBodyW E0 impl_fall_T impl_fall_Ls impl_fall_H 143 Tryz.f143.results.toList (bodyOf Tryz.f143) [] (impl_fall_arg.mk' x) impl_fall_res := fun x => by kernel_rfl
theorem impl_fall_ok : impl_fall_C.Ok E0 := fn_ok (T := impl_fall_T) (h := impl_fall_H) (Ls := impl_fall_Ls) E0_mixed (T_cons impl_part_ok T_nil) Tryz.func143 (bodyOf_some (by kernel_rfl)) (by kernel_rfl) (loops_of (ks := [0]) (by kernel_rfl) ⟨(loop_one (h := impl_fall_H) (own := []) (head := impl_fall_h0) (back := []) (exs := [(.ret, []), (.exit 0, [])]) (res := impl_fall_r0) (step := impl_fall_s0) (by kernel_rfl) impl_fall_l0), trivial⟩) impl_fall_e
def impl_SortsAll_arg : Sh := ⟨[(0, .c (.rd [] .i64))], [], []⟩
def impl_SortsAll_res : List Sh := [⟨[(0, .c (.bool))], [], []⟩]
noncomputable def impl_SortsAll_s0 (x : (List Int × List Int × Int × Int × Unit) × Unit × Unit) : Option (((List Int × List Int × Int × Int × Unit) × Unit × Unit) ⊕ (((Bool × Unit) × Unit × Unit) ⊕ (Unit × Unit × Unit))) :=
 let x2 : Bool := decide (x.1.2.2.2.1 < x.1.2.2.1);
 br x2
 (ck (0 ≤ x.1.2.2.2.1)
 (ck (x.1.2.2.2.1.toNat < x.1.2.1.length)
 (let x3 : Int := x.1.2.1.getD x.1.2.2.2.1.toNat 0;
 (impl_fall x.1.1 x3).bind fun r4 =>
 let x5 : Bool := r4.1.1 != x.1.2.2.2.1;
 br x5
 (some (.inr (.inl ((false, ()), (), ()))))
 (let x6 : Int := w64 (x.1.2.2.2.1 + (1 : Int));
 some (.inl ((x.1.1, x.1.2.1, x.1.2.2.1, x6, ()), (), ()))))))
 (some (.inr (.inr ((), (), ()))))
def impl_SortsAll_h0 : Sh := ⟨[(0, .c (.rd [] .i64)), (8, .c (.rd [] .i64)), (9, .c (.int .i64)), (10, .c (.int .i64))], [], []⟩
def impl_SortsAll_r0 : List Sh := [⟨[(2, .c (.bool))], [], []⟩, ⟨[], [], []⟩]
noncomputable def impl_SortsAll_L0 : Lp := ⟨0, [], impl_SortsAll_h0, [], [(.ret, []), (.exit 0, [])], impl_SortsAll_r0, loopC impl_SortsAll_s0⟩
noncomputable def impl_SortsAll (a0 : List Int) : Option ((Bool × Unit) × Unit × Unit) :=
 (impl_IsBar a0).bind fun r1 =>
 br (!r1.1.1)
 (some ((false, ()), (), ()))
 ((loopC impl_SortsAll_s0 ((a0, a0, (a0.length : Int), (0 : Int), ()), (), ())).bind fun r7 =>
 sumK r7 (fun y10 =>
 some ((y10.1.1, ()), (), ())) (fun y11 =>
 some ((true, ()), (), ())))
noncomputable def impl_SortsAll_C : Ctr := ⟨126, impl_SortsAll_arg, impl_SortsAll_res, fun x => impl_SortsAll x.1.1, none⟩
def impl_SortsAll_H : Hint := ⟨[], [], [], fun _ => []⟩
noncomputable def impl_SortsAll_T : List Ctr := [impl_IsBar_C, impl_fall_C]
noncomputable def impl_SortsAll_Ls : List Lp := [impl_SortsAll_L0]
theorem impl_SortsAll_l0 : ∀ x, impl_SortsAll_s0 x = stepW E0 impl_SortsAll_T impl_SortsAll_Ls impl_SortsAll_H (loopAt (bodyOf Tryz.f126) 0) 0 impl_SortsAll_h0 [] [(.ret, []), (.exit 0, [])] impl_SortsAll_r0 x := fun x => by kernel_rfl
theorem impl_SortsAll_e : ∀ x, impl_SortsAll_C.F x = runBodyW E0 impl_SortsAll_T impl_SortsAll_Ls impl_SortsAll_H 126 Tryz.f126.results.toList (bodyOf Tryz.f126) [] (impl_SortsAll_arg.mk' x) impl_SortsAll_res := fun x => by kernel_rfl
theorem impl_SortsAll_ok : impl_SortsAll_C.Ok E0 := fn_ok (T := impl_SortsAll_T) (h := impl_SortsAll_H) (Ls := impl_SortsAll_Ls) E0_mixed (T_cons impl_IsBar_ok (T_cons impl_fall_ok T_nil)) Tryz.func126 (bodyOf_some (by kernel_rfl)) (by kernel_rfl) (loops_of (ks := [0]) (by kernel_rfl) ⟨(loop_one (h := impl_SortsAll_H) (own := []) (head := impl_SortsAll_h0) (back := []) (exs := [(.ret, []), (.exit 0, [])]) (res := impl_SortsAll_r0) (step := impl_SortsAll_s0) (by kernel_rfl) impl_SortsAll_l0), trivial⟩) impl_SortsAll_e
def impl_FontOk_arg : Sh := ⟨[(0, .agg [.str, .rd [] .i64, .rd [] .i64])], [], []⟩
def impl_FontOk_res : List Sh := [⟨[(0, .c (.bool))], [], []⟩]
noncomputable def impl_FontOk_s0 (x : (Unit × Unit × Int × Int × Unit) × ((ByteArray × List Int × List Int × Unit) × List Bool × Unit) × Unit) : Option (((Unit × Unit × Int × Int × Unit) × ((ByteArray × List Int × List Int × Unit) × List Bool × Unit) × Unit) ⊕ (((Bool × Unit) × Unit × Unit) ⊕ ((Unit × Unit) × ((ByteArray × List Int × List Int × Unit) × Unit) × Unit))) :=
 let x5 : Bool := decide (x.1.2.2.2.1 < x.1.2.2.1);
 br x5
 (ck (0 ≤ x.1.2.2.2.1 ∧ x.1.2.2.2.1.toNat < x.2.1.1.1.size)
 (let x6 : Int := byteAt x.2.1.1.1 x.1.2.2.2.1.toNat;
 let x7 : Bool := decide (x6 < (33 : Int));
 br x7
 (some (.inr (.inl ((false, ()), (), ()))))
 (let x8 : Bool := decide (x6 > (126 : Int));
 br x8
 (some (.inr (.inl ((false, ()), (), ()))))
 (ck (0 ≤ x6)
 (ck (x6.toNat < 256)
 (ck (x6.toNat < x.2.1.2.1.length)
 (let x9 : Bool := x.2.1.2.1.getD x6.toNat false;
 br x9
 (some (.inr (.inl ((false, ()), (), ()))))
 (ck (0 ≤ x6)
 (ck (x6.toNat < 256)
 (ck (x6.toNat < x.2.1.2.1.length)
 (let x10 : List Bool := x.2.1.2.1.set x6.toNat true;
 let x11 : Int := w64 (x.1.2.2.2.1 + (1 : Int));
 some (.inl (((), (), x.1.2.2.1, x11, ()), ((x.2.1.1.1, x.2.1.1.2.1, x.2.1.1.2.2.1, ()), x10, ()), ())))))))))))))
 (some (.inr (.inr (((), ()), ((x.2.1.1.1, x.2.1.1.2.1, x.2.1.1.2.2.1, ()), ()), ()))))
def impl_FontOk_h0 : Sh := ⟨[(1, .c (.box 0 0)), (3, .c (.box 1 0)), (36, .c (.int .i64)), (37, .c (.int .i64))], [(0, .cells [.str, .rd [] .i64, .rd [] .i64]), (1, .arr)], []⟩
def impl_FontOk_r0 : List Sh := [⟨[(2, .c (.bool))], [], []⟩, ⟨[(1, .c (.box 0 0))], [(0, .cells [.str, .rd [] .i64, .rd [] .i64])], []⟩]
noncomputable def impl_FontOk_L0 : Lp := ⟨0, [], impl_FontOk_h0, [], [(.ret, []), (.exit 0, [])], impl_FontOk_r0, loopC impl_FontOk_s0⟩
noncomputable def impl_FontOk (a0_0 : ByteArray) (a0_1 : List Int) (a0_2 : List Int) : Option ((Bool × Unit) × Unit × Unit) :=
 let x1 : Bool := decide ((a0_0.size : Int) < (1 : Int));
 br x1
 (some ((false, ()), (), ()))
 (let x2 : Bool := decide ((a0_0.size : Int) > (40 : Int));
 br x2
 (some ((false, ()), (), ()))
 (let x3 : Bool := (a0_1.length : Int) != (a0_0.size : Int);
 br x3
 (some ((false, ()), (), ()))
 (let x4 : Bool := (a0_2.length : Int) != (a0_0.size : Int);
 br x4
 (some ((false, ()), (), ()))
 ((loopC impl_FontOk_s0 (((), (), (a0_0.size : Int), (0 : Int), ()), ((a0_0, a0_1, a0_2, ()), (List.replicate 256 false), ()), ())).bind fun r12 =>
 sumK r12 (fun y15 =>
 some ((y15.1.1, ()), (), ())) (fun y16 =>
 (impl_between y16.2.1.1.2.1 (1 : Int) (60 : Int)).bind fun r17 =>
 br r17.1.1
 ((impl_SortsAll y16.2.1.1.2.2.1).bind fun r18 =>
 some ((r18.1.1, ()), (), ()))
 (some ((false, ()), (), ())))))))
noncomputable def impl_FontOk_C : Ctr := ⟨91, impl_FontOk_arg, impl_FontOk_res, fun x => impl_FontOk x.1.1.1 x.1.1.2.1 x.1.1.2.2.1, none⟩
def impl_FontOk_H : Hint := ⟨[], [], [], fun _ => []⟩
noncomputable def impl_FontOk_T : List Ctr := [impl_between_C, impl_SortsAll_C]
noncomputable def impl_FontOk_Ls : List Lp := [impl_FontOk_L0]
theorem impl_FontOk_l0 : ∀ x, impl_FontOk_s0 x = stepW E0 impl_FontOk_T impl_FontOk_Ls impl_FontOk_H (loopAt (bodyOf Tryz.f91) 0) 0 impl_FontOk_h0 [] [(.ret, []), (.exit 0, [])] impl_FontOk_r0 x := fun x => by kernel_rfl
theorem impl_FontOk_e : ∀ x, impl_FontOk_C.F x = runBodyW E0 impl_FontOk_T impl_FontOk_Ls impl_FontOk_H 91 Tryz.f91.results.toList (bodyOf Tryz.f91) [] (impl_FontOk_arg.mk' x) impl_FontOk_res := fun x => by kernel_rfl
theorem impl_FontOk_ok : impl_FontOk_C.Ok E0 := fn_ok (T := impl_FontOk_T) (h := impl_FontOk_H) (Ls := impl_FontOk_Ls) E0_mixed (T_cons impl_between_ok (T_cons impl_SortsAll_ok T_nil)) Tryz.func91 (bodyOf_some (by kernel_rfl)) (by kernel_rfl) (loops_of (ks := [0]) (by kernel_rfl) ⟨(loop_one (h := impl_FontOk_H) (own := []) (head := impl_FontOk_h0) (back := []) (exs := [(.ret, []), (.exit 0, [])]) (res := impl_FontOk_r0) (step := impl_FontOk_s0) (by kernel_rfl) impl_FontOk_l0), trivial⟩) impl_FontOk_e
def impl_ofFont_arg : Sh := ⟨[(0, .agg [.str, .rd [] .i64, .rd [] .i64]), (1, .agg [.int .i64, .int .i64])], [], []⟩
def impl_ofFont_res : List Sh := [⟨[(0, .c (.bool))], [], []⟩]
noncomputable def impl_ofFont (a0_0 : ByteArray) (a0_1 : List Int) (a0_2 : List Int) (a1_0 : Int) (a1_1 : Int) : Option ((Bool × Unit) × Unit × Unit) :=
 let x1 : Bool := decide (a1_0 ≥ (0 : Int));
 br x1
 (let x2 : Bool := decide (a1_0 < (a0_0.size : Int));
 br x2
 ((impl_isSet a1_1).bind fun r3 =>
 br r3.1.1
 (ck (0 ≤ a1_0)
 (ck (a1_0.toNat < a0_2.length)
 (let x4 : Int := a0_2.getD a1_0.toNat 0;
 (impl_part a1_1 x4).bind fun r5 =>
 some ((r5.1.1, ()), (), ()))))
 (some ((false, ()), (), ())))
 (some ((false, ()), (), ())))
 (some ((false, ()), (), ()))
noncomputable def impl_ofFont_C : Ctr := ⟨63, impl_ofFont_arg, impl_ofFont_res, fun x => impl_ofFont x.1.1.1 x.1.1.2.1 x.1.1.2.2.1 x.1.2.1.1 x.1.2.1.2.1, none⟩
def impl_ofFont_H : Hint := ⟨[], [], [], fun _ => []⟩
noncomputable def impl_ofFont_T : List Ctr := [impl_isSet_C, impl_part_C]
noncomputable def impl_ofFont_Ls : List Lp := []
theorem impl_ofFont_e : ∀ x, impl_ofFont_C.F x = runBodyW E0 impl_ofFont_T impl_ofFont_Ls impl_ofFont_H 63 Tryz.f63.results.toList (bodyOf Tryz.f63) [] (impl_ofFont_arg.mk' x) impl_ofFont_res := fun x => by kernel_rfl
theorem impl_ofFont_ok : impl_ofFont_C.Ok E0 := fn_ok (T := impl_ofFont_T) (h := impl_ofFont_H) (Ls := impl_ofFont_Ls) E0_mixed (T_cons impl_isSet_ok (T_cons impl_part_ok T_nil)) Tryz.func63 (bodyOf_some (by kernel_rfl)) (by kernel_rfl) (loops_of (ks := []) (by kernel_rfl) trivial) impl_ofFont_e
def impl_allOf_1_arg : Sh := ⟨[(0, .agg [.int .i64, .int .i64]), (1, .c (.rad [] [.str, .s .i64, .s .i64]))], [], []⟩
def impl_allOf_1_res : List Sh := [⟨[(0, .c (.bool))], [], []⟩]
noncomputable def impl_allOf_1 (a0_0 : Int) (a0_1 : Int) (a1_0 : ByteArray) (a1_1 : List Int) (a1_2 : List Int) : Option ((Bool × Unit) × Unit × Unit) :=
 (impl_ofFont a1_0 a1_1 a1_2 a0_0 a0_1).bind fun r1 =>
 some ((!r1.1.1, ()), (), ())
noncomputable def impl_allOf_1_C : Ctr := ⟨92, impl_allOf_1_arg, impl_allOf_1_res, fun x => impl_allOf_1 x.1.1.1 x.1.1.2.1 x.1.2.1.1 x.1.2.1.2.1 x.1.2.1.2.2.1, none⟩
def impl_allOf_1_H : Hint := ⟨[], [], [], fun _ => []⟩
noncomputable def impl_allOf_1_T : List Ctr := [impl_ofFont_C]
noncomputable def impl_allOf_1_Ls : List Lp := []
theorem impl_allOf_1_e : ∀ x, impl_allOf_1_C.F x = runBodyW E0 impl_allOf_1_T impl_allOf_1_Ls impl_allOf_1_H 92 Tryz.f92.results.toList (bodyOf Tryz.f92) [] (impl_allOf_1_arg.mk' x) impl_allOf_1_res := fun x => by kernel_rfl
theorem impl_allOf_1_ok : impl_allOf_1_C.Ok E0 := fn_ok (T := impl_allOf_1_T) (h := impl_allOf_1_H) (Ls := impl_allOf_1_Ls) E0_mixed (T_cons impl_ofFont_ok T_nil) Tryz.func92 (bodyOf_some (by kernel_rfl)) (by kernel_rfl) (loops_of (ks := []) (by kernel_rfl) trivial) impl_allOf_1_e
def IndexFunc_Matrix_impl_allOf_1_arg : Sh := ⟨[(0, .c (.rd [] .mat)), (1, .c (.fnr 92 [[.str, .s .i64, .s .i64]]))], [], []⟩
def IndexFunc_Matrix_impl_allOf_1_res : List Sh := [⟨[(0, .c (.int .i64))], [], []⟩]
noncomputable def IndexFunc_Matrix_impl_allOf_1_s0 (x : (List (Int × Int) × ((ByteArray × List Int × List Int × Unit) × Unit) × Int × Int × Unit) × Unit × Unit) : Option (((List (Int × Int) × ((ByteArray × List Int × List Int × Unit) × Unit) × Int × Int × Unit) × Unit × Unit) ⊕ (((Int × Unit) × Unit × Unit) ⊕ (Unit × Unit × Unit))) :=
 let x1 : Bool := decide (x.1.2.2.2.1 < x.1.2.2.1);
 br x1
 (ck (0 ≤ x.1.2.2.2.1)
 (ck (x.1.2.2.2.1.toNat < x.1.1.length)
 (let x2 : Int × Int := x.1.1.getD x.1.2.2.2.1.toNat (0, 0);
 (impl_allOf_1 x2.1 x2.2 x.1.2.1.1.1 x.1.2.1.1.2.1 x.1.2.1.1.2.2.1).bind fun r3 =>
 br r3.1.1
 (some (.inr (.inl ((x.1.2.2.2.1, ()), (), ()))))
 (let x4 : Int := w64 (x.1.2.2.2.1 + (1 : Int));
 some (.inl ((x.1.1, ((x.1.2.1.1.1, x.1.2.1.1.2.1, x.1.2.1.1.2.2.1, ()), ()), x.1.2.2.1, x4, ()), (), ()))))))
 (some (.inr (.inr ((), (), ()))))
def IndexFunc_Matrix_impl_allOf_1_h0 : Sh := ⟨[(0, .c (.rd [] .mat)), (1, .c (.fnr 92 [[.str, .s .i64, .s .i64]])), (7, .c (.int .i64)), (8, .c (.int .i64))], [], []⟩
def IndexFunc_Matrix_impl_allOf_1_r0 : List Sh := [⟨[(4, .c (.int .i64))], [], []⟩, ⟨[], [], []⟩]
noncomputable def IndexFunc_Matrix_impl_allOf_1_L0 : Lp := ⟨0, [], IndexFunc_Matrix_impl_allOf_1_h0, [], [(.ret, []), (.exit 0, [])], IndexFunc_Matrix_impl_allOf_1_r0, loopC IndexFunc_Matrix_impl_allOf_1_s0⟩
noncomputable def IndexFunc_Matrix_impl_allOf_1 (a0 : List (Int × Int)) (a1_0_0 : ByteArray) (a1_0_1 : List Int) (a1_0_2 : List Int) : Option ((Int × Unit) × Unit × Unit) :=
 (loopC IndexFunc_Matrix_impl_allOf_1_s0 ((a0, ((a1_0_0, a1_0_1, a1_0_2, ()), ()), (a0.length : Int), (0 : Int), ()), (), ())).bind fun r5 =>
 sumK r5 (fun y8 =>
 some ((y8.1.1, ()), (), ())) (fun y9 =>
 some (((-1 : Int), ()), (), ()))
noncomputable def IndexFunc_Matrix_impl_allOf_1_C : Ctr := ⟨93, IndexFunc_Matrix_impl_allOf_1_arg, IndexFunc_Matrix_impl_allOf_1_res, fun x => IndexFunc_Matrix_impl_allOf_1 x.1.1 x.1.2.1.1.1 x.1.2.1.1.2.1 x.1.2.1.1.2.2.1, none⟩
def IndexFunc_Matrix_impl_allOf_1_H : Hint := ⟨[], [], [], fun _ => []⟩
noncomputable def IndexFunc_Matrix_impl_allOf_1_T : List Ctr := [impl_allOf_1_C]
noncomputable def IndexFunc_Matrix_impl_allOf_1_Ls : List Lp := [IndexFunc_Matrix_impl_allOf_1_L0]
theorem IndexFunc_Matrix_impl_allOf_1_l0 : ∀ x, IndexFunc_Matrix_impl_allOf_1_s0 x = stepW E0 IndexFunc_Matrix_impl_allOf_1_T IndexFunc_Matrix_impl_allOf_1_Ls IndexFunc_Matrix_impl_allOf_1_H (loopAt (bodyOf Tryz.f93) 0) 0 IndexFunc_Matrix_impl_allOf_1_h0 [] [(.ret, []), (.exit 0, [])] IndexFunc_Matrix_impl_allOf_1_r0 x := fun x => by kernel_rfl
theorem IndexFunc_Matrix_impl_allOf_1_e : ∀ x, IndexFunc_Matrix_impl_allOf_1_C.F x = runBodyW E0 IndexFunc_Matrix_impl_allOf_1_T IndexFunc_Matrix_impl_allOf_1_Ls IndexFunc_Matrix_impl_allOf_1_H 93 Tryz.f93.results.toList (bodyOf Tryz.f93) [] (IndexFunc_Matrix_impl_allOf_1_arg.mk' x) IndexFunc_Matrix_impl_allOf_1_res := fun x => by kernel_rfl
theorem IndexFunc_Matrix_impl_allOf_1_ok : IndexFunc_Matrix_impl_allOf_1_C.Ok E0 := fn_ok (T := IndexFunc_Matrix_impl_allOf_1_T) (h := IndexFunc_Matrix_impl_allOf_1_H) (Ls := IndexFunc_Matrix_impl_allOf_1_Ls) E0_mixed (T_cons impl_allOf_1_ok T_nil) Tryz.func93 (bodyOf_some (by kernel_rfl)) (by kernel_rfl) (loops_of (ks := [0]) (by kernel_rfl) ⟨(loop_one (h := IndexFunc_Matrix_impl_allOf_1_H) (own := []) (head := IndexFunc_Matrix_impl_allOf_1_h0) (back := []) (exs := [(.ret, []), (.exit 0, [])]) (res := IndexFunc_Matrix_impl_allOf_1_r0) (step := IndexFunc_Matrix_impl_allOf_1_s0) (by kernel_rfl) IndexFunc_Matrix_impl_allOf_1_l0), trivial⟩) IndexFunc_Matrix_impl_allOf_1_e
def ContainsFunc_Matrix_impl_allOf_1_arg : Sh := ⟨[(0, .c (.rd [] .mat)), (1, .c (.fnr 92 [[.str, .s .i64, .s .i64]]))], [], []⟩
def ContainsFunc_Matrix_impl_allOf_1_res : List Sh := [⟨[(0, .c (.bool))], [], []⟩]
noncomputable def ContainsFunc_Matrix_impl_allOf_1 (a0 : List (Int × Int)) (a1_0_0 : ByteArray) (a1_0_1 : List Int) (a1_0_2 : List Int) : Option ((Bool × Unit) × Unit × Unit) :=
 (IndexFunc_Matrix_impl_allOf_1 a0 a1_0_0 a1_0_1 a1_0_2).bind fun r1 =>
 let x2 : Bool := decide (r1.1.1 ≥ (0 : Int));
 some ((x2, ()), (), ())
noncomputable def ContainsFunc_Matrix_impl_allOf_1_C : Ctr := ⟨60, ContainsFunc_Matrix_impl_allOf_1_arg, ContainsFunc_Matrix_impl_allOf_1_res, fun x => ContainsFunc_Matrix_impl_allOf_1 x.1.1 x.1.2.1.1.1 x.1.2.1.1.2.1 x.1.2.1.1.2.2.1, none⟩
def ContainsFunc_Matrix_impl_allOf_1_H : Hint := ⟨[], [], [], fun _ => []⟩
noncomputable def ContainsFunc_Matrix_impl_allOf_1_T : List Ctr := [IndexFunc_Matrix_impl_allOf_1_C]
noncomputable def ContainsFunc_Matrix_impl_allOf_1_Ls : List Lp := []
theorem ContainsFunc_Matrix_impl_allOf_1_e : ∀ x, ContainsFunc_Matrix_impl_allOf_1_C.F x = runBodyW E0 ContainsFunc_Matrix_impl_allOf_1_T ContainsFunc_Matrix_impl_allOf_1_Ls ContainsFunc_Matrix_impl_allOf_1_H 60 Tryz.f60.results.toList (bodyOf Tryz.f60) [] (ContainsFunc_Matrix_impl_allOf_1_arg.mk' x) ContainsFunc_Matrix_impl_allOf_1_res := fun x => by kernel_rfl
theorem ContainsFunc_Matrix_impl_allOf_1_ok : ContainsFunc_Matrix_impl_allOf_1_C.Ok E0 := fn_ok (T := ContainsFunc_Matrix_impl_allOf_1_T) (h := ContainsFunc_Matrix_impl_allOf_1_H) (Ls := ContainsFunc_Matrix_impl_allOf_1_Ls) E0_mixed (T_cons IndexFunc_Matrix_impl_allOf_1_ok T_nil) Tryz.func60 (bodyOf_some (by kernel_rfl)) (by kernel_rfl) (loops_of (ks := []) (by kernel_rfl) trivial) ContainsFunc_Matrix_impl_allOf_1_e
def impl_allOf_arg : Sh := ⟨[(0, .agg [.str, .rd [] .i64, .rd [] .i64]), (1, .c (.rd [] .mat))], [], []⟩
def impl_allOf_res : List Sh := [⟨[(0, .c (.bool))], [], []⟩]
noncomputable def impl_allOf (a0_0 : ByteArray) (a0_1 : List Int) (a0_2 : List Int) (a1 : List (Int × Int)) : Option ((Bool × Unit) × Unit × Unit) :=
 (ContainsFunc_Matrix_impl_allOf_1 a1 a0_0 a0_1 a0_2).bind fun r1 =>
 some ((!r1.1.1, ()), (), ())
noncomputable def impl_allOf_C : Ctr := ⟨59, impl_allOf_arg, impl_allOf_res, fun x => impl_allOf x.1.1.1 x.1.1.2.1 x.1.1.2.2.1 x.1.2.1, none⟩
def impl_allOf_H : Hint := ⟨[], [], [], fun _ => []⟩
noncomputable def impl_allOf_T : List Ctr := [ContainsFunc_Matrix_impl_allOf_1_C]
noncomputable def impl_allOf_Ls : List Lp := []
theorem impl_allOf_e : ∀ x, impl_allOf_C.F x = runBodyW E0 impl_allOf_T impl_allOf_Ls impl_allOf_H 59 Tryz.f59.results.toList (bodyOf Tryz.f59) [] (impl_allOf_arg.mk' x) impl_allOf_res := fun x => by kernel_rfl
theorem impl_allOf_ok : impl_allOf_C.Ok E0 := fn_ok (T := impl_allOf_T) (h := impl_allOf_H) (Ls := impl_allOf_Ls) E0_mixed (T_cons ContainsFunc_Matrix_impl_allOf_1_ok T_nil) Tryz.func59 (bodyOf_some (by kernel_rfl)) (by kernel_rfl) (loops_of (ks := []) (by kernel_rfl) trivial) impl_allOf_e
def impl_MagazineOk_arg : Sh := ⟨[(0, .agg [.str, .rd [] .i64, .rd [] .i64]), (1, .c (.rd [] .mats))], [], []⟩
def impl_MagazineOk_res : List Sh := [⟨[(0, .c (.bool))], [], []⟩]
noncomputable def impl_MagazineOk_s0 (x : (Unit × List (List (Int × Int)) × Int × Int × Unit) × ((ByteArray × List Int × List Int × Unit) × Unit) × Unit) : Option (((Unit × List (List (Int × Int)) × Int × Int × Unit) × ((ByteArray × List Int × List Int × Unit) × Unit) × Unit) ⊕ (((Bool × Unit) × Unit × Unit) ⊕ (Unit × Unit × Unit))) :=
 let x3 : Bool := decide (x.1.2.2.2.1 < x.1.2.2.1);
 br x3
 (ck (0 ≤ x.1.2.2.2.1)
 (ck (x.1.2.2.2.1.toNat < x.1.2.1.length)
 (let x4 : List (Int × Int) := x.1.2.1.getD x.1.2.2.2.1.toNat [];
 let x5 : Bool := decide ((x4.length : Int) > (20 : Int));
 br x5
 (some (.inr (.inl ((false, ()), (), ()))))
 ((impl_allOf x.2.1.1.1 x.2.1.1.2.1 x.2.1.1.2.2.1 x4).bind fun r6 =>
 br (!r6.1.1)
 (some (.inr (.inl ((false, ()), (), ()))))
 (let x7 : Int := w64 (x.1.2.2.2.1 + (1 : Int));
 some (.inl (((), x.1.2.1, x.1.2.2.1, x7, ()), ((x.2.1.1.1, x.2.1.1.2.1, x.2.1.1.2.2.1, ()), ()), ())))))))
 (some (.inr (.inr ((), (), ()))))
def impl_MagazineOk_h0 : Sh := ⟨[(2, .c (.box 0 0)), (18, .c (.rd [] .mats)), (19, .c (.int .i64)), (20, .c (.int .i64))], [(0, .cells [.str, .rd [] .i64, .rd [] .i64])], []⟩
def impl_MagazineOk_r0 : List Sh := [⟨[(4, .c (.bool))], [], []⟩, ⟨[], [], []⟩]
noncomputable def impl_MagazineOk_L0 : Lp := ⟨0, [], impl_MagazineOk_h0, [], [(.ret, []), (.exit 0, [])], impl_MagazineOk_r0, loopC impl_MagazineOk_s0⟩
noncomputable def impl_MagazineOk (a0_0 : ByteArray) (a0_1 : List Int) (a0_2 : List Int) (a1 : List (List (Int × Int))) : Option ((Bool × Unit) × Unit × Unit) :=
 (impl_FontOk a0_0 a0_1 a0_2).bind fun r1 =>
 br (!r1.1.1)
 (some ((false, ()), (), ()))
 (let x2 : Bool := (a1.length : Int) != (a0_0.size : Int);
 br x2
 (some ((false, ()), (), ()))
 ((loopC impl_MagazineOk_s0 (((), a1, (a1.length : Int), (0 : Int), ()), ((a0_0, a0_1, a0_2, ()), ()), ())).bind fun r8 =>
 sumK r8 (fun y11 =>
 some ((y11.1.1, ()), (), ())) (fun y12 =>
 some ((true, ()), (), ()))))
noncomputable def impl_MagazineOk_C : Ctr := ⟨58, impl_MagazineOk_arg, impl_MagazineOk_res, fun x => impl_MagazineOk x.1.1.1 x.1.1.2.1 x.1.1.2.2.1 x.1.2.1, none⟩
def impl_MagazineOk_H : Hint := ⟨[], [], [], fun _ => []⟩
noncomputable def impl_MagazineOk_T : List Ctr := [impl_FontOk_C, impl_allOf_C]
noncomputable def impl_MagazineOk_Ls : List Lp := [impl_MagazineOk_L0]
theorem impl_MagazineOk_l0 : ∀ x, impl_MagazineOk_s0 x = stepW E0 impl_MagazineOk_T impl_MagazineOk_Ls impl_MagazineOk_H (loopAt (bodyOf Tryz.f58) 0) 0 impl_MagazineOk_h0 [] [(.ret, []), (.exit 0, [])] impl_MagazineOk_r0 x := fun x => by kernel_rfl
theorem impl_MagazineOk_e : ∀ x, impl_MagazineOk_C.F x = runBodyW E0 impl_MagazineOk_T impl_MagazineOk_Ls impl_MagazineOk_H 58 Tryz.f58.results.toList (bodyOf Tryz.f58) [] (impl_MagazineOk_arg.mk' x) impl_MagazineOk_res := fun x => by kernel_rfl
theorem impl_MagazineOk_ok : impl_MagazineOk_C.Ok E0 := fn_ok (T := impl_MagazineOk_T) (h := impl_MagazineOk_H) (Ls := impl_MagazineOk_Ls) E0_mixed (T_cons impl_FontOk_ok (T_cons impl_allOf_ok T_nil)) Tryz.func58 (bodyOf_some (by kernel_rfl)) (by kernel_rfl) (loops_of (ks := [0]) (by kernel_rfl) ⟨(loop_one (h := impl_MagazineOk_H) (own := []) (head := impl_MagazineOk_h0) (back := []) (exs := [(.ret, []), (.exit 0, [])]) (res := impl_MagazineOk_r0) (step := impl_MagazineOk_s0) (by kernel_rfl) impl_MagazineOk_l0), trivial⟩) impl_MagazineOk_e
def impl_isBand_arg : Sh := ⟨[(0, .agg [.int .i64, .int .i64])], [], []⟩
def impl_isBand_res : List Sh := [⟨[(0, .c (.bool))], [], []⟩]
noncomputable def impl_isBand (a0_0 : Int) (a0_1 : Int) : Option ((Bool × Unit) × Unit × Unit) :=
 let x1 : Bool := eqInts [a0_0, a0_1] [(-1 : Int), (0 : Int)];
 some ((x1, ()), (), ())
noncomputable def impl_isBand_C : Ctr := ⟨62, impl_isBand_arg, impl_isBand_res, fun x => impl_isBand x.1.1.1 x.1.1.2.1, none⟩
def impl_isBand_H : Hint := ⟨[], [], [], fun _ => []⟩
noncomputable def impl_isBand_T : List Ctr := []
noncomputable def impl_isBand_Ls : List Lp := []
theorem impl_isBand_e : ∀ x, impl_isBand_C.F x = runBodyW E0 impl_isBand_T impl_isBand_Ls impl_isBand_H 62 Tryz.f62.results.toList (bodyOf Tryz.f62) [] (impl_isBand_arg.mk' x) impl_isBand_res := fun x => by kernel_rfl
theorem impl_isBand_ok : impl_isBand_C.Ok E0 := fn_ok (T := impl_isBand_T) (h := impl_isBand_H) (Ls := impl_isBand_Ls) E0_mixed T_nil Tryz.func62 (bodyOf_some (by kernel_rfl)) (by kernel_rfl) (loops_of (ks := []) (by kernel_rfl) trivial) impl_isBand_e
def impl_MachineOk_1_arg : Sh := ⟨[(0, .agg [.int .i64, .int .i64]), (1, .c (.rad [] [.str, .s .i64, .s .i64, .u, .int .i64, .int .i64, .int .i64, .int .i64, .s .mat, .s .mat]))], [], []⟩
def impl_MachineOk_1_res : List Sh := [⟨[(0, .c (.bool))], [], []⟩]
noncomputable def impl_MachineOk_1 (a0_0 : Int) (a0_1 : Int) (a1_0 : ByteArray) (a1_1 : List Int) (a1_2 : List Int) (a1_4 : Int) (a1_5 : Int) (a1_6 : Int) (a1_7 : Int) (a1_8 : List (Int × Int)) (a1_9 : List (Int × Int)) : Option ((Bool × Unit) × Unit × Unit) :=
 (impl_isBand a0_0 a0_1).bind fun r1 =>
 br (!r1.1.1)
 ((impl_ofFont a1_0 a1_1 a1_2 a0_0 a0_1).bind fun r2 =>
 some ((!r2.1.1, ()), (), ()))
 (some ((false, ()), (), ()))
noncomputable def impl_MachineOk_1_C : Ctr := ⟨61, impl_MachineOk_1_arg, impl_MachineOk_1_res, fun x => impl_MachineOk_1 x.1.1.1 x.1.1.2.1 x.1.2.1.1 x.1.2.1.2.1 x.1.2.1.2.2.1 x.1.2.1.2.2.2.2.1 x.1.2.1.2.2.2.2.2.1 x.1.2.1.2.2.2.2.2.2.1 x.1.2.1.2.2.2.2.2.2.2.1 x.1.2.1.2.2.2.2.2.2.2.2.1 x.1.2.1.2.2.2.2.2.2.2.2.2.1, none⟩
def impl_MachineOk_1_H : Hint := ⟨[], [], [], fun _ => []⟩
noncomputable def impl_MachineOk_1_T : List Ctr := [impl_isBand_C, impl_ofFont_C]
noncomputable def impl_MachineOk_1_Ls : List Lp := []
theorem impl_MachineOk_1_e : ∀ x, impl_MachineOk_1_C.F x = runBodyW E0 impl_MachineOk_1_T impl_MachineOk_1_Ls impl_MachineOk_1_H 61 Tryz.f61.results.toList (bodyOf Tryz.f61) [] (impl_MachineOk_1_arg.mk' x) impl_MachineOk_1_res := fun x => by kernel_rfl
theorem impl_MachineOk_1_ok : impl_MachineOk_1_C.Ok E0 := fn_ok (T := impl_MachineOk_1_T) (h := impl_MachineOk_1_H) (Ls := impl_MachineOk_1_Ls) E0_mixed (T_cons impl_isBand_ok (T_cons impl_ofFont_ok T_nil)) Tryz.func61 (bodyOf_some (by kernel_rfl)) (by kernel_rfl) (loops_of (ks := []) (by kernel_rfl) trivial) impl_MachineOk_1_e
def IndexFunc_Matrix_impl_MachineOk_1_arg : Sh := ⟨[(0, .c (.rd [] .mat)), (1, .c (.fnr 61 [[.str, .s .i64, .s .i64, .u, .int .i64, .int .i64, .int .i64, .int .i64, .s .mat, .s .mat]]))], [], []⟩
def IndexFunc_Matrix_impl_MachineOk_1_res : List Sh := [⟨[(0, .c (.int .i64))], [], []⟩]
noncomputable def IndexFunc_Matrix_impl_MachineOk_1_s0 (x : (List (Int × Int) × ((ByteArray × List Int × List Int × Unit × Int × Int × Int × Int × List (Int × Int) × List (Int × Int) × Unit) × Unit) × Int × Int × Unit) × Unit × Unit) : Option (((List (Int × Int) × ((ByteArray × List Int × List Int × Unit × Int × Int × Int × Int × List (Int × Int) × List (Int × Int) × Unit) × Unit) × Int × Int × Unit) × Unit × Unit) ⊕ (((Int × Unit) × Unit × Unit) ⊕ (Unit × Unit × Unit))) :=
 let x1 : Bool := decide (x.1.2.2.2.1 < x.1.2.2.1);
 br x1
 (ck (0 ≤ x.1.2.2.2.1)
 (ck (x.1.2.2.2.1.toNat < x.1.1.length)
 (let x2 : Int × Int := x.1.1.getD x.1.2.2.2.1.toNat (0, 0);
 (impl_MachineOk_1 x2.1 x2.2 x.1.2.1.1.1 x.1.2.1.1.2.1 x.1.2.1.1.2.2.1 x.1.2.1.1.2.2.2.2.1 x.1.2.1.1.2.2.2.2.2.1 x.1.2.1.1.2.2.2.2.2.2.1 x.1.2.1.1.2.2.2.2.2.2.2.1 x.1.2.1.1.2.2.2.2.2.2.2.2.1 x.1.2.1.1.2.2.2.2.2.2.2.2.2.1).bind fun r3 =>
 br r3.1.1
 (some (.inr (.inl ((x.1.2.2.2.1, ()), (), ()))))
 (let x4 : Int := w64 (x.1.2.2.2.1 + (1 : Int));
 some (.inl ((x.1.1, ((x.1.2.1.1.1, x.1.2.1.1.2.1, x.1.2.1.1.2.2.1, (), x.1.2.1.1.2.2.2.2.1, x.1.2.1.1.2.2.2.2.2.1, x.1.2.1.1.2.2.2.2.2.2.1, x.1.2.1.1.2.2.2.2.2.2.2.1, x.1.2.1.1.2.2.2.2.2.2.2.2.1, x.1.2.1.1.2.2.2.2.2.2.2.2.2.1, ()), ()), x.1.2.2.1, x4, ()), (), ()))))))
 (some (.inr (.inr ((), (), ()))))
def IndexFunc_Matrix_impl_MachineOk_1_h0 : Sh := ⟨[(0, .c (.rd [] .mat)), (1, .c (.fnr 61 [[.str, .s .i64, .s .i64, .u, .int .i64, .int .i64, .int .i64, .int .i64, .s .mat, .s .mat]])), (7, .c (.int .i64)), (8, .c (.int .i64))], [], []⟩
def IndexFunc_Matrix_impl_MachineOk_1_r0 : List Sh := [⟨[(4, .c (.int .i64))], [], []⟩, ⟨[], [], []⟩]
noncomputable def IndexFunc_Matrix_impl_MachineOk_1_L0 : Lp := ⟨0, [], IndexFunc_Matrix_impl_MachineOk_1_h0, [], [(.ret, []), (.exit 0, [])], IndexFunc_Matrix_impl_MachineOk_1_r0, loopC IndexFunc_Matrix_impl_MachineOk_1_s0⟩
noncomputable def IndexFunc_Matrix_impl_MachineOk_1 (a0 : List (Int × Int)) (a1_0_0 : ByteArray) (a1_0_1 : List Int) (a1_0_2 : List Int) (a1_0_4 : Int) (a1_0_5 : Int) (a1_0_6 : Int) (a1_0_7 : Int) (a1_0_8 : List (Int × Int)) (a1_0_9 : List (Int × Int)) : Option ((Int × Unit) × Unit × Unit) :=
 (loopC IndexFunc_Matrix_impl_MachineOk_1_s0 ((a0, ((a1_0_0, a1_0_1, a1_0_2, (), a1_0_4, a1_0_5, a1_0_6, a1_0_7, a1_0_8, a1_0_9, ()), ()), (a0.length : Int), (0 : Int), ()), (), ())).bind fun r5 =>
 sumK r5 (fun y8 =>
 some ((y8.1.1, ()), (), ())) (fun y9 =>
 some (((-1 : Int), ()), (), ()))
noncomputable def IndexFunc_Matrix_impl_MachineOk_1_C : Ctr := ⟨93, IndexFunc_Matrix_impl_MachineOk_1_arg, IndexFunc_Matrix_impl_MachineOk_1_res, fun x => IndexFunc_Matrix_impl_MachineOk_1 x.1.1 x.1.2.1.1.1 x.1.2.1.1.2.1 x.1.2.1.1.2.2.1 x.1.2.1.1.2.2.2.2.1 x.1.2.1.1.2.2.2.2.2.1 x.1.2.1.1.2.2.2.2.2.2.1 x.1.2.1.1.2.2.2.2.2.2.2.1 x.1.2.1.1.2.2.2.2.2.2.2.2.1 x.1.2.1.1.2.2.2.2.2.2.2.2.2.1, none⟩
def IndexFunc_Matrix_impl_MachineOk_1_H : Hint := ⟨[], [], [], fun _ => []⟩
noncomputable def IndexFunc_Matrix_impl_MachineOk_1_T : List Ctr := [impl_MachineOk_1_C]
noncomputable def IndexFunc_Matrix_impl_MachineOk_1_Ls : List Lp := [IndexFunc_Matrix_impl_MachineOk_1_L0]
theorem IndexFunc_Matrix_impl_MachineOk_1_l0 : ∀ x, IndexFunc_Matrix_impl_MachineOk_1_s0 x = stepW E0 IndexFunc_Matrix_impl_MachineOk_1_T IndexFunc_Matrix_impl_MachineOk_1_Ls IndexFunc_Matrix_impl_MachineOk_1_H (loopAt (bodyOf Tryz.f93) 0) 0 IndexFunc_Matrix_impl_MachineOk_1_h0 [] [(.ret, []), (.exit 0, [])] IndexFunc_Matrix_impl_MachineOk_1_r0 x := fun x => by kernel_rfl
theorem IndexFunc_Matrix_impl_MachineOk_1_e : ∀ x, IndexFunc_Matrix_impl_MachineOk_1_C.F x = runBodyW E0 IndexFunc_Matrix_impl_MachineOk_1_T IndexFunc_Matrix_impl_MachineOk_1_Ls IndexFunc_Matrix_impl_MachineOk_1_H 93 Tryz.f93.results.toList (bodyOf Tryz.f93) [] (IndexFunc_Matrix_impl_MachineOk_1_arg.mk' x) IndexFunc_Matrix_impl_MachineOk_1_res := fun x => by kernel_rfl
theorem IndexFunc_Matrix_impl_MachineOk_1_ok : IndexFunc_Matrix_impl_MachineOk_1_C.Ok E0 := fn_ok (T := IndexFunc_Matrix_impl_MachineOk_1_T) (h := IndexFunc_Matrix_impl_MachineOk_1_H) (Ls := IndexFunc_Matrix_impl_MachineOk_1_Ls) E0_mixed (T_cons impl_MachineOk_1_ok T_nil) Tryz.func93 (bodyOf_some (by kernel_rfl)) (by kernel_rfl) (loops_of (ks := [0]) (by kernel_rfl) ⟨(loop_one (h := IndexFunc_Matrix_impl_MachineOk_1_H) (own := []) (head := IndexFunc_Matrix_impl_MachineOk_1_h0) (back := []) (exs := [(.ret, []), (.exit 0, [])]) (res := IndexFunc_Matrix_impl_MachineOk_1_r0) (step := IndexFunc_Matrix_impl_MachineOk_1_s0) (by kernel_rfl) IndexFunc_Matrix_impl_MachineOk_1_l0), trivial⟩) IndexFunc_Matrix_impl_MachineOk_1_e
def ContainsFunc_Matrix_impl_MachineOk_1_arg : Sh := ⟨[(0, .c (.rd [] .mat)), (1, .c (.fnr 61 [[.str, .s .i64, .s .i64, .u, .int .i64, .int .i64, .int .i64, .int .i64, .s .mat, .s .mat]]))], [], []⟩
def ContainsFunc_Matrix_impl_MachineOk_1_res : List Sh := [⟨[(0, .c (.bool))], [], []⟩]
noncomputable def ContainsFunc_Matrix_impl_MachineOk_1 (a0 : List (Int × Int)) (a1_0_0 : ByteArray) (a1_0_1 : List Int) (a1_0_2 : List Int) (a1_0_4 : Int) (a1_0_5 : Int) (a1_0_6 : Int) (a1_0_7 : Int) (a1_0_8 : List (Int × Int)) (a1_0_9 : List (Int × Int)) : Option ((Bool × Unit) × Unit × Unit) :=
 (IndexFunc_Matrix_impl_MachineOk_1 a0 a1_0_0 a1_0_1 a1_0_2 a1_0_4 a1_0_5 a1_0_6 a1_0_7 a1_0_8 a1_0_9).bind fun r1 =>
 let x2 : Bool := decide (r1.1.1 ≥ (0 : Int));
 some ((x2, ()), (), ())
noncomputable def ContainsFunc_Matrix_impl_MachineOk_1_C : Ctr := ⟨60, ContainsFunc_Matrix_impl_MachineOk_1_arg, ContainsFunc_Matrix_impl_MachineOk_1_res, fun x => ContainsFunc_Matrix_impl_MachineOk_1 x.1.1 x.1.2.1.1.1 x.1.2.1.1.2.1 x.1.2.1.1.2.2.1 x.1.2.1.1.2.2.2.2.1 x.1.2.1.1.2.2.2.2.2.1 x.1.2.1.1.2.2.2.2.2.2.1 x.1.2.1.1.2.2.2.2.2.2.2.1 x.1.2.1.1.2.2.2.2.2.2.2.2.1 x.1.2.1.1.2.2.2.2.2.2.2.2.2.1, none⟩
def ContainsFunc_Matrix_impl_MachineOk_1_H : Hint := ⟨[], [], [], fun _ => []⟩
noncomputable def ContainsFunc_Matrix_impl_MachineOk_1_T : List Ctr := [IndexFunc_Matrix_impl_MachineOk_1_C]
noncomputable def ContainsFunc_Matrix_impl_MachineOk_1_Ls : List Lp := []
theorem ContainsFunc_Matrix_impl_MachineOk_1_e : ∀ x, ContainsFunc_Matrix_impl_MachineOk_1_C.F x = runBodyW E0 ContainsFunc_Matrix_impl_MachineOk_1_T ContainsFunc_Matrix_impl_MachineOk_1_Ls ContainsFunc_Matrix_impl_MachineOk_1_H 60 Tryz.f60.results.toList (bodyOf Tryz.f60) [] (ContainsFunc_Matrix_impl_MachineOk_1_arg.mk' x) ContainsFunc_Matrix_impl_MachineOk_1_res := fun x => by kernel_rfl
theorem ContainsFunc_Matrix_impl_MachineOk_1_ok : ContainsFunc_Matrix_impl_MachineOk_1_C.Ok E0 := fn_ok (T := ContainsFunc_Matrix_impl_MachineOk_1_T) (h := ContainsFunc_Matrix_impl_MachineOk_1_H) (Ls := ContainsFunc_Matrix_impl_MachineOk_1_Ls) E0_mixed (T_cons IndexFunc_Matrix_impl_MachineOk_1_ok T_nil) Tryz.func60 (bodyOf_some (by kernel_rfl)) (by kernel_rfl) (loops_of (ks := []) (by kernel_rfl) trivial) ContainsFunc_Matrix_impl_MachineOk_1_e
def impl_items_arg : Sh := ⟨[(0, .agg [.str, .rd [] .i64, .rd [] .i64]), (1, .c (.rd [] .mat))], [], []⟩
def impl_items_res : List Sh := [⟨[(0, .c (.own 0))], [], [(0, .i64)]⟩]
noncomputable def impl_items_s0 (x : (Unit × Unit × List (Int × Int) × Int × Int × Unit) × ((ByteArray × List Int × List Int × Unit) × Unit) × (List Int × Unit)) : Option (((Unit × Unit × List (Int × Int) × Int × Int × Unit) × ((ByteArray × List Int × List Int × Unit) × Unit) × (List Int × Unit)) ⊕ ((Unit × Unit) × Unit × (List Int × Unit))) :=
 let x1 : Bool := decide (x.1.2.2.2.2.1 < x.1.2.2.2.1);
 br x1
 (ck (0 ≤ x.1.2.2.2.2.1)
 (ck (x.1.2.2.2.2.1.toNat < x.1.2.2.1.length)
 (let x2 : Int × Int := x.1.2.2.1.getD x.1.2.2.2.2.1.toNat (0, 0);
 (impl_isBand x2.1 x2.2).bind fun r3 =>
 br r3.1.1
 (ck ((x.2.2.1.length + [(0 : Int)].length) * 8 ≤ 140737488355328 ∧ (x.2.2.1.length + [(0 : Int)].length) ≤ 9223372036854775807)
 (let x4 : List Int := x.2.2.1 ++ [(0 : Int)];
 let x5 : Int := w64 (x.1.2.2.2.2.1 + (1 : Int));
 some (.inl (((), (), x.1.2.2.1, x.1.2.2.2.1, x5, ()), ((x.2.1.1.1, x.2.1.1.2.1, x.2.1.1.2.2.1, ()), ()), (x4, ())))))
 (ck (0 ≤ x2.1)
 (ck (x2.1.toNat < x.2.1.1.2.1.length)
 (let x6 : Int := x.2.1.1.2.1.getD x2.1.toNat 0;
 ck ((x.2.2.1.length + [x6].length) * 8 ≤ 140737488355328 ∧ (x.2.2.1.length + [x6].length) ≤ 9223372036854775807)
 (let x7 : List Int := x.2.2.1 ++ [x6];
 let x8 : Int := w64 (x.1.2.2.2.2.1 + (1 : Int));
 some (.inl (((), (), x.1.2.2.1, x.1.2.2.2.1, x8, ()), ((x.2.1.1.1, x.2.1.1.2.1, x.2.1.1.2.2.1, ()), ()), (x7, ()))))))))))
 (some (.inr (((), ()), (), (x.2.2.1, ()))))
def impl_items_h0 : Sh := ⟨[(2, .c (.box 0 0)), (5, .c (.own 0)), (9, .c (.rd [] .mat)), (10, .c (.int .i64)), (11, .c (.int .i64))], [(0, .cells [.str, .rd [] .i64, .rd [] .i64])], [(0, .i64)]⟩
def impl_items_r0 : List Sh := [⟨[(5, .c (.own 0))], [], [(0, .i64)]⟩]
noncomputable def impl_items_L0 : Lp := ⟨0, [], impl_items_h0, [], [(.exit 0, [])], impl_items_r0, loopC impl_items_s0⟩
noncomputable def impl_items (a0_0 : ByteArray) (a0_1 : List Int) (a0_2 : List Int) (a1 : List (Int × Int)) : Option ((Unit × Unit) × Unit × (List Int × Unit)) :=
 (loopC impl_items_s0 (((), (), a1, (a1.length : Int), (0 : Int), ()), ((a0_0, a0_1, a0_2, ()), ()), ([], ()))).bind fun r9 =>
 some (((), ()), (), (r9.2.2.1, ()))
noncomputable def impl_items_C : Ctr := ⟨65, impl_items_arg, impl_items_res, fun x => impl_items x.1.1.1 x.1.1.2.1 x.1.1.2.2.1 x.1.2.1, none⟩
def impl_items_H : Hint := ⟨[], [], [], fun _ => []⟩
noncomputable def impl_items_T : List Ctr := [impl_isBand_C]
noncomputable def impl_items_Ls : List Lp := [impl_items_L0]
theorem impl_items_l0 : ∀ x, impl_items_s0 x = stepW E0 impl_items_T impl_items_Ls impl_items_H (loopAt (bodyOf Tryz.f65) 0) 0 impl_items_h0 [] [(.exit 0, [])] impl_items_r0 x := fun x => by kernel_rfl
theorem impl_items_e : ∀ x, impl_items_C.F x = runBodyW E0 impl_items_T impl_items_Ls impl_items_H 65 Tryz.f65.results.toList (bodyOf Tryz.f65) [] (impl_items_arg.mk' x) impl_items_res := fun x => by kernel_rfl
theorem impl_items_ok : impl_items_C.Ok E0 := fn_ok (T := impl_items_T) (h := impl_items_H) (Ls := impl_items_Ls) E0_mixed (T_cons impl_isBand_ok T_nil) Tryz.func65 (bodyOf_some (by kernel_rfl)) (by kernel_rfl) (loops_of (ks := [0]) (by kernel_rfl) ⟨(loop_one (h := impl_items_H) (own := []) (head := impl_items_h0) (back := []) (exs := [(.exit 0, [])]) (res := impl_items_r0) (step := impl_items_s0) (by kernel_rfl) impl_items_l0), trivial⟩) impl_items_e
def impl_MeasureOk_arg : Sh := ⟨[(0, .agg [.int .i64, .int .i64, .int .i64])], [], []⟩
def impl_MeasureOk_res : List Sh := [⟨[(0, .c (.bool))], [], []⟩]
noncomputable def impl_MeasureOk (a0_0 : Int) (a0_1 : Int) (a0_2 : Int) : Option ((Bool × Unit) × Unit × Unit) :=
 let x1 : Bool := decide (a0_0 ≥ (1 : Int));
 br x1
 (let x2 : Bool := decide (a0_0 ≤ (2000 : Int));
 br x2
 (let x3 : Bool := decide (a0_1 ≥ (1 : Int));
 br x3
 (let x4 : Bool := decide (a0_1 ≤ (100 : Int));
 br x4
 (let x5 : Bool := decide (a0_2 ≥ a0_1);
 br x5
 (let x6 : Bool := decide (a0_2 ≤ (100 : Int));
 some ((x6, ()), (), ()))
 (some ((false, ()), (), ())))
 (some ((false, ()), (), ())))
 (some ((false, ()), (), ())))
 (some ((false, ()), (), ())))
 (some ((false, ()), (), ()))
noncomputable def impl_MeasureOk_C : Ctr := ⟨127, impl_MeasureOk_arg, impl_MeasureOk_res, fun x => impl_MeasureOk x.1.1.1 x.1.1.2.1 x.1.1.2.2.1, none⟩
def impl_MeasureOk_H : Hint := ⟨[], [], [], fun _ => []⟩
noncomputable def impl_MeasureOk_T : List Ctr := []
noncomputable def impl_MeasureOk_Ls : List Lp := []
theorem impl_MeasureOk_e : ∀ x, impl_MeasureOk_C.F x = runBodyW E0 impl_MeasureOk_T impl_MeasureOk_Ls impl_MeasureOk_H 127 Tryz.f127.results.toList (bodyOf Tryz.f127) [] (impl_MeasureOk_arg.mk' x) impl_MeasureOk_res := fun x => by kernel_rfl
theorem impl_MeasureOk_ok : impl_MeasureOk_C.Ok E0 := fn_ok (T := impl_MeasureOk_T) (h := impl_MeasureOk_H) (Ls := impl_MeasureOk_Ls) E0_mixed T_nil Tryz.func127 (bodyOf_some (by kernel_rfl)) (by kernel_rfl) (loops_of (ks := []) (by kernel_rfl) trivial) impl_MeasureOk_e
def impl_LineOk_arg : Sh := ⟨[(0, .c (.rd [] .i64))], [], []⟩
def impl_LineOk_res : List Sh := [⟨[(0, .c (.bool))], [], []⟩]
noncomputable def impl_LineOk (a0 : List Int) : Option ((Bool × Unit) × Unit × Unit) :=
 let x1 : Bool := decide ((a0.length : Int) ≤ (120 : Int));
 br x1
 ((impl_between a0 (0 : Int) (60 : Int)).bind fun r2 =>
 some ((r2.1.1, ()), (), ()))
 (some ((false, ()), (), ()))
noncomputable def impl_LineOk_C : Ctr := ⟨128, impl_LineOk_arg, impl_LineOk_res, fun x => impl_LineOk x.1.1, none⟩
def impl_LineOk_H : Hint := ⟨[], [], [], fun _ => []⟩
noncomputable def impl_LineOk_T : List Ctr := [impl_between_C]
noncomputable def impl_LineOk_Ls : List Lp := []
theorem impl_LineOk_e : ∀ x, impl_LineOk_C.F x = runBodyW E0 impl_LineOk_T impl_LineOk_Ls impl_LineOk_H 128 Tryz.f128.results.toList (bodyOf Tryz.f128) [] (impl_LineOk_arg.mk' x) impl_LineOk_res := fun x => by kernel_rfl
theorem impl_LineOk_ok : impl_LineOk_C.Ok E0 := fn_ok (T := impl_LineOk_T) (h := impl_LineOk_H) (Ls := impl_LineOk_Ls) E0_mixed (T_cons impl_between_ok T_nil) Tryz.func128 (bodyOf_some (by kernel_rfl)) (by kernel_rfl) (loops_of (ks := []) (by kernel_rfl) trivial) impl_LineOk_e
def impl_lettersAndBands_arg : Sh := ⟨[(0, .c (.rd [] .i64))], [], []⟩
def impl_lettersAndBands_res : List Sh := [⟨[(0, .c (.int .i64)), (1, .c (.int .i64))], [], []⟩]
noncomputable def impl_lettersAndBands_s0 (x : (Int × Int × List Int × Int × Int × Unit) × Unit × Unit) : Option (((Int × Int × List Int × Int × Int × Unit) × Unit × Unit) ⊕ ((Int × Int × Unit) × Unit × Unit)) :=
 let x1 : Bool := decide (x.1.2.2.2.2.1 < x.1.2.2.2.1);
 br x1
 (ck (0 ≤ x.1.2.2.2.2.1)
 (ck (x.1.2.2.2.2.1.toNat < x.1.2.2.1.length)
 (let x2 : Int := x.1.2.2.1.getD x.1.2.2.2.2.1.toNat 0;
 let x3 : Int := w64 (x.1.1 + x2);
 let x4 : Bool := x2 == (0 : Int);
 br x4
 (let x5 : Int := w64 (x.1.2.1 + (1 : Int));
 let x6 : Int := w64 (x.1.2.2.2.2.1 + (1 : Int));
 some (.inl ((x3, x5, x.1.2.2.1, x.1.2.2.2.1, x6, ()), (), ())))
 (let x7 : Int := w64 (x.1.2.2.2.2.1 + (1 : Int));
 some (.inl ((x3, x.1.2.1, x.1.2.2.1, x.1.2.2.2.1, x7, ()), (), ()))))))
 (some (.inr ((x.1.1, x.1.2.1, ()), (), ())))
def impl_lettersAndBands_h0 : Sh := ⟨[(4, .c (.int .i64)), (5, .c (.int .i64)), (8, .c (.rd [] .i64)), (9, .c (.int .i64)), (10, .c (.int .i64))], [], []⟩
def impl_lettersAndBands_r0 : List Sh := [⟨[(4, .c (.int .i64)), (5, .c (.int .i64))], [], []⟩]
noncomputable def impl_lettersAndBands_L0 : Lp := ⟨0, [], impl_lettersAndBands_h0, [], [(.exit 0, [])], impl_lettersAndBands_r0, loopC impl_lettersAndBands_s0⟩
noncomputable def impl_lettersAndBands (a0 : List Int) : Option ((Int × Int × Unit) × Unit × Unit) :=
 (loopC impl_lettersAndBands_s0 (((0 : Int), (0 : Int), a0, (a0.length : Int), (0 : Int), ()), (), ())).bind fun r8 =>
 some ((r8.1.1, r8.1.2.1, ()), (), ())
noncomputable def impl_lettersAndBands_C : Ctr := ⟨129, impl_lettersAndBands_arg, impl_lettersAndBands_res, fun x => impl_lettersAndBands x.1.1, none⟩
def impl_lettersAndBands_H : Hint := ⟨[], [], [], fun _ => []⟩
noncomputable def impl_lettersAndBands_T : List Ctr := []
noncomputable def impl_lettersAndBands_Ls : List Lp := [impl_lettersAndBands_L0]
theorem impl_lettersAndBands_l0 : ∀ x, impl_lettersAndBands_s0 x = stepW E0 impl_lettersAndBands_T impl_lettersAndBands_Ls impl_lettersAndBands_H (loopAt (bodyOf Tryz.f129) 0) 0 impl_lettersAndBands_h0 [] [(.exit 0, [])] impl_lettersAndBands_r0 x := fun x => by kernel_rfl
theorem impl_lettersAndBands_e : ∀ x, impl_lettersAndBands_C.F x = runBodyW E0 impl_lettersAndBands_T impl_lettersAndBands_Ls impl_lettersAndBands_H 129 Tryz.f129.results.toList (bodyOf Tryz.f129) [] (impl_lettersAndBands_arg.mk' x) impl_lettersAndBands_res := fun x => by kernel_rfl
theorem impl_lettersAndBands_ok : impl_lettersAndBands_C.Ok E0 := fn_ok (T := impl_lettersAndBands_T) (h := impl_lettersAndBands_H) (Ls := impl_lettersAndBands_Ls) E0_mixed T_nil Tryz.func129 (bodyOf_some (by kernel_rfl)) (by kernel_rfl) (loops_of (ks := [0]) (by kernel_rfl) ⟨(loop_one (h := impl_lettersAndBands_H) (own := []) (head := impl_lettersAndBands_h0) (back := []) (exs := [(.exit 0, [])]) (res := impl_lettersAndBands_r0) (step := impl_lettersAndBands_s0) (by kernel_rfl) impl_lettersAndBands_l0), trivial⟩) impl_lettersAndBands_e
def impl_spread_arg : Sh := ⟨[(0, .agg [.int .i64, .int .i64, .int .i64]), (1, .c (.int .i64)), (2, .c (.int .i64))], [], []⟩
def impl_spread_res : List Sh := [⟨[(0, .c (.int .i64)), (1, .c (.int .i64)), (2, .c (.bool))], [], []⟩]
noncomputable def impl_spread (a0_0 : Int) (a0_1 : Int) (a0_2 : Int) (a1 : Int) (a2 : Int) : Option ((Int × Int × Bool × Unit) × Unit × Unit) :=
 let x1 : Int := w64 (a0_0 - a1);
 let x2 : Int := w64 (a2 * a0_1);
 let x3 : Int := w64 (x1 - x2);
 let x4 : Bool := decide (x3 < (0 : Int));
 br x4
 (some (((0 : Int), (0 : Int), false, ()), (), ()))
 (let x5 : Bool := decide (a2 > (0 : Int));
 br x5
 (let x6 : Int := w64 (a0_2 - a0_1);
 ck (a2 ≠ 0)
 (let x7 : Int := w64 (x3.tdiv a2);
 let x8 : Int := if x7 < x6 then x7 else x6;
 let x9 : Int := w64 (a2 * x8);
 let x10 : Int := w64 (x3 - x9);
 some ((x8, x10, true, ()), (), ())))
 (let x11 : Int := w64 (a2 * (0 : Int));
 let x12 : Int := w64 (x3 - x11);
 some (((0 : Int), x12, true, ()), (), ())))
noncomputable def impl_spread_C : Ctr := ⟨130, impl_spread_arg, impl_spread_res, fun x => impl_spread x.1.1.1 x.1.1.2.1 x.1.1.2.2.1 x.1.2.1 x.1.2.2.1, none⟩
def impl_spread_H : Hint := ⟨[], [], [], fun _ => []⟩
noncomputable def impl_spread_T : List Ctr := []
noncomputable def impl_spread_Ls : List Lp := []
theorem impl_spread_e : ∀ x, impl_spread_C.F x = runBodyW E0 impl_spread_T impl_spread_Ls impl_spread_H 130 Tryz.f130.results.toList (bodyOf Tryz.f130) [] (impl_spread_arg.mk' x) impl_spread_res := fun x => by kernel_rfl
theorem impl_spread_ok : impl_spread_C.Ok E0 := fn_ok (T := impl_spread_T) (h := impl_spread_H) (Ls := impl_spread_Ls) E0_mixed T_nil Tryz.func130 (bodyOf_some (by kernel_rfl)) (by kernel_rfl) (loops_of (ks := []) (by kernel_rfl) trivial) impl_spread_e
def impl_SpreadLine_arg : Sh := ⟨[(0, .agg [.int .i64, .int .i64, .int .i64]), (1, .c (.rd [] .i64))], [], []⟩
def impl_SpreadLine_res : List Sh := [⟨[(0, .c (.int .i64)), (1, .c (.int .i64)), (2, .c (.bool))], [], []⟩]
noncomputable def impl_SpreadLine (a0_0 : Int) (a0_1 : Int) (a0_2 : Int) (a1 : List Int) : Option ((Int × Int × Bool × Unit) × Unit × Unit) :=
 (impl_MeasureOk a0_0 a0_1 a0_2).bind fun r1 =>
 br (!r1.1.1)
 (some (((0 : Int), (0 : Int), false, ()), (), ()))
 ((impl_LineOk a1).bind fun r2 =>
 br (!r2.1.1)
 (some (((0 : Int), (0 : Int), false, ()), (), ()))
 ((impl_lettersAndBands a1).bind fun r3 =>
 (impl_spread a0_0 a0_1 a0_2 r3.1.1 r3.1.2.1).bind fun r4 =>
 some ((r4.1.1, r4.1.2.1, r4.1.2.2.1, ()), (), ())))
noncomputable def impl_SpreadLine_C : Ctr := ⟨96, impl_SpreadLine_arg, impl_SpreadLine_res, fun x => impl_SpreadLine x.1.1.1 x.1.1.2.1 x.1.1.2.2.1 x.1.2.1, none⟩
def impl_SpreadLine_H : Hint := ⟨[], [], [], fun _ => []⟩
noncomputable def impl_SpreadLine_T : List Ctr := [impl_MeasureOk_C, impl_LineOk_C, impl_lettersAndBands_C, impl_spread_C]
noncomputable def impl_SpreadLine_Ls : List Lp := []
theorem impl_SpreadLine_e : ∀ x, impl_SpreadLine_C.F x = runBodyW E0 impl_SpreadLine_T impl_SpreadLine_Ls impl_SpreadLine_H 96 Tryz.f96.results.toList (bodyOf Tryz.f96) [] (impl_SpreadLine_arg.mk' x) impl_SpreadLine_res := fun x => by kernel_rfl
theorem impl_SpreadLine_ok : impl_SpreadLine_C.Ok E0 := fn_ok (T := impl_SpreadLine_T) (h := impl_SpreadLine_H) (Ls := impl_SpreadLine_Ls) E0_mixed (T_cons impl_MeasureOk_ok (T_cons impl_LineOk_ok (T_cons impl_lettersAndBands_ok (T_cons impl_spread_ok T_nil)))) Tryz.func96 (bodyOf_some (by kernel_rfl)) (by kernel_rfl) (loops_of (ks := []) (by kernel_rfl) trivial) impl_SpreadLine_e
def impl_fits_arg : Sh := ⟨[(0, .agg [.int .i64, .int .i64, .int .i64]), (1, .c (.rd [] .i64))], [], []⟩
def impl_fits_res : List Sh := [⟨[(0, .c (.bool))], [], []⟩]
noncomputable def impl_fits (a0_0 : Int) (a0_1 : Int) (a0_2 : Int) (a1 : List Int) : Option ((Bool × Unit) × Unit × Unit) :=
 (impl_SpreadLine a0_0 a0_1 a0_2 a1).bind fun r1 =>
 some ((r1.1.2.2.1, ()), (), ())
noncomputable def impl_fits_C : Ctr := ⟨64, impl_fits_arg, impl_fits_res, fun x => impl_fits x.1.1.1 x.1.1.2.1 x.1.1.2.2.1 x.1.2.1, none⟩
def impl_fits_H : Hint := ⟨[], [], [], fun _ => []⟩
noncomputable def impl_fits_T : List Ctr := [impl_SpreadLine_C]
noncomputable def impl_fits_Ls : List Lp := []
theorem impl_fits_e : ∀ x, impl_fits_C.F x = runBodyW E0 impl_fits_T impl_fits_Ls impl_fits_H 64 Tryz.f64.results.toList (bodyOf Tryz.f64) [] (impl_fits_arg.mk' x) impl_fits_res := fun x => by kernel_rfl
theorem impl_fits_ok : impl_fits_C.Ok E0 := fn_ok (T := impl_fits_T) (h := impl_fits_H) (Ls := impl_fits_Ls) E0_mixed (T_cons impl_SpreadLine_ok T_nil) Tryz.func64 (bodyOf_some (by kernel_rfl)) (by kernel_rfl) (loops_of (ks := []) (by kernel_rfl) trivial) impl_fits_e
def impl_MachineOk_arg : Sh := ⟨[(0, .agg [.str, .rd [] .i64, .rd [] .i64, .rd [] .mats, .int .i64, .int .i64, .int .i64, .int .i64, .rd [] .mat, .rd [] .mat])], [], []⟩
def impl_MachineOk_res : List Sh := [⟨[(0, .c (.bool))], [], []⟩]
noncomputable def impl_MachineOk (a0_0 : ByteArray) (a0_1 : List Int) (a0_2 : List Int) (a0_3 : List (List (Int × Int))) (a0_4 : Int) (a0_5 : Int) (a0_6 : Int) (a0_7 : Int) (a0_8 : List (Int × Int)) (a0_9 : List (Int × Int)) : Option ((Bool × Unit) × Unit × Unit) :=
 (impl_MagazineOk a0_0 a0_1 a0_2 a0_3).bind fun r1 =>
 br (!r1.1.1)
 (some ((false, ()), (), ()))
 (let x2 : Bool := decide (a0_4 < (0 : Int));
 br x2
 (some ((false, ()), (), ()))
 (let x3 : Bool := decide (a0_4 > (60 : Int));
 br x3
 (some ((false, ()), (), ()))
 (let x4 : Bool := decide ((a0_8.length : Int) > (120 : Int));
 br x4
 (some ((false, ()), (), ()))
 (let x5 : Bool := decide ((a0_9.length : Int) > (240 : Int));
 br x5
 (some ((false, ()), (), ()))
 ((impl_allOf a0_0 a0_1 a0_2 a0_9).bind fun r6 =>
 br (!r6.1.1)
 (some ((false, ()), (), ()))
 ((ContainsFunc_Matrix_impl_MachineOk_1 a0_8 a0_0 a0_1 a0_2 a0_4 a0_5 a0_6 a0_7 a0_8 a0_9).bind fun r7 =>
 br r7.1.1
 (some ((false, ()), (), ()))
 ((impl_items a0_0 a0_1 a0_2 a0_8).bind fun r8 =>
 (impl_fits a0_5 a0_6 a0_7 r8.2.2.1).bind fun r9 =>
 some ((r9.1.1, ()), (), ()))))))))
noncomputable def impl_MachineOk_C : Ctr := ⟨26, impl_MachineOk_arg, impl_MachineOk_res, fun x => impl_MachineOk x.1.1.1 x.1.1.2.1 x.1.1.2.2.1 x.1.1.2.2.2.1 x.1.1.2.2.2.2.1 x.1.1.2.2.2.2.2.1 x.1.1.2.2.2.2.2.2.1 x.1.1.2.2.2.2.2.2.2.1 x.1.1.2.2.2.2.2.2.2.2.1 x.1.1.2.2.2.2.2.2.2.2.2.1, none⟩
def impl_MachineOk_H : Hint := ⟨[], [], [], fun _ => []⟩
noncomputable def impl_MachineOk_T : List Ctr := [impl_MagazineOk_C, impl_allOf_C, ContainsFunc_Matrix_impl_MachineOk_1_C, impl_items_C, impl_fits_C]
noncomputable def impl_MachineOk_Ls : List Lp := []
theorem impl_MachineOk_e : ∀ x, impl_MachineOk_C.F x = runBodyW E0 impl_MachineOk_T impl_MachineOk_Ls impl_MachineOk_H 26 Tryz.f26.results.toList (bodyOf Tryz.f26) [] (impl_MachineOk_arg.mk' x) impl_MachineOk_res := fun x => by kernel_rfl
theorem impl_MachineOk_ok : impl_MachineOk_C.Ok E0 := fn_ok (T := impl_MachineOk_T) (h := impl_MachineOk_H) (Ls := impl_MachineOk_Ls) E0_mixed (T_cons impl_MagazineOk_ok (T_cons impl_allOf_ok (T_cons ContainsFunc_Matrix_impl_MachineOk_1_ok (T_cons impl_items_ok (T_cons impl_fits_ok T_nil))))) Tryz.func26 (bodyOf_some (by kernel_rfl)) (by kernel_rfl) (loops_of (ks := []) (by kernel_rfl) trivial) impl_MachineOk_e
def impl_wordsOf_arg : Sh := ⟨[(0, .c (.str))], [], []⟩
def impl_wordsOf_res : List Sh := [⟨[(0, .c (.own 0))], [], [(0, .str)]⟩]
def impl_wordsOf (s : ByteArray) : Option ((Unit × Unit) × Unit × (List ByteArray × Unit)) := wordsF s
noncomputable def impl_wordsOf_C : Ctr := ⟨66, impl_wordsOf_arg, impl_wordsOf_res, fun x => impl_wordsOf x.1.1, some 1⟩
end Go.Tree
namespace Go.Proofs
section
open Go Go.Shelf Go.RowKit Go.Lib Go.Tree Go.Sort
def Tryz.lays146_ren : Go.Shelf.Ren := ⟨fun | 146 => 98 | 221 => 132 | 268 => 148 | 138 => 149 | 143 => 150 | 195 => 156 | 197 => 157 | 218 => 158 | 219 => 159 | 260 => 160 | 217 => 161 | 225 => 162 | 224 => 163 | 267 => 164 | 266 => 165 | 314 => 166 | n => n, fun | 9 => 9 | 31 => 31 | 3 => 3 | 4 => 4 | 0 => 0 | 105 => 159 | 21 => 21 | 5 => 5 | 46 => 163 | 119 => 164 | 139 => 167 | 138 => 166 | 146 => 169 | 51 => 168 | n => n, fun | 1 => 0 | 3 => 1 | 4 => 2 | n => n⟩
theorem Tryz.lays146 : Go.Proofs.Lays.n146 Tryz.prog Tryz.lays146_ren := {
  mixed := by kernel_rfl
  f138 := Tryz.func149.trans (congrArg some (by kernel_rfl))
  f143 := Tryz.func150.trans (congrArg some (by kernel_rfl))
  f146 := Tryz.func98.trans (congrArg some (by kernel_rfl))
  f195 := Tryz.func156.trans (congrArg some (by kernel_rfl))
  f197 := Tryz.func157.trans (congrArg some (by kernel_rfl))
  f217 := Tryz.func161.trans (congrArg some (by kernel_rfl))
  f218 := Tryz.func158.trans (congrArg some (by kernel_rfl))
  f219 := Tryz.func159.trans (congrArg some (by kernel_rfl))
  f221 := Tryz.func132.trans (congrArg some (by kernel_rfl))
  f224 := Tryz.func163.trans (congrArg some (by kernel_rfl))
  f225 := Tryz.func162.trans (congrArg some (by kernel_rfl))
  f260 := Tryz.func160.trans (congrArg some (by kernel_rfl))
  f266 := Tryz.func165.trans (congrArg some (by kernel_rfl))
  f267 := Tryz.func164.trans (congrArg some (by kernel_rfl))
  f268 := Tryz.func148.trans (congrArg some (by kernel_rfl))
  f314 := Tryz.func166.trans (congrArg some (by kernel_rfl))
  t0 := Tryz.underlying0
  a0 := Tryz.isAgg0
  z0 := Tryz.sizeOf0
  v0 := Tryz.zeroValue0
  t3 := Tryz.underlying3
  a3 := Tryz.isAgg3
  z3 := Tryz.sizeOf3
  v3 := Tryz.zeroValue3
  t4 := Tryz.underlying4
  a4 := Tryz.isAgg4
  z4 := Tryz.sizeOf4
  v4 := Tryz.zeroValue4
  t5 := Tryz.underlying5
  a5 := Tryz.isAgg5
  z5 := Tryz.sizeOf5
  v5 := Tryz.zeroValue5
  t9 := Tryz.underlying9
  a9 := Tryz.isAgg9
  z9 := Tryz.sizeOf9
  v9 := Tryz.zeroValue9
  t21 := Tryz.underlying21
  a21 := Tryz.isAgg21
  z21 := Tryz.sizeOf21
  v21 := Tryz.zeroValue21
  t31 := Tryz.underlying31
  a31 := Tryz.isAgg31
  z31 := Tryz.sizeOf31
  v31 := Tryz.zeroValue31
  t46 := Tryz.underlying163
  a46 := Tryz.isAgg163
  z46 := Tryz.sizeOf163
  v46 := Tryz.zeroValue163
  t51 := Tryz.underlying168
  a51 := Tryz.isAgg168
  z51 := Tryz.sizeOf168
  v51 := Tryz.zeroValue168
  t105 := Tryz.underlying159
  a105 := Tryz.isAgg159
  z105 := Tryz.sizeOf159
  v105 := Tryz.zeroValue159
  t119 := Tryz.underlying164
  a119 := Tryz.isAgg164
  z119 := Tryz.sizeOf164
  t138 := Tryz.underlying166
  a138 := Tryz.isAgg166
  z138 := Tryz.sizeOf166
  v138 := Tryz.zeroValue166
  t139 := Tryz.underlying167
  a139 := Tryz.isAgg167
  z139 := Tryz.sizeOf167
  v139 := Tryz.zeroValue167
  t146 := Tryz.underlying169
  a146 := Tryz.isAgg169
  z146 := Tryz.sizeOf169
  v146 := Tryz.zeroValue169
  g1 := by kernel_rfl
  g3 := by kernel_rfl
  g4 := by kernel_rfl }
theorem Tryz.strings_Split (s sep : ByteArray) (m : Int) (w : World) (hs : s.size < 4294967281) (hm : w.cell? ⟨0, 0, none⟩ = some (.int .i64 m)) (h1 : 1 ≤ sep.size) :
    Calls Tryz.prog 98 #[.string s, .string sep] w fun e w' =>
      e = .returned (.slice (some ⟨w.heap.size, 0, none⟩) (Lib.countB s sep + 1) (Lib.countB s sep + 1)) ∧ w' = w.alloc (.cells ((Lib.splitB sep 0 (Lib.countB s sep) s).map Value.string).toArray 9) := Any.strings_Split Tryz.lays146 (by kernel_rfl) s sep m w hs hm h1
def Tryz.laysSlH10_f97_ren : Go.Shelf.Ren := ⟨fun | 10 => 97 | 6 => 131 | n => n, fun | 22 => 31 | 23 => 9 | 25 => 118 | 3 => 3 | 4 => 4 | 0 => 0 | n => n, fun | n => n⟩
theorem Tryz.laysSlH10_f97 : Go.Proofs.SlLaysH.n10 Tryz.prog Tryz.laysSlH10_f97_ren := {
  mixed := by kernel_rfl
  f6 := ⟨Tryz.f131.name, by decide, Tryz.func131.trans (congrArg some (by kernel_rfl))⟩
  f10 := ⟨Tryz.f97.name, by decide, Tryz.func97.trans (congrArg some (by kernel_rfl))⟩
  t0 := Tryz.underlying0
  a0 := Tryz.isAgg0
  z0 := Tryz.sizeOf0
  v0 := Tryz.zeroValue0
  t3 := Tryz.underlying3
  a3 := Tryz.isAgg3
  z3 := Tryz.sizeOf3
  v3 := Tryz.zeroValue3
  t4 := Tryz.underlying4
  a4 := Tryz.isAgg4
  z4 := Tryz.sizeOf4
  v4 := Tryz.zeroValue4
  t22 := Tryz.underlying31
  a22 := Tryz.isAgg31
  z22 := Tryz.sizeOf31
  v22 := Tryz.zeroValue31
  a23 := Tryz.isAgg9
  z23 := Tryz.sizeOf9
  t25 := Tryz.underlying118
  a25 := Tryz.isAgg118
  z25 := Tryz.sizeOf118
  v25 := Tryz.zeroValue118 }
theorem Tryz.slices_DeleteFunc {α : Type} [Inhabited α] (enc : α → Value) (hO : OneCell enc) (p : α → Bool) (g : Nat) (lb : Array Value) (eg : ∀ args w, (callFunc g args).run Tryz.prog w = .ok (.enter g args) w) (zr : α) (v23 : ∀ w, (zeroValue 9).run Tryz.prog w = .ok (enc zr) w) (blk off cap : Nat) (d : Array α) (w : World) (hp : PredAt Tryz.prog g lb enc p w) (hpo : PredOver Tryz.prog g lb enc p blk off d.size w) (hH : Holds enc w blk off d) (hsz : d.size ≤ 9223372036854775807) (hcap : d.size ≤ cap) :
    Calls Tryz.prog 97 #[.slice (some ⟨blk, off, none⟩) d.size cap, .func (.func g) #[] lb] w fun e w' => e = .returned (.slice (some ⟨blk, off, none⟩) (d.toList.filter fun x => !p x).length cap) ∧ ∃ q, w' = putRow enc (Sort.ahead w q) blk off ((d.toList.filter fun x => !p x) ++ List.replicate (d.size - (d.toList.filter fun x => !p x).length) zr).toArray := AnyE.slices_DeleteFunc Tryz.laysSlH10_f97 enc hO p g lb eg zr v23 blk off cap d w hp hpo hH hsz hcap
theorem impl_wordsOf_gives (x : ByteArray) (W : World) : FnGives Tryz.prog 99 #[] #[.string x] (.bool x.data.toList.isEmpty) W := by
  show Calls Tryz.prog 99 #[.string x] W _
  have t9 := Tryz.underlying9; have a9 := Tryz.isAgg9; have z9 := Tryz.sizeOf9; have v9 := Tryz.zeroValue9
  have t4 := Tryz.underlying4; have a4 := Tryz.isAgg4; have z4 := Tryz.sizeOf4; have v4 := Tryz.zeroValue4
  go_enter Tryz.func99, Tryz.ntmps99
  go_wp2
  all_goals (go_ret; exact ⟨by simp [Lib.toList_data], 0, rfl⟩)
set_option maxRecDepth 100000 in
theorem impl_wordsOf_walk (s : ByteArray) (m : Int) (w : World) (hs : s.size < 4294967281) (hm : w.cell? ⟨0, 0, none⟩ = some (.int .i64 m)) :
    Calls Tryz.prog 66 #[.string s] w fun e w' => e = .returned (.slice (some ⟨w.heap.size, 0, none⟩) (wordsB s).length (cutB s).length) ∧
      ∃ q, w' = putRow Value.string (Sort.ahead (w.alloc (.cells ((cutB s).map Value.string).toArray 9)) q) w.heap.size 0 (wordsB s ++ List.replicate ((cutB s).length - (wordsB s).length) ByteArray.empty).toArray := by
  have hS := Tryz.strings_Split s sp32 m w hs hm (by decide)
  have hl := cutB_len s
  have hW := wordsB_split s
  have hle := wordsB_len s
  have hbig := Lib.countB_le sp32 (by decide) s.size s (Nat.le_refl _)
  obtain ⟨c, hc⟩ : ∃ c, Lib.countB s sp32 + 1 = c := ⟨_, rfl⟩
  rw [show Lib.splitB sp32 0 (Lib.countB s sp32) s = cutB s from rfl, hc] at hS
  rw [hc] at hl
  have hc2 : c ≤ 4294967281 := by omega
  clear hc hbig
  obtain ⟨L, hL⟩ : ∃ L, cutB s = L := ⟨_, rfl⟩
  obtain ⟨Y, hY⟩ : ∃ Y, wordsB s = Y := ⟨_, rfl⟩
  rw [hL] at hS hl hW hle ⊢
  rw [hY] at hW hle ⊢
  clear hL hY
  subst hl
  have eg : ∀ args w, (callFunc 99 args).run Tryz.prog w = .ok (.enter 99 args) w := enters_of Tryz.func99 (by kernel_rfl) rfl
  have hH := holds_alloc w L 9
  have hcon := Tryz.slices_DeleteFunc Value.string (fun _ => rfl) (fun x => x.data.toList.isEmpty) 99 #[] eg ByteArray.empty Tryz.zeroValue9 w.heap.size 0 L.length L.toArray (w.alloc (.cells (L.map Value.string).toArray 9))
    (fun W x _ => impl_wordsOf_gives x W) (fun n os dk x _ => impl_wordsOf_gives x _) hH (by rw [List.size_toArray]; omega) (by rw [List.size_toArray]; exact Nat.le_refl _)
  rw [show L.toArray.toList = L from rfl, hW, List.size_toArray] at hcon
  clear hH hW
  have t46 := Tryz.underlying31; have a46 := Tryz.isAgg31; have z46 := Tryz.sizeOf31; have v46 := Tryz.zeroValue31
  have t9 := Tryz.underlying9; have a9 := Tryz.isAgg9; have z9 := Tryz.sizeOf9; have v9 := Tryz.zeroValue9
  have mixed : Tryz.prog.follows .mixedOrders = true := by kernel_rfl
  have eS : ∀ args w, (callFunc 98 args).run Tryz.prog w = .ok (.enter 98 args) w := enters_of Tryz.func98 (by kernel_rfl) rfl
  have eD : ∀ args w, (callFunc 97 args).run Tryz.prog w = .ok (.enter 97 args) w := enters_of Tryz.func97 (by kernel_rfl) rfl
  go_enter Tryz.func66, Tryz.ntmps66
  go_wp2_with (go_at_fn 98; refine hS.mono ?_; rintro e w' ⟨rfl, hw⟩; rw [hw])
  go_wp2_with (go_at_fn 97; refine hcon.mono ?_; rintro e w' ⟨rfl, q, hq⟩; rw [hq])
  go_ret
  exact ⟨rfl, q, rfl⟩
end
end Go.Proofs
namespace Go.Tree
open Go Go.Proofs
set_option linter.unusedVariables false
set_option maxRecDepth 100000
theorem impl_wordsOf_ok : impl_wordsOf_C.Ok E0 := words_ok (E := E0) (by kernel_rfl) (by kernel_rfl) 0 (fun _ h => h.1) 9 Go.Proofs.impl_wordsOf_walk
def strings_Join_arg : Sh := ⟨[(0, .c (.rd [] .str)), (1, .c (.str))], [], []⟩
def strings_Join_res : List Sh := [⟨[(0, .c (.str))], [], []⟩]
def strings_Join (l : List ByteArray) (s : ByteArray) : Option ((ByteArray × Unit) × Unit × Unit) := joinF l s
noncomputable def strings_Join_C : Ctr := ⟨67, strings_Join_arg, strings_Join_res, fun x => strings_Join x.1.1 x.1.2.1, some 2⟩
end Go.Tree
namespace Go.Proofs
section
open Go Go.Shelf Go.RowKit Go.Lib Go.Tree Go.Sort
def Tryz.lays156_ren : Go.Shelf.Ren := ⟨fun | 156 => 67 | 165 => 100 | 166 => 101 | 169 => 102 | 240 => 133 | 241 => 134 | 276 => 151 | 277 => 152 | n => n, fun | 31 => 31 | 9 => 9 | 3 => 3 | 4 => 4 | 0 => 0 | 20 => 20 | 72 => 121 | 76 => 125 | 70 => 119 | 37 => 105 | 75 => 124 | 127 => 146 | 164 => 154 | 5 => 5 | 80 => 127 | n => n, fun | n => n⟩
theorem Tryz.lays156 : Go.Proofs.Lays.n156 Tryz.prog Tryz.lays156_ren := {
  mixed := by kernel_rfl
  f156 := Tryz.func67.trans (congrArg some (by kernel_rfl))
  f165 := Tryz.func100.trans (congrArg some (by kernel_rfl))
  f166 := Tryz.func101.trans (congrArg some (by kernel_rfl))
  f169 := Tryz.func102.trans (congrArg some (by kernel_rfl))
  f240 := Tryz.func133.trans (congrArg some (by kernel_rfl))
  f241 := Tryz.func134.trans (congrArg some (by kernel_rfl))
  f276 := Tryz.func151.trans (congrArg some (by kernel_rfl))
  f277 := Tryz.func152.trans (congrArg some (by kernel_rfl))
  t0 := Tryz.underlying0
  a0 := Tryz.isAgg0
  z0 := Tryz.sizeOf0
  v0 := Tryz.zeroValue0
  t3 := Tryz.underlying3
  a3 := Tryz.isAgg3
  z3 := Tryz.sizeOf3
  v3 := Tryz.zeroValue3
  t4 := Tryz.underlying4
  a4 := Tryz.isAgg4
  z4 := Tryz.sizeOf4
  v4 := Tryz.zeroValue4
  t9 := Tryz.underlying9
  a9 := Tryz.isAgg9
  z9 := Tryz.sizeOf9
  v9 := Tryz.zeroValue9
  t20 := Tryz.underlying20
  a20 := Tryz.isAgg20
  z20 := Tryz.sizeOf20
  v20 := Tryz.zeroValue20
  t31 := Tryz.underlying31
  a31 := Tryz.isAgg31
  z31 := Tryz.sizeOf31
  v31 := Tryz.zeroValue31
  t37 := Tryz.underlying105
  a37 := Tryz.isAgg105
  z37 := Tryz.sizeOf105
  v37 := Tryz.zeroValue105
  t70 := Tryz.underlying119
  a70 := Tryz.isAgg119
  z70 := Tryz.sizeOf119
  v70 := Tryz.zeroValue119
  t72 := Tryz.underlying121
  a72 := Tryz.isAgg121
  z72 := Tryz.sizeOf121
  v72 := Tryz.zeroValue121
  t75 := Tryz.underlying124
  a75 := Tryz.isAgg124
  z75 := Tryz.sizeOf124
  v75 := Tryz.zeroValue124
  t76 := Tryz.underlying125
  a76 := Tryz.isAgg125
  z76 := Tryz.sizeOf125
  v76 := Tryz.zeroValue125
  t127 := Tryz.underlying146
  a127 := Tryz.isAgg146
  z127 := Tryz.sizeOf146
  v127 := Tryz.zeroValue146
  t164 := Tryz.underlying154
  a164 := Tryz.isAgg154
  z164 := Tryz.sizeOf154
  v164 := Tryz.zeroValue154 }
theorem Tryz.Builder_Extra_156 : Builder.Extra Tryz.prog Tryz.lays156_ren := {
  sizeBuilder := by kernel_rfl
  liesBuilder := by kernel_rfl
  t5 := Tryz.underlying5
  a5 := Tryz.isAgg5
  z5 := Tryz.sizeOf5
  v5 := Tryz.zeroValue5
  infoByte := by kernel_rfl
  cellsByte := by kernel_rfl
  sizeByte := by kernel_rfl
  neB5 := by decide }
theorem Tryz.strings_Join_none (a : Option Addr) (c : Nat) (sep : ByteArray) (w : World) :
    Calls Tryz.prog 67 #[.slice a 0 c, .string sep] w fun e w' => e = .returned (.string ⟨#[]⟩) ∧ w' = w := Any.strings_Join_none Tryz.lays156 Tryz.Builder_Extra_156 a c sep w
theorem Tryz.strings_Join (bk o c : Nat) (xs : List ByteArray) (sep : ByteArray) (w : World) (hcells : ∀ (j : Nat) x, xs[j]? = some x → w.cell? ⟨bk, o + j, none⟩ = some (.string x)) (hbk : bk < w.heap.size) (hN : xs.length ≤ 140737488355328) (hcap : xs.length ≤ c) (hlen : (Lib.join (xs.map (·.data.toList)) sep.data.toList).length ≤ 140737488355328) :
    Calls Tryz.prog 67 #[.slice (some ⟨bk, o, none⟩) xs.length c, .string sep] w fun e w' => e = .returned (.string ⟨(Lib.join (xs.map (·.data.toList)) sep.data.toList).toArray⟩) ∧ Below w.heap.size w w' := Any.strings_Join Tryz.lays156 Tryz.Builder_Extra_156 bk o c xs sep w hcells hbk hN hcap hlen
end
end Go.Proofs
namespace Go.Tree
open Go Go.Proofs
set_option linter.unusedVariables false
set_option maxRecDepth 100000
theorem strings_Join_ok : strings_Join_C.Ok E0 := join_ok (E := E0) (by kernel_rfl) (by kernel_rfl) Go.Proofs.Tryz.strings_Join_none Go.Proofs.Tryz.strings_Join
def impl_GalleyText_arg : Sh := ⟨[(0, .c (.rd [] .str))], [], []⟩
def impl_GalleyText_res : List Sh := [⟨[(0, .c (.str))], [], []⟩]
noncomputable def impl_GalleyText (a0 : List ByteArray) : Option ((ByteArray × Unit) × Unit × Unit) :=
 (strings_Join a0 (ByteArray.mk #[32])).bind fun r1 =>
 some ((r1.1.1, ()), (), ())
noncomputable def impl_GalleyText_C : Ctr := ⟨69, impl_GalleyText_arg, impl_GalleyText_res, fun x => impl_GalleyText x.1.1, none⟩
def impl_GalleyText_H : Hint := ⟨[], [], [], fun _ => []⟩
noncomputable def impl_GalleyText_T : List Ctr := [strings_Join_C]
noncomputable def impl_GalleyText_Ls : List Lp := []
theorem impl_GalleyText_e : ∀ x, impl_GalleyText_C.F x = runBodyW E0 impl_GalleyText_T impl_GalleyText_Ls impl_GalleyText_H 69 Tryz.f69.results.toList (bodyOf Tryz.f69) [] (impl_GalleyText_arg.mk' x) impl_GalleyText_res := fun x => by kernel_rfl
theorem impl_GalleyText_ok : impl_GalleyText_C.Ok E0 := fn_ok (T := impl_GalleyText_T) (h := impl_GalleyText_H) (Ls := impl_GalleyText_Ls) E0_mixed (T_cons strings_Join_ok T_nil) Tryz.func69 (bodyOf_some (by kernel_rfl)) (by kernel_rfl) (loops_of (ks := []) (by kernel_rfl) trivial) impl_GalleyText_e
def impl_key_arg : Sh := ⟨[(0, .agg [.str, .rd [] .i64, .rd [] .i64]), (1, .c (.int .i64))], [], []⟩
def impl_key_res : List Sh := [⟨[(0, .c (.int .i64))], [], []⟩]
noncomputable def impl_key_s0 (x : (Int × Unit × Int × Int × Unit) × ((ByteArray × List Int × List Int × Unit) × Unit) × Unit) : Option (((Int × Unit × Int × Int × Unit) × ((ByteArray × List Int × List Int × Unit) × Unit) × Unit) ⊕ (((Int × Unit) × Unit × Unit) ⊕ (Unit × Unit × Unit))) :=
 let x1 : Bool := decide (x.1.2.2.2.1 < x.1.2.2.1);
 br x1
 (ck (0 ≤ x.1.2.2.2.1 ∧ x.1.2.2.2.1.toNat < x.2.1.1.1.size)
 (let x2 : Int := byteAt x.2.1.1.1 x.1.2.2.2.1.toNat;
 let x3 : Int := w64 x2;
 let x4 : Bool := x3 == x.1.1;
 br x4
 (some (.inr (.inl ((x.1.2.2.2.1, ()), (), ()))))
 (let x5 : Int := w64 (x.1.2.2.2.1 + (1 : Int));
 some (.inl ((x.1.1, (), x.1.2.2.1, x5, ()), ((x.2.1.1.1, x.2.1.1.2.1, x.2.1.1.2.2.1, ()), ()), ())))))
 (some (.inr (.inr ((), (), ()))))
def impl_key_h0 : Sh := ⟨[(1, .c (.int .i64)), (2, .c (.box 0 0)), (8, .c (.int .i64)), (9, .c (.int .i64))], [(0, .cells [.str, .rd [] .i64, .rd [] .i64])], []⟩
def impl_key_r0 : List Sh := [⟨[(4, .c (.int .i64))], [], []⟩, ⟨[], [], []⟩]
noncomputable def impl_key_L0 : Lp := ⟨0, [], impl_key_h0, [], [(.ret, []), (.exit 0, [])], impl_key_r0, loopC impl_key_s0⟩
noncomputable def impl_key (a0_0 : ByteArray) (a0_1 : List Int) (a0_2 : List Int) (a1 : Int) : Option ((Int × Unit) × Unit × Unit) :=
 (loopC impl_key_s0 ((a1, (), (a0_0.size : Int), (0 : Int), ()), ((a0_0, a0_1, a0_2, ()), ()), ())).bind fun r6 =>
 sumK r6 (fun y9 =>
 some ((y9.1.1, ()), (), ())) (fun y10 =>
 some (((-1 : Int), ()), (), ()))
noncomputable def impl_key_C : Ctr := ⟨115, impl_key_arg, impl_key_res, fun x => impl_key x.1.1.1 x.1.1.2.1 x.1.1.2.2.1 x.1.2.1, none⟩
def impl_key_H : Hint := ⟨[], [], [], fun _ => []⟩
noncomputable def impl_key_T : List Ctr := []
noncomputable def impl_key_Ls : List Lp := [impl_key_L0]
theorem impl_key_l0 : ∀ x, impl_key_s0 x = stepW E0 impl_key_T impl_key_Ls impl_key_H (loopAt (bodyOf Tryz.f115) 0) 0 impl_key_h0 [] [(.ret, []), (.exit 0, [])] impl_key_r0 x := fun x => by kernel_rfl
theorem impl_key_e : ∀ x, impl_key_C.F x = runBodyW E0 impl_key_T impl_key_Ls impl_key_H 115 Tryz.f115.results.toList (bodyOf Tryz.f115) [] (impl_key_arg.mk' x) impl_key_res := fun x => by kernel_rfl
theorem impl_key_ok : impl_key_C.Ok E0 := fn_ok (T := impl_key_T) (h := impl_key_H) (Ls := impl_key_Ls) E0_mixed T_nil Tryz.func115 (bodyOf_some (by kernel_rfl)) (by kernel_rfl) (loops_of (ks := [0]) (by kernel_rfl) ⟨(loop_one (h := impl_key_H) (own := []) (head := impl_key_h0) (back := []) (exs := [(.ret, []), (.exit 0, [])]) (res := impl_key_r0) (step := impl_key_s0) (by kernel_rfl) impl_key_l0), trivial⟩) impl_key_e
def impl_wordWidth_arg : Sh := ⟨[(0, .agg [.str, .rd [] .i64, .rd [] .i64]), (1, .c (.str))], [], []⟩
def impl_wordWidth_res : List Sh := [⟨[(0, .c (.int .i64)), (1, .c (.bool))], [], []⟩]
noncomputable def impl_wordWidth_s0 (x : (ByteArray × Unit × Int × Int × Int × Unit) × ((ByteArray × List Int × List Int × Unit) × Unit) × Unit) : Option (((ByteArray × Unit × Int × Int × Int × Unit) × ((ByteArray × List Int × List Int × Unit) × Unit) × Unit) ⊕ (((Int × Bool × Unit) × Unit × Unit) ⊕ ((Int × Unit) × Unit × Unit))) :=
 let x1 : Bool := decide (x.1.2.2.2.2.1 < x.1.2.2.2.1);
 br x1
 (ck (0 ≤ x.1.2.2.2.2.1 ∧ x.1.2.2.2.2.1.toNat < x.1.1.size)
 (let x2 : Int := byteAt x.1.1 x.1.2.2.2.2.1.toNat;
 let x3 : Int := w64 x2;
 (impl_key x.2.1.1.1 x.2.1.1.2.1 x.2.1.1.2.2.1 x3).bind fun r4 =>
 let x5 : Bool := decide (r4.1.1 < (0 : Int));
 br x5
 (some (.inr (.inl (((0 : Int), false, ()), (), ()))))
 (ck (0 ≤ r4.1.1)
 (ck (r4.1.1.toNat < x.2.1.1.2.1.length)
 (let x6 : Int := x.2.1.1.2.1.getD r4.1.1.toNat 0;
 let x7 : Int := w64 (x.1.2.2.1 + x6);
 let x8 : Bool := decide (x7 > (2000 : Int));
 br x8
 (some (.inr (.inl (((0 : Int), false, ()), (), ()))))
 (let x9 : Int := w64 (x.1.2.2.2.2.1 + (1 : Int));
 some (.inl ((x.1.1, (), x7, x.1.2.2.2.1, x9, ()), ((x.2.1.1.1, x.2.1.1.2.1, x.2.1.1.2.2.1, ()), ()), ()))))))))
 (some (.inr (.inr ((x.1.2.2.1, ()), (), ()))))
def impl_wordWidth_h0 : Sh := ⟨[(1, .c (.str)), (2, .c (.box 0 0)), (6, .c (.int .i64)), (10, .c (.int .i64)), (11, .c (.int .i64))], [(0, .cells [.str, .rd [] .i64, .rd [] .i64])], []⟩
def impl_wordWidth_r0 : List Sh := [⟨[(4, .c (.int .i64)), (5, .c (.bool))], [], []⟩, ⟨[(6, .c (.int .i64))], [], []⟩]
noncomputable def impl_wordWidth_L0 : Lp := ⟨0, [], impl_wordWidth_h0, [], [(.ret, []), (.exit 0, [])], impl_wordWidth_r0, loopC impl_wordWidth_s0⟩
noncomputable def impl_wordWidth (a0_0 : ByteArray) (a0_1 : List Int) (a0_2 : List Int) (a1 : ByteArray) : Option ((Int × Bool × Unit) × Unit × Unit) :=
 (loopC impl_wordWidth_s0 ((a1, (), (0 : Int), (a1.size : Int), (0 : Int), ()), ((a0_0, a0_1, a0_2, ()), ()), ())).bind fun r10 =>
 sumK r10 (fun y13 =>
 some ((y13.1.1, y13.1.2.1, ()), (), ())) (fun y14 =>
 some ((y14.1.1, true, ()), (), ()))
noncomputable def impl_wordWidth_C : Ctr := ⟨103, impl_wordWidth_arg, impl_wordWidth_res, fun x => impl_wordWidth x.1.1.1 x.1.1.2.1 x.1.1.2.2.1 x.1.2.1, none⟩
def impl_wordWidth_H : Hint := ⟨[], [], [], fun _ => []⟩
noncomputable def impl_wordWidth_T : List Ctr := [impl_key_C]
noncomputable def impl_wordWidth_Ls : List Lp := [impl_wordWidth_L0]
theorem impl_wordWidth_l0 : ∀ x, impl_wordWidth_s0 x = stepW E0 impl_wordWidth_T impl_wordWidth_Ls impl_wordWidth_H (loopAt (bodyOf Tryz.f103) 0) 0 impl_wordWidth_h0 [] [(.ret, []), (.exit 0, [])] impl_wordWidth_r0 x := fun x => by kernel_rfl
theorem impl_wordWidth_e : ∀ x, impl_wordWidth_C.F x = runBodyW E0 impl_wordWidth_T impl_wordWidth_Ls impl_wordWidth_H 103 Tryz.f103.results.toList (bodyOf Tryz.f103) [] (impl_wordWidth_arg.mk' x) impl_wordWidth_res := fun x => by kernel_rfl
theorem impl_wordWidth_ok : impl_wordWidth_C.Ok E0 := fn_ok (T := impl_wordWidth_T) (h := impl_wordWidth_H) (Ls := impl_wordWidth_Ls) E0_mixed (T_cons impl_key_ok T_nil) Tryz.func103 (bodyOf_some (by kernel_rfl)) (by kernel_rfl) (loops_of (ks := [0]) (by kernel_rfl) ⟨(loop_one (h := impl_wordWidth_H) (own := []) (head := impl_wordWidth_h0) (back := []) (exs := [(.ret, []), (.exit 0, [])]) (res := impl_wordWidth_r0) (step := impl_wordWidth_s0) (by kernel_rfl) impl_wordWidth_l0), trivial⟩) impl_wordWidth_e
def impl_WordWidths_arg : Sh := ⟨[(0, .agg [.str, .rd [] .i64, .rd [] .i64]), (1, .c (.str))], [], []⟩
def impl_WordWidths_res : List Sh := [⟨[(0, .c (.own 0)), (1, .c (.bool))], [], [(0, .i64)]⟩]
noncomputable def impl_WordWidths_s0 (x : (Unit × Unit × Unit × Int × Int × Unit) × ((ByteArray × List Int × List Int × Unit) × Unit) × (List Int × List ByteArray × Unit)) : Option (((Unit × Unit × Unit × Int × Int × Unit) × ((ByteArray × List Int × List Int × Unit) × Unit) × (List Int × List ByteArray × Unit)) ⊕ (((Unit × Bool × Unit) × Unit × Unit) ⊕ ((Unit × Unit) × Unit × (List Int × Unit)))) :=
 let x5 : Bool := decide (x.1.2.2.2.2.1 < x.1.2.2.2.1);
 br x5
 (ck (0 ≤ x.1.2.2.2.2.1)
 (ck (x.1.2.2.2.2.1.toNat < x.2.2.2.1.length)
 (ck (x.1.2.2.2.2.1.toNat < x.2.2.2.1.length)
 (let x6 : ByteArray := x.2.2.2.1.getD x.1.2.2.2.2.1.toNat ByteArray.empty;
 (impl_wordWidth x.2.1.1.1 x.2.1.1.2.1 x.2.1.1.2.2.1 x6).bind fun r7 =>
 br (!r7.1.2.1)
 (some (.inr (.inl (((), false, ()), (), ()))))
 (ck ((x.2.2.1.length + [r7.1.1].length) * 8 ≤ 140737488355328 ∧ (x.2.2.1.length + [r7.1.1].length) ≤ 9223372036854775807)
 (let x8 : List Int := x.2.2.1 ++ [r7.1.1];
 let x9 : Int := w64 (x.1.2.2.2.2.1 + (1 : Int));
 some (.inl (((), (), (), x.1.2.2.2.1, x9, ()), ((x.2.1.1.1, x.2.1.1.2.1, x.2.1.1.2.2.1, ()), ()), (x8, x.2.2.2.1, ())))))))))
 (some (.inr (.inr (((), ()), (), (x.2.2.1, ())))))
def impl_WordWidths_h0 : Sh := ⟨[(2, .c (.box 0 0)), (7, .c (.own 0)), (26, .c (.own 1)), (27, .c (.int .i64)), (28, .c (.int .i64))], [(0, .cells [.str, .rd [] .i64, .rd [] .i64])], [(0, .i64), (1, .str)]⟩
def impl_WordWidths_r0 : List Sh := [⟨[(4, .c (.nil)), (5, .c (.bool))], [], []⟩, ⟨[(7, .c (.own 0))], [], [(0, .i64)]⟩]
noncomputable def impl_WordWidths_L0 : Lp := ⟨0, [], impl_WordWidths_h0, [], [(.ret, []), (.exit 0, [])], impl_WordWidths_r0, loopC impl_WordWidths_s0⟩
noncomputable def impl_WordWidths (a0_0 : ByteArray) (a0_1 : List Int) (a0_2 : List Int) (a1 : ByteArray) : Option ((Unit × Bool × Unit) × Unit × (List Int × Unit)) :=
 (impl_FontOk a0_0 a0_1 a0_2).bind fun r1 =>
 br (!r1.1.1)
 (some (((), false, ()), (), ([], ())))
 ((impl_wordsOf a1).bind fun r2 =>
 let x3 : Bool := decide ((r2.2.2.1.length : Int) < (1 : Int));
 br x3
 (some (((), false, ()), (), ([], ())))
 (let x4 : Bool := decide ((r2.2.2.1.length : Int) > (40 : Int));
 br x4
 (some (((), false, ()), (), ([], ())))
 ((loopC impl_WordWidths_s0 (((), (), (), (r2.2.2.1.length : Int), (0 : Int), ()), ((a0_0, a0_1, a0_2, ()), ()), ([], r2.2.2.1, ()))).bind fun r10 =>
 sumK r10 (fun y13 =>
 some (((), y13.1.2.1, ()), (), ([], ()))) (fun y14 =>
 some (((), true, ()), (), (y14.2.2.1, ()))))))
noncomputable def impl_WordWidths_C : Ctr := ⟨68, impl_WordWidths_arg, impl_WordWidths_res, fun x => impl_WordWidths x.1.1.1 x.1.1.2.1 x.1.1.2.2.1 x.1.2.1, none⟩
def impl_WordWidths_H : Hint := ⟨[], [], [], fun _ => []⟩
noncomputable def impl_WordWidths_T : List Ctr := [impl_FontOk_C, impl_wordsOf_C, impl_wordWidth_C]
noncomputable def impl_WordWidths_Ls : List Lp := [impl_WordWidths_L0]
theorem impl_WordWidths_l0 : ∀ x, impl_WordWidths_s0 x = stepW E0 impl_WordWidths_T impl_WordWidths_Ls impl_WordWidths_H (loopAt (bodyOf Tryz.f68) 0) 0 impl_WordWidths_h0 [] [(.ret, []), (.exit 0, [])] impl_WordWidths_r0 x := fun x => by kernel_rfl
theorem impl_WordWidths_e : ∀ x, impl_WordWidths_C.F x = runBodyW E0 impl_WordWidths_T impl_WordWidths_Ls impl_WordWidths_H 68 Tryz.f68.results.toList (bodyOf Tryz.f68) [(.tm 4, 6000000, .i64)] (impl_WordWidths_arg.mk' x) impl_WordWidths_res := fun x => by kernel_rfl
theorem impl_WordWidths_ok : impl_WordWidths_C.Ok E0 := fn_ok (T := impl_WordWidths_T) (h := impl_WordWidths_H) (Ls := impl_WordWidths_Ls) E0_mixed (T_cons impl_FontOk_ok (T_cons impl_wordsOf_ok (T_cons impl_wordWidth_ok T_nil))) Tryz.func68 (bodyOf_some (by kernel_rfl)) (by kernel_rfl) (loops_of (ks := [0]) (by kernel_rfl) ⟨(loop_one (h := impl_WordWidths_H) (own := []) (head := impl_WordWidths_h0) (back := []) (exs := [(.ret, []), (.exit 0, [])]) (res := impl_WordWidths_r0) (step := impl_WordWidths_s0) (by kernel_rfl) impl_WordWidths_l0), trivial⟩) impl_WordWidths_e
def impl_TextOk_arg : Sh := ⟨[(0, .c (.rd [] .i64))], [], []⟩
def impl_TextOk_res : List Sh := [⟨[(0, .c (.bool))], [], []⟩]
noncomputable def impl_TextOk (a0 : List Int) : Option ((Bool × Unit) × Unit × Unit) :=
 let x1 : Bool := decide ((a0.length : Int) ≥ (1 : Int));
 br x1
 (let x2 : Bool := decide ((a0.length : Int) ≤ (40 : Int));
 br x2
 ((impl_between a0 (1 : Int) (2000 : Int)).bind fun r3 =>
 some ((r3.1.1, ()), (), ()))
 (some ((false, ()), (), ())))
 (some ((false, ()), (), ()))
noncomputable def impl_TextOk_C : Ctr := ⟨135, impl_TextOk_arg, impl_TextOk_res, fun x => impl_TextOk x.1.1, none⟩
def impl_TextOk_H : Hint := ⟨[], [], [], fun _ => []⟩
noncomputable def impl_TextOk_T : List Ctr := [impl_between_C]
noncomputable def impl_TextOk_Ls : List Lp := []
theorem impl_TextOk_e : ∀ x, impl_TextOk_C.F x = runBodyW E0 impl_TextOk_T impl_TextOk_Ls impl_TextOk_H 135 Tryz.f135.results.toList (bodyOf Tryz.f135) [] (impl_TextOk_arg.mk' x) impl_TextOk_res := fun x => by kernel_rfl
theorem impl_TextOk_ok : impl_TextOk_C.Ok E0 := fn_ok (T := impl_TextOk_T) (h := impl_TextOk_H) (Ls := impl_TextOk_Ls) E0_mixed (T_cons impl_between_ok T_nil) Tryz.func135 (bodyOf_some (by kernel_rfl)) (by kernel_rfl) (loops_of (ks := []) (by kernel_rfl) trivial) impl_TextOk_e
def impl_both_arg : Sh := ⟨[(0, .agg [.int .i64, .int .i64, .int .i64]), (1, .c (.rd [] .i64))], [], []⟩
def impl_both_res : List Sh := [⟨[(0, .c (.bool))], [], []⟩]
noncomputable def impl_both (a0_0 : Int) (a0_1 : Int) (a0_2 : Int) (a1 : List Int) : Option ((Bool × Unit) × Unit × Unit) :=
 (impl_MeasureOk a0_0 a0_1 a0_2).bind fun r1 =>
 br r1.1.1
 ((impl_TextOk a1).bind fun r2 =>
 some ((r2.1.1, ()), (), ()))
 (some ((false, ()), (), ()))
noncomputable def impl_both_C : Ctr := ⟨104, impl_both_arg, impl_both_res, fun x => impl_both x.1.1.1 x.1.1.2.1 x.1.1.2.2.1 x.1.2.1, none⟩
def impl_both_H : Hint := ⟨[], [], [], fun _ => []⟩
noncomputable def impl_both_T : List Ctr := [impl_MeasureOk_C, impl_TextOk_C]
noncomputable def impl_both_Ls : List Lp := []
theorem impl_both_e : ∀ x, impl_both_C.F x = runBodyW E0 impl_both_T impl_both_Ls impl_both_H 104 Tryz.f104.results.toList (bodyOf Tryz.f104) [] (impl_both_arg.mk' x) impl_both_res := fun x => by kernel_rfl
theorem impl_both_ok : impl_both_C.Ok E0 := fn_ok (T := impl_both_T) (h := impl_both_H) (Ls := impl_both_Ls) E0_mixed (T_cons impl_MeasureOk_ok (T_cons impl_TextOk_ok T_nil)) Tryz.func104 (bodyOf_some (by kernel_rfl)) (by kernel_rfl) (loops_of (ks := []) (by kernel_rfl) trivial) impl_both_e
def impl_sum_arg : Sh := ⟨[(0, .c (.rd [] .i64))], [], []⟩
def impl_sum_res : List Sh := [⟨[(0, .c (.int .i64))], [], []⟩]
noncomputable def impl_sum_s0 (x : (Int × List Int × Int × Int × Unit) × Unit × Unit) : Option (((Int × List Int × Int × Int × Unit) × Unit × Unit) ⊕ ((Int × Unit) × Unit × Unit)) :=
 let x1 : Bool := decide (x.1.2.2.2.1 < x.1.2.2.1);
 br x1
 (ck (0 ≤ x.1.2.2.2.1)
 (ck (x.1.2.2.2.1.toNat < x.1.2.1.length)
 (let x2 : Int := x.1.2.1.getD x.1.2.2.2.1.toNat 0;
 let x3 : Int := w64 (x.1.1 + x2);
 let x4 : Int := w64 (x.1.2.2.2.1 + (1 : Int));
 some (.inl ((x3, x.1.2.1, x.1.2.2.1, x4, ()), (), ())))))
 (some (.inr ((x.1.1, ()), (), ())))
def impl_sum_h0 : Sh := ⟨[(3, .c (.int .i64)), (6, .c (.rd [] .i64)), (7, .c (.int .i64)), (8, .c (.int .i64))], [], []⟩
def impl_sum_r0 : List Sh := [⟨[(3, .c (.int .i64))], [], []⟩]
noncomputable def impl_sum_L0 : Lp := ⟨0, [], impl_sum_h0, [], [(.exit 0, [])], impl_sum_r0, loopC impl_sum_s0⟩
noncomputable def impl_sum (a0 : List Int) : Option ((Int × Unit) × Unit × Unit) :=
 (loopC impl_sum_s0 (((0 : Int), a0, (a0.length : Int), (0 : Int), ()), (), ())).bind fun r5 =>
 some ((r5.1.1, ()), (), ())
noncomputable def impl_sum_C : Ctr := ⟨136, impl_sum_arg, impl_sum_res, fun x => impl_sum x.1.1, none⟩
def impl_sum_H : Hint := ⟨[], [], [], fun _ => []⟩
noncomputable def impl_sum_T : List Ctr := []
noncomputable def impl_sum_Ls : List Lp := [impl_sum_L0]
theorem impl_sum_l0 : ∀ x, impl_sum_s0 x = stepW E0 impl_sum_T impl_sum_Ls impl_sum_H (loopAt (bodyOf Tryz.f136) 0) 0 impl_sum_h0 [] [(.exit 0, [])] impl_sum_r0 x := fun x => by kernel_rfl
theorem impl_sum_e : ∀ x, impl_sum_C.F x = runBodyW E0 impl_sum_T impl_sum_Ls impl_sum_H 136 Tryz.f136.results.toList (bodyOf Tryz.f136) [] (impl_sum_arg.mk' x) impl_sum_res := fun x => by kernel_rfl
theorem impl_sum_ok : impl_sum_C.Ok E0 := fn_ok (T := impl_sum_T) (h := impl_sum_H) (Ls := impl_sum_Ls) E0_mixed T_nil Tryz.func136 (bodyOf_some (by kernel_rfl)) (by kernel_rfl) (loops_of (ks := [0]) (by kernel_rfl) ⟨(loop_one (h := impl_sum_H) (own := []) (head := impl_sum_h0) (back := []) (exs := [(.exit 0, [])]) (res := impl_sum_r0) (step := impl_sum_s0) (by kernel_rfl) impl_sum_l0), trivial⟩) impl_sum_e
def impl_full_arg : Sh := ⟨[(0, .agg [.int .i64, .int .i64, .int .i64]), (1, .c (.int .i64)), (2, .c (.int .i64))], [], []⟩
def impl_full_res : List Sh := [⟨[(0, .c (.bool))], [], []⟩]
noncomputable def impl_full (a0_0 : Int) (a0_1 : Int) (a0_2 : Int) (a1 : Int) (a2 : Int) : Option ((Bool × Unit) × Unit × Unit) :=
 (impl_spread a0_0 a0_1 a0_2 a1 a2).bind fun r1 =>
 br r1.1.2.2.1
 (let x2 : Bool := r1.1.2.1 == (0 : Int);
 br x2
 (some ((true, ()), (), ()))
 (let x3 : Bool := decide (r1.1.2.1 < a2);
 some ((x3, ()), (), ())))
 (some ((false, ()), (), ()))
noncomputable def impl_full_C : Ctr := ⟨137, impl_full_arg, impl_full_res, fun x => impl_full x.1.1.1 x.1.1.2.1 x.1.1.2.2.1 x.1.2.1 x.1.2.2.1, none⟩
def impl_full_H : Hint := ⟨[], [], [], fun _ => []⟩
noncomputable def impl_full_T : List Ctr := [impl_spread_C]
noncomputable def impl_full_Ls : List Lp := []
theorem impl_full_e : ∀ x, impl_full_C.F x = runBodyW E0 impl_full_T impl_full_Ls impl_full_H 137 Tryz.f137.results.toList (bodyOf Tryz.f137) [] (impl_full_arg.mk' x) impl_full_res := fun x => by kernel_rfl
theorem impl_full_ok : impl_full_C.Ok E0 := fn_ok (T := impl_full_T) (h := impl_full_H) (Ls := impl_full_Ls) E0_mixed (T_cons impl_spread_ok T_nil) Tryz.func137 (bodyOf_some (by kernel_rfl)) (by kernel_rfl) (loops_of (ks := []) (by kernel_rfl) trivial) impl_full_e
def impl_kindOf_arg : Sh := ⟨[(0, .agg [.int .i64, .int .i64, .int .i64]), (1, .c (.rd [] .i64))], [], []⟩
def impl_kindOf_res : List Sh := [⟨[(0, .c (.int .i64))], [], []⟩]
noncomputable def impl_kindOf (a0_0 : Int) (a0_1 : Int) (a0_2 : Int) (a1 : List Int) : Option ((Int × Unit) × Unit × Unit) :=
 let x1 : Int := w64 ((a1.length : Int) - (1 : Int));
 (impl_sum a1).bind fun r2 =>
 (impl_spread a0_0 a0_1 a0_2 r2.1.1 x1).bind fun r3 =>
 br (!r3.1.2.2.1)
 (some (((0 : Int), ()), (), ()))
 ((impl_sum a1).bind fun r4 =>
 (impl_full a0_0 a0_1 a0_2 r4.1.1 x1).bind fun r5 =>
 br r5.1.1
 (some (((2 : Int), ()), (), ()))
 (some (((1 : Int), ()), (), ())))
noncomputable def impl_kindOf_C : Ctr := ⟨105, impl_kindOf_arg, impl_kindOf_res, fun x => impl_kindOf x.1.1.1 x.1.1.2.1 x.1.1.2.2.1 x.1.2.1, none⟩
def impl_kindOf_H : Hint := ⟨[], [], [], fun _ => []⟩
noncomputable def impl_kindOf_T : List Ctr := [impl_sum_C, impl_spread_C, impl_full_C]
noncomputable def impl_kindOf_Ls : List Lp := []
theorem impl_kindOf_e : ∀ x, impl_kindOf_C.F x = runBodyW E0 impl_kindOf_T impl_kindOf_Ls impl_kindOf_H 105 Tryz.f105.results.toList (bodyOf Tryz.f105) [] (impl_kindOf_arg.mk' x) impl_kindOf_res := fun x => by kernel_rfl
theorem impl_kindOf_ok : impl_kindOf_C.Ok E0 := fn_ok (T := impl_kindOf_T) (h := impl_kindOf_H) (Ls := impl_kindOf_Ls) E0_mixed (T_cons impl_sum_ok (T_cons impl_spread_ok (T_cons impl_full_ok T_nil))) Tryz.func105 (bodyOf_some (by kernel_rfl)) (by kernel_rfl) (loops_of (ks := []) (by kernel_rfl) trivial) impl_kindOf_e
def impl_IsBreaking_arg : Sh := ⟨[(0, .agg [.int .i64, .int .i64, .int .i64]), (1, .c (.rd [] .i64)), (2, .c (.rd [] .i64))], [], []⟩
def impl_IsBreaking_res : List Sh := [⟨[(0, .c (.bool))], [], []⟩]
noncomputable def impl_IsBreaking_s0 (x : (List Int × List Int × Unit × Int × List Int × Int × Int × Unit) × ((Int × Int × Int × Unit) × Unit) × Unit) : Option (((List Int × List Int × Unit × Int × List Int × Int × Int × Unit) × ((Int × Int × Int × Unit) × Unit) × Unit) ⊕ (((Bool × Unit) × Unit × Unit) ⊕ ((List Int × Int × Unit) × Unit × Unit))) :=
 let x2 : Bool := decide (x.1.2.2.2.2.2.2.1 < x.1.2.2.2.2.2.1);
 br x2
 (ck (0 ≤ x.1.2.2.2.2.2.2.1)
 (ck (x.1.2.2.2.2.2.2.1.toNat < x.1.2.2.2.2.1.length)
 (let x3 : Int := x.1.2.2.2.2.1.getD x.1.2.2.2.2.2.2.1.toNat 0;
 let x4 : Bool := decide (x3 < (1 : Int));
 br x4
 (some (.inr (.inl ((false, ()), (), ()))))
 (let x5 : Int := w64 ((x.1.1.length : Int) - x.1.2.2.2.1);
 let x6 : Bool := decide (x3 > x5);
 br x6
 (some (.inr (.inl ((false, ()), (), ()))))
 (let x7 : Int := w64 (x.1.2.2.2.1 + x3);
 ck (0 ≤ x.1.2.2.2.1)
 (ck (0 ≤ x7)
 (ck (x.1.2.2.2.1.toNat ≤ x7.toNat ∧ x7.toNat ≤ x.1.1.length)
 (let x8 : List Int := cut x.1.1 x.1.2.2.2.1.toNat x7.toNat;
 (impl_kindOf x.2.1.1.1 x.2.1.1.2.1 x.2.1.1.2.2.1 x8).bind fun r9 =>
 let x10 : Int := w64 ((x.1.2.1.length : Int) - (1 : Int));
 let x11 : Bool := x.1.2.2.2.2.2.2.1 == x10;
 br x11
 (let x12 : Bool := r9.1.1 == (0 : Int);
 br x12
 (some (.inr (.inl ((false, ()), (), ()))))
 (let x13 : Bool := decide (x.1.2.2.2.2.2.2.1 < x10);
 br x13
 (let x14 : Bool := r9.1.1 != (2 : Int);
 br x14
 (some (.inr (.inl ((false, ()), (), ()))))
 (let x15 : Int := w64 (x.1.2.2.2.2.2.2.1 + (1 : Int));
 some (.inl ((x.1.1, x.1.2.1, (), x7, x.1.2.2.2.2.1, x.1.2.2.2.2.2.1, x15, ()), ((x.2.1.1.1, x.2.1.1.2.1, x.2.1.1.2.2.1, ()), ()), ()))))
 (let x16 : Int := w64 (x.1.2.2.2.2.2.2.1 + (1 : Int));
 some (.inl ((x.1.1, x.1.2.1, (), x7, x.1.2.2.2.2.1, x.1.2.2.2.2.2.1, x16, ()), ((x.2.1.1.1, x.2.1.1.2.1, x.2.1.1.2.2.1, ()), ()), ())))))
 (let x17 : Bool := decide (x.1.2.2.2.2.2.2.1 < x10);
 br x17
 (let x18 : Bool := r9.1.1 != (2 : Int);
 br x18
 (some (.inr (.inl ((false, ()), (), ()))))
 (let x19 : Int := w64 (x.1.2.2.2.2.2.2.1 + (1 : Int));
 some (.inl ((x.1.1, x.1.2.1, (), x7, x.1.2.2.2.2.1, x.1.2.2.2.2.2.1, x19, ()), ((x.2.1.1.1, x.2.1.1.2.1, x.2.1.1.2.2.1, ()), ()), ()))))
 (let x20 : Int := w64 (x.1.2.2.2.2.2.2.1 + (1 : Int));
 some (.inl ((x.1.1, x.1.2.1, (), x7, x.1.2.2.2.2.1, x.1.2.2.2.2.2.1, x20, ()), ((x.2.1.1.1, x.2.1.1.2.1, x.2.1.1.2.2.1, ()), ()), ()))))))))))))
 (some (.inr (.inr ((x.1.1, x.1.2.2.2.1, ()), (), ()))))
def impl_IsBreaking_h0 : Sh := ⟨[(1, .c (.rd [] .i64)), (2, .c (.rd [] .i64)), (3, .c (.box 0 0)), (7, .c (.int .i64)), (15, .c (.rd [] .i64)), (16, .c (.int .i64)), (17, .c (.int .i64))], [(0, .cells [.int .i64, .int .i64, .int .i64])], []⟩
def impl_IsBreaking_r0 : List Sh := [⟨[(6, .c (.bool))], [], []⟩, ⟨[(1, .c (.rd [] .i64)), (7, .c (.int .i64))], [], []⟩]
noncomputable def impl_IsBreaking_L0 : Lp := ⟨0, [], impl_IsBreaking_h0, [], [(.ret, []), (.exit 0, [])], impl_IsBreaking_r0, loopC impl_IsBreaking_s0⟩
noncomputable def impl_IsBreaking (a0_0 : Int) (a0_1 : Int) (a0_2 : Int) (a1 : List Int) (a2 : List Int) : Option ((Bool × Unit) × Unit × Unit) :=
 (impl_both a0_0 a0_1 a0_2 a1).bind fun r1 =>
 br (!r1.1.1)
 (some ((false, ()), (), ()))
 ((loopC impl_IsBreaking_s0 ((a1, a2, (), (0 : Int), a2, (a2.length : Int), (0 : Int), ()), ((a0_0, a0_1, a0_2, ()), ()), ())).bind fun r21 =>
 sumK r21 (fun y24 =>
 some ((y24.1.1, ()), (), ())) (fun y25 =>
 let x26 : Bool := y25.1.2.1 == (y25.1.1.length : Int);
 some ((x26, ()), (), ())))
noncomputable def impl_IsBreaking_C : Ctr := ⟨70, impl_IsBreaking_arg, impl_IsBreaking_res, fun x => impl_IsBreaking x.1.1.1 x.1.1.2.1 x.1.1.2.2.1 x.1.2.1 x.1.2.2.1, none⟩
def impl_IsBreaking_H : Hint := ⟨[], [], [], fun _ => []⟩
noncomputable def impl_IsBreaking_T : List Ctr := [impl_both_C, impl_kindOf_C]
noncomputable def impl_IsBreaking_Ls : List Lp := [impl_IsBreaking_L0]
theorem impl_IsBreaking_l0 : ∀ x, impl_IsBreaking_s0 x = stepW E0 impl_IsBreaking_T impl_IsBreaking_Ls impl_IsBreaking_H (loopAt (bodyOf Tryz.f70) 0) 0 impl_IsBreaking_h0 [] [(.ret, []), (.exit 0, [])] impl_IsBreaking_r0 x := fun x => by kernel_rfl
theorem impl_IsBreaking_e : ∀ x, impl_IsBreaking_C.F x = runBodyW E0 impl_IsBreaking_T impl_IsBreaking_Ls impl_IsBreaking_H 70 Tryz.f70.results.toList (bodyOf Tryz.f70) [] (impl_IsBreaking_arg.mk' x) impl_IsBreaking_res := fun x => by kernel_rfl
theorem impl_IsBreaking_ok : impl_IsBreaking_C.Ok E0 := fn_ok (T := impl_IsBreaking_T) (h := impl_IsBreaking_H) (Ls := impl_IsBreaking_Ls) E0_mixed (T_cons impl_both_ok (T_cons impl_kindOf_ok T_nil)) Tryz.func70 (bodyOf_some (by kernel_rfl)) (by kernel_rfl) (loops_of (ks := [0]) (by kernel_rfl) ⟨(loop_one (h := impl_IsBreaking_H) (own := []) (head := impl_IsBreaking_h0) (back := []) (exs := [(.ret, []), (.exit 0, [])]) (res := impl_IsBreaking_r0) (step := impl_IsBreaking_s0) (by kernel_rfl) impl_IsBreaking_l0), trivial⟩) impl_IsBreaking_e
def impl_GalleyOk_arg : Sh := ⟨[(0, .agg [.str, .rd [] .i64, .rd [] .i64]), (1, .agg [.int .i64, .int .i64, .int .i64]), (2, .c (.rd [] .str))], [], []⟩
def impl_GalleyOk_res : List Sh := [⟨[(0, .c (.bool))], [], []⟩]
noncomputable def impl_GalleyOk_s0 (x : (List ByteArray × Unit × Unit × Unit × List ByteArray × Int × Int × Unit) × ((ByteArray × List Int × List Int × Unit) × (Int × Int × Int × Unit) × Unit) × (List Int × Unit)) : Option (((List ByteArray × Unit × Unit × Unit × List ByteArray × Int × Int × Unit) × ((ByteArray × List Int × List Int × Unit) × (Int × Int × Int × Unit) × Unit) × (List Int × Unit)) ⊕ (((Bool × Unit) × Unit × Unit) ⊕ ((List ByteArray × Unit × Unit × Unit × Unit) × ((ByteArray × List Int × List Int × Unit) × (Int × Int × Int × Unit) × Unit) × (List Int × Unit)))) :=
 let x1 : Bool := decide (x.1.2.2.2.2.2.2.1 < x.1.2.2.2.2.2.1);
 br x1
 (ck (0 ≤ x.1.2.2.2.2.2.2.1)
 (ck (x.1.2.2.2.2.2.2.1.toNat < x.1.2.2.2.2.1.length)
 (let x2 : ByteArray := x.1.2.2.2.2.1.getD x.1.2.2.2.2.2.2.1.toNat ByteArray.empty;
 (impl_wordsOf x2).bind fun r3 =>
 (strings_Join r3.2.2.1 (ByteArray.mk #[32])).bind fun r4 =>
 let x5 : Bool := !strEq r4.1.1 x2;
 br x5
 (some (.inr (.inl ((false, ()), (), ()))))
 (ck ((x.2.2.1.length + [(r3.2.2.1.length : Int)].length) * 8 ≤ 140737488355328 ∧ (x.2.2.1.length + [(r3.2.2.1.length : Int)].length) ≤ 9223372036854775807)
 (let x6 : List Int := x.2.2.1 ++ [(r3.2.2.1.length : Int)];
 let x7 : Int := w64 (x.1.2.2.2.2.2.2.1 + (1 : Int));
 some (.inl ((x.1.1, (), (), (), x.1.2.2.2.2.1, x.1.2.2.2.2.2.1, x7, ()), ((x.2.1.1.1, x.2.1.1.2.1, x.2.1.1.2.2.1, ()), (x.2.1.2.1.1, x.2.1.2.1.2.1, x.2.1.2.1.2.2.1, ()), ()), (x6, ()))))))))
 (some (.inr (.inr ((x.1.1, (), (), (), ()), ((x.2.1.1.1, x.2.1.1.2.1, x.2.1.1.2.2.1, ()), (x.2.1.2.1.1, x.2.1.2.1.2.1, x.2.1.2.1.2.2.1, ()), ()), (x.2.2.1, ())))))
def impl_GalleyOk_h0 : Sh := ⟨[(2, .c (.rd [] .str)), (3, .c (.box 0 0)), (4, .c (.box 1 0)), (7, .c (.own 0)), (14, .c (.rd [] .str)), (15, .c (.int .i64)), (16, .c (.int .i64))], [(0, .cells [.str, .rd [] .i64, .rd [] .i64]), (1, .cells [.int .i64, .int .i64, .int .i64])], [(0, .i64)]⟩
def impl_GalleyOk_r0 : List Sh := [⟨[(6, .c (.bool))], [], []⟩, ⟨[(2, .c (.rd [] .str)), (3, .c (.box 0 0)), (4, .c (.box 1 0)), (7, .c (.own 0))], [(0, .cells [.str, .rd [] .i64, .rd [] .i64]), (1, .cells [.int .i64, .int .i64, .int .i64])], [(0, .i64)]⟩]
noncomputable def impl_GalleyOk_L0 : Lp := ⟨0, [], impl_GalleyOk_h0, [], [(.ret, []), (.exit 0, [])], impl_GalleyOk_r0, loopC impl_GalleyOk_s0⟩
noncomputable def impl_GalleyOk (a0_0 : ByteArray) (a0_1 : List Int) (a0_2 : List Int) (a1_0 : Int) (a1_1 : Int) (a1_2 : Int) (a2 : List ByteArray) : Option ((Bool × Unit) × Unit × Unit) :=
 (loopC impl_GalleyOk_s0 ((a2, (), (), (), a2, (a2.length : Int), (0 : Int), ()), ((a0_0, a0_1, a0_2, ()), (a1_0, a1_1, a1_2, ()), ()), ([], ()))).bind fun r8 =>
 sumK r8 (fun y11 =>
 some ((y11.1.1, ()), (), ())) (fun y12 =>
 (impl_GalleyText y12.1.1).bind fun r13 =>
 (impl_WordWidths y12.2.1.1.1 y12.2.1.1.2.1 y12.2.1.1.2.2.1 r13.1.1).bind fun r14 =>
 br r14.1.2.1
 ((impl_IsBreaking y12.2.1.2.1.1 y12.2.1.2.1.2.1 y12.2.1.2.1.2.2.1 r14.2.2.1 y12.2.2.1).bind fun r15 =>
 some ((r15.1.1, ()), (), ()))
 (some ((false, ()), (), ())))
noncomputable def impl_GalleyOk_C : Ctr := ⟨27, impl_GalleyOk_arg, impl_GalleyOk_res, fun x => impl_GalleyOk x.1.1.1 x.1.1.2.1 x.1.1.2.2.1 x.1.2.1.1 x.1.2.1.2.1 x.1.2.1.2.2.1 x.1.2.2.1, none⟩
def impl_GalleyOk_H : Hint := ⟨[], [], [], fun _ => []⟩
noncomputable def impl_GalleyOk_T : List Ctr := [impl_wordsOf_C, strings_Join_C, impl_GalleyText_C, impl_WordWidths_C, impl_IsBreaking_C]
noncomputable def impl_GalleyOk_Ls : List Lp := [impl_GalleyOk_L0]
theorem impl_GalleyOk_l0 : ∀ x, impl_GalleyOk_s0 x = stepW E0 impl_GalleyOk_T impl_GalleyOk_Ls impl_GalleyOk_H (loopAt (bodyOf Tryz.f27) 0) 0 impl_GalleyOk_h0 [] [(.ret, []), (.exit 0, [])] impl_GalleyOk_r0 x := fun x => by kernel_rfl
theorem impl_GalleyOk_e : ∀ x, impl_GalleyOk_C.F x = runBodyW E0 impl_GalleyOk_T impl_GalleyOk_Ls impl_GalleyOk_H 27 Tryz.f27.results.toList (bodyOf Tryz.f27) [] (impl_GalleyOk_arg.mk' x) impl_GalleyOk_res := fun x => by kernel_rfl
theorem impl_GalleyOk_ok : impl_GalleyOk_C.Ok E0 := fn_ok (T := impl_GalleyOk_T) (h := impl_GalleyOk_H) (Ls := impl_GalleyOk_Ls) E0_mixed (T_cons impl_wordsOf_ok (T_cons strings_Join_ok (T_cons impl_GalleyText_ok (T_cons impl_WordWidths_ok (T_cons impl_IsBreaking_ok T_nil))))) Tryz.func27 (bodyOf_some (by kernel_rfl)) (by kernel_rfl) (loops_of (ks := [0]) (by kernel_rfl) ⟨(loop_one (h := impl_GalleyOk_H) (own := []) (head := impl_GalleyOk_h0) (back := []) (exs := [(.ret, []), (.exit 0, [])]) (res := impl_GalleyOk_r0) (step := impl_GalleyOk_s0) (by kernel_rfl) impl_GalleyOk_l0), trivial⟩) impl_GalleyOk_e
def impl_DeskOk_arg : Sh := ⟨[(0, .agg [.str, .rd [] .i64, .rd [] .i64, .rd [] .mats, .int .i64, .int .i64, .int .i64, .int .i64, .rd [] .mat, .rd [] .mat, .rd [] .str])], [], []⟩
def impl_DeskOk_res : List Sh := [⟨[(0, .c (.bool))], [], []⟩]
noncomputable def impl_DeskOk (a0_0 : ByteArray) (a0_1 : List Int) (a0_2 : List Int) (a0_3 : List (List (Int × Int))) (a0_4 : Int) (a0_5 : Int) (a0_6 : Int) (a0_7 : Int) (a0_8 : List (Int × Int)) (a0_9 : List (Int × Int)) (a0_10 : List ByteArray) : Option ((Bool × Unit) × Unit × Unit) :=
 (impl_MachineOk a0_0 a0_1 a0_2 a0_3 a0_4 a0_5 a0_6 a0_7 a0_8 a0_9).bind fun r1 =>
 br r1.1.1
 (let x2 : Bool := (a0_10.length : Int) == (0 : Int);
 br x2
 (some ((true, ()), (), ()))
 ((impl_GalleyOk a0_0 a0_1 a0_2 a0_5 a0_6 a0_7 a0_10).bind fun r3 =>
 some ((r3.1.1, ()), (), ())))
 (some ((false, ()), (), ()))
noncomputable def impl_DeskOk_C : Ctr := ⟨8, impl_DeskOk_arg, impl_DeskOk_res, fun x => impl_DeskOk x.1.1.1 x.1.1.2.1 x.1.1.2.2.1 x.1.1.2.2.2.1 x.1.1.2.2.2.2.1 x.1.1.2.2.2.2.2.1 x.1.1.2.2.2.2.2.2.1 x.1.1.2.2.2.2.2.2.2.1 x.1.1.2.2.2.2.2.2.2.2.1 x.1.1.2.2.2.2.2.2.2.2.2.1 x.1.1.2.2.2.2.2.2.2.2.2.2.1, none⟩
def impl_DeskOk_H : Hint := ⟨[], [], [], fun _ => []⟩
noncomputable def impl_DeskOk_T : List Ctr := [impl_MachineOk_C, impl_GalleyOk_C]
noncomputable def impl_DeskOk_Ls : List Lp := []
theorem impl_DeskOk_e : ∀ x, impl_DeskOk_C.F x = runBodyW E0 impl_DeskOk_T impl_DeskOk_Ls impl_DeskOk_H 8 Tryz.f8.results.toList (bodyOf Tryz.f8) [] (impl_DeskOk_arg.mk' x) impl_DeskOk_res := fun x => by kernel_rfl
theorem impl_DeskOk_ok : impl_DeskOk_C.Ok E0 := fn_ok (T := impl_DeskOk_T) (h := impl_DeskOk_H) (Ls := impl_DeskOk_Ls) E0_mixed (T_cons impl_MachineOk_ok (T_cons impl_GalleyOk_ok T_nil)) Tryz.func8 (bodyOf_some (by kernel_rfl)) (by kernel_rfl) (loops_of (ks := []) (by kernel_rfl) trivial) impl_DeskOk_e
def laws_eqIntS_arg : Sh := ⟨[(0, .c (.rd [] .i64)), (1, .c (.rd [] .i64))], [], []⟩
def laws_eqIntS_res : List Sh := [⟨[(0, .c (.bool))], [], []⟩]
noncomputable def laws_eqIntS_s0 (x : (List Int × List Int × Int × Unit) × Unit × Unit) : Option (((List Int × List Int × Int × Unit) × Unit × Unit) ⊕ (((Bool × Unit) × Unit × Unit) ⊕ (Unit × Unit × Unit))) :=
 let x2 : Bool := decide (x.1.2.2.1 < (x.1.1.length : Int));
 br x2
 (ck (0 ≤ x.1.2.2.1)
 (ck (x.1.2.2.1.toNat < x.1.1.length)
 (let x3 : Int := x.1.1.getD x.1.2.2.1.toNat 0;
 ck (0 ≤ x.1.2.2.1)
 (ck (x.1.2.2.1.toNat < x.1.2.1.length)
 (let x4 : Int := x.1.2.1.getD x.1.2.2.1.toNat 0;
 let x5 : Bool := x3 != x4;
 br x5
 (some (.inr (.inl ((false, ()), (), ()))))
 (let x6 : Int := w64 (x.1.2.2.1 + (1 : Int));
 some (.inl ((x.1.1, x.1.2.1, x6, ()), (), ()))))))))
 (some (.inr (.inr ((), (), ()))))
def laws_eqIntS_h0 : Sh := ⟨[(0, .c (.rd [] .i64)), (1, .c (.rd [] .i64)), (5, .c (.int .i64))], [], []⟩
def laws_eqIntS_r0 : List Sh := [⟨[(4, .c (.bool))], [], []⟩, ⟨[], [], []⟩]
noncomputable def laws_eqIntS_L0 : Lp := ⟨0, [], laws_eqIntS_h0, [], [(.ret, []), (.exit 0, [])], laws_eqIntS_r0, loopC laws_eqIntS_s0⟩
noncomputable def laws_eqIntS (a0 : List Int) (a1 : List Int) : Option ((Bool × Unit) × Unit × Unit) :=
 let x1 : Bool := (a0.length : Int) != (a1.length : Int);
 br x1
 (some ((false, ()), (), ()))
 ((loopC laws_eqIntS_s0 ((a0, a1, (0 : Int), ()), (), ())).bind fun r7 =>
 sumK r7 (fun y10 =>
 some ((y10.1.1, ()), (), ())) (fun y11 =>
 some ((true, ()), (), ())))
noncomputable def laws_eqIntS_C : Ctr := ⟨17, laws_eqIntS_arg, laws_eqIntS_res, fun x => laws_eqIntS x.1.1 x.1.2.1, none⟩
def laws_eqIntS_H : Hint := ⟨[], [], [], fun _ => []⟩
noncomputable def laws_eqIntS_T : List Ctr := []
noncomputable def laws_eqIntS_Ls : List Lp := [laws_eqIntS_L0]
theorem laws_eqIntS_l0 : ∀ x, laws_eqIntS_s0 x = stepW E0 laws_eqIntS_T laws_eqIntS_Ls laws_eqIntS_H (loopAt (bodyOf Tryz.f17) 0) 0 laws_eqIntS_h0 [] [(.ret, []), (.exit 0, [])] laws_eqIntS_r0 x := fun x => by kernel_rfl
theorem laws_eqIntS_e : ∀ x, laws_eqIntS_C.F x = runBodyW E0 laws_eqIntS_T laws_eqIntS_Ls laws_eqIntS_H 17 Tryz.f17.results.toList (bodyOf Tryz.f17) [] (laws_eqIntS_arg.mk' x) laws_eqIntS_res := fun x => by kernel_rfl
theorem laws_eqIntS_ok : laws_eqIntS_C.Ok E0 := fn_ok (T := laws_eqIntS_T) (h := laws_eqIntS_H) (Ls := laws_eqIntS_Ls) E0_mixed T_nil Tryz.func17 (bodyOf_some (by kernel_rfl)) (by kernel_rfl) (loops_of (ks := [0]) (by kernel_rfl) ⟨(loop_one (h := laws_eqIntS_H) (own := []) (head := laws_eqIntS_h0) (back := []) (exs := [(.ret, []), (.exit 0, [])]) (res := laws_eqIntS_r0) (step := laws_eqIntS_s0) (by kernel_rfl) laws_eqIntS_l0), trivial⟩) laws_eqIntS_e
def laws_eqFont_arg : Sh := ⟨[(0, .agg [.str, .rd [] .i64, .rd [] .i64]), (1, .agg [.str, .rd [] .i64, .rd [] .i64])], [], []⟩
def laws_eqFont_res : List Sh := [⟨[(0, .c (.bool))], [], []⟩]
noncomputable def laws_eqFont (a0_0 : ByteArray) (a0_1 : List Int) (a0_2 : List Int) (a1_0 : ByteArray) (a1_1 : List Int) (a1_2 : List Int) : Option ((Bool × Unit) × Unit × Unit) :=
 let x1 : Bool := !strEq a0_0 a1_0;
 br x1
 (some ((false, ()), (), ()))
 ((laws_eqIntS a0_1 a1_1).bind fun r2 =>
 br (!r2.1.1)
 (some ((false, ()), (), ()))
 ((laws_eqIntS a0_2 a1_2).bind fun r3 =>
 br (!r3.1.1)
 (some ((false, ()), (), ()))
 (some ((true, ()), (), ()))))
noncomputable def laws_eqFont_C : Ctr := ⟨37, laws_eqFont_arg, laws_eqFont_res, fun x => laws_eqFont x.1.1.1 x.1.1.2.1 x.1.1.2.2.1 x.1.2.1.1 x.1.2.1.2.1 x.1.2.1.2.2.1, none⟩
def laws_eqFont_H : Hint := ⟨[], [], [], fun _ => []⟩
noncomputable def laws_eqFont_T : List Ctr := [laws_eqIntS_C]
noncomputable def laws_eqFont_Ls : List Lp := []
theorem laws_eqFont_e : ∀ x, laws_eqFont_C.F x = runBodyW E0 laws_eqFont_T laws_eqFont_Ls laws_eqFont_H 37 Tryz.f37.results.toList (bodyOf Tryz.f37) [] (laws_eqFont_arg.mk' x) laws_eqFont_res := fun x => by kernel_rfl
theorem laws_eqFont_ok : laws_eqFont_C.Ok E0 := fn_ok (T := laws_eqFont_T) (h := laws_eqFont_H) (Ls := laws_eqFont_Ls) E0_mixed (T_cons laws_eqIntS_ok T_nil) Tryz.func37 (bodyOf_some (by kernel_rfl)) (by kernel_rfl) (loops_of (ks := []) (by kernel_rfl) trivial) laws_eqFont_e
def laws_eqMatrix_arg : Sh := ⟨[(0, .agg [.int .i64, .int .i64]), (1, .agg [.int .i64, .int .i64])], [], []⟩
def laws_eqMatrix_res : List Sh := [⟨[(0, .c (.bool))], [], []⟩]
noncomputable def laws_eqMatrix (a0_0 : Int) (a0_1 : Int) (a1_0 : Int) (a1_1 : Int) : Option ((Bool × Unit) × Unit × Unit) :=
 let x1 : Bool := a0_0 != a1_0;
 br x1
 (some ((false, ()), (), ()))
 (let x2 : Bool := a0_1 != a1_1;
 br x2
 (some ((false, ()), (), ()))
 (some ((true, ()), (), ())))
noncomputable def laws_eqMatrix_C : Ctr := ⟨82, laws_eqMatrix_arg, laws_eqMatrix_res, fun x => laws_eqMatrix x.1.1.1 x.1.1.2.1 x.1.2.1.1 x.1.2.1.2.1, none⟩
def laws_eqMatrix_H : Hint := ⟨[], [], [], fun _ => []⟩
noncomputable def laws_eqMatrix_T : List Ctr := []
noncomputable def laws_eqMatrix_Ls : List Lp := []
theorem laws_eqMatrix_e : ∀ x, laws_eqMatrix_C.F x = runBodyW E0 laws_eqMatrix_T laws_eqMatrix_Ls laws_eqMatrix_H 82 Tryz.f82.results.toList (bodyOf Tryz.f82) [] (laws_eqMatrix_arg.mk' x) laws_eqMatrix_res := fun x => by kernel_rfl
theorem laws_eqMatrix_ok : laws_eqMatrix_C.Ok E0 := fn_ok (T := laws_eqMatrix_T) (h := laws_eqMatrix_H) (Ls := laws_eqMatrix_Ls) E0_mixed T_nil Tryz.func82 (bodyOf_some (by kernel_rfl)) (by kernel_rfl) (loops_of (ks := []) (by kernel_rfl) trivial) laws_eqMatrix_e
def laws_eqMatrixS_arg : Sh := ⟨[(0, .c (.rd [] .mat)), (1, .c (.rd [] .mat))], [], []⟩
def laws_eqMatrixS_res : List Sh := [⟨[(0, .c (.bool))], [], []⟩]
noncomputable def laws_eqMatrixS_s0 (x : (List (Int × Int) × List (Int × Int) × Int × Unit) × Unit × Unit) : Option (((List (Int × Int) × List (Int × Int) × Int × Unit) × Unit × Unit) ⊕ (((Bool × Unit) × Unit × Unit) ⊕ (Unit × Unit × Unit))) :=
 let x2 : Bool := decide (x.1.2.2.1 < (x.1.1.length : Int));
 br x2
 (ck (0 ≤ x.1.2.2.1)
 (ck (x.1.2.2.1.toNat < x.1.1.length)
 (let x3 : Int × Int := x.1.1.getD x.1.2.2.1.toNat (0, 0);
 ck (0 ≤ x.1.2.2.1)
 (ck (x.1.2.2.1.toNat < x.1.2.1.length)
 (let x4 : Int × Int := x.1.2.1.getD x.1.2.2.1.toNat (0, 0);
 (laws_eqMatrix x3.1 x3.2 x4.1 x4.2).bind fun r5 =>
 br (!r5.1.1)
 (some (.inr (.inl ((false, ()), (), ()))))
 (let x6 : Int := w64 (x.1.2.2.1 + (1 : Int));
 some (.inl ((x.1.1, x.1.2.1, x6, ()), (), ()))))))))
 (some (.inr (.inr ((), (), ()))))
def laws_eqMatrixS_h0 : Sh := ⟨[(0, .c (.rd [] .mat)), (1, .c (.rd [] .mat)), (5, .c (.int .i64))], [], []⟩
def laws_eqMatrixS_r0 : List Sh := [⟨[(4, .c (.bool))], [], []⟩, ⟨[], [], []⟩]
noncomputable def laws_eqMatrixS_L0 : Lp := ⟨0, [], laws_eqMatrixS_h0, [], [(.ret, []), (.exit 0, [])], laws_eqMatrixS_r0, loopC laws_eqMatrixS_s0⟩
noncomputable def laws_eqMatrixS (a0 : List (Int × Int)) (a1 : List (Int × Int)) : Option ((Bool × Unit) × Unit × Unit) :=
 let x1 : Bool := (a0.length : Int) != (a1.length : Int);
 br x1
 (some ((false, ()), (), ()))
 ((loopC laws_eqMatrixS_s0 ((a0, a1, (0 : Int), ()), (), ())).bind fun r7 =>
 sumK r7 (fun y10 =>
 some ((y10.1.1, ()), (), ())) (fun y11 =>
 some ((true, ()), (), ())))
noncomputable def laws_eqMatrixS_C : Ctr := ⟨40, laws_eqMatrixS_arg, laws_eqMatrixS_res, fun x => laws_eqMatrixS x.1.1 x.1.2.1, none⟩
def laws_eqMatrixS_H : Hint := ⟨[], [], [], fun _ => []⟩
noncomputable def laws_eqMatrixS_T : List Ctr := [laws_eqMatrix_C]
noncomputable def laws_eqMatrixS_Ls : List Lp := [laws_eqMatrixS_L0]
theorem laws_eqMatrixS_l0 : ∀ x, laws_eqMatrixS_s0 x = stepW E0 laws_eqMatrixS_T laws_eqMatrixS_Ls laws_eqMatrixS_H (loopAt (bodyOf Tryz.f40) 0) 0 laws_eqMatrixS_h0 [] [(.ret, []), (.exit 0, [])] laws_eqMatrixS_r0 x := fun x => by kernel_rfl
theorem laws_eqMatrixS_e : ∀ x, laws_eqMatrixS_C.F x = runBodyW E0 laws_eqMatrixS_T laws_eqMatrixS_Ls laws_eqMatrixS_H 40 Tryz.f40.results.toList (bodyOf Tryz.f40) [] (laws_eqMatrixS_arg.mk' x) laws_eqMatrixS_res := fun x => by kernel_rfl
theorem laws_eqMatrixS_ok : laws_eqMatrixS_C.Ok E0 := fn_ok (T := laws_eqMatrixS_T) (h := laws_eqMatrixS_H) (Ls := laws_eqMatrixS_Ls) E0_mixed (T_cons laws_eqMatrix_ok T_nil) Tryz.func40 (bodyOf_some (by kernel_rfl)) (by kernel_rfl) (loops_of (ks := [0]) (by kernel_rfl) ⟨(loop_one (h := laws_eqMatrixS_H) (own := []) (head := laws_eqMatrixS_h0) (back := []) (exs := [(.ret, []), (.exit 0, [])]) (res := laws_eqMatrixS_r0) (step := laws_eqMatrixS_s0) (by kernel_rfl) laws_eqMatrixS_l0), trivial⟩) laws_eqMatrixS_e
def laws_eqMatrixSS_arg : Sh := ⟨[(0, .c (.rd [] .mats)), (1, .c (.rd [] .mats))], [], []⟩
def laws_eqMatrixSS_res : List Sh := [⟨[(0, .c (.bool))], [], []⟩]
noncomputable def laws_eqMatrixSS_s0 (x : (List (List (Int × Int)) × List (List (Int × Int)) × Int × Unit) × Unit × Unit) : Option (((List (List (Int × Int)) × List (List (Int × Int)) × Int × Unit) × Unit × Unit) ⊕ (((Bool × Unit) × Unit × Unit) ⊕ (Unit × Unit × Unit))) :=
 let x2 : Bool := decide (x.1.2.2.1 < (x.1.1.length : Int));
 br x2
 (ck (0 ≤ x.1.2.2.1)
 (ck (x.1.2.2.1.toNat < x.1.1.length)
 (let x3 : List (Int × Int) := x.1.1.getD x.1.2.2.1.toNat [];
 ck (0 ≤ x.1.2.2.1)
 (ck (x.1.2.2.1.toNat < x.1.2.1.length)
 (let x4 : List (Int × Int) := x.1.2.1.getD x.1.2.2.1.toNat [];
 (laws_eqMatrixS x3 x4).bind fun r5 =>
 br (!r5.1.1)
 (some (.inr (.inl ((false, ()), (), ()))))
 (let x6 : Int := w64 (x.1.2.2.1 + (1 : Int));
 some (.inl ((x.1.1, x.1.2.1, x6, ()), (), ()))))))))
 (some (.inr (.inr ((), (), ()))))
def laws_eqMatrixSS_h0 : Sh := ⟨[(0, .c (.rd [] .mats)), (1, .c (.rd [] .mats)), (5, .c (.int .i64))], [], []⟩
def laws_eqMatrixSS_r0 : List Sh := [⟨[(4, .c (.bool))], [], []⟩, ⟨[], [], []⟩]
noncomputable def laws_eqMatrixSS_L0 : Lp := ⟨0, [], laws_eqMatrixSS_h0, [], [(.ret, []), (.exit 0, [])], laws_eqMatrixSS_r0, loopC laws_eqMatrixSS_s0⟩
noncomputable def laws_eqMatrixSS (a0 : List (List (Int × Int))) (a1 : List (List (Int × Int))) : Option ((Bool × Unit) × Unit × Unit) :=
 let x1 : Bool := (a0.length : Int) != (a1.length : Int);
 br x1
 (some ((false, ()), (), ()))
 ((loopC laws_eqMatrixSS_s0 ((a0, a1, (0 : Int), ()), (), ())).bind fun r7 =>
 sumK r7 (fun y10 =>
 some ((y10.1.1, ()), (), ())) (fun y11 =>
 some ((true, ()), (), ())))
noncomputable def laws_eqMatrixSS_C : Ctr := ⟨38, laws_eqMatrixSS_arg, laws_eqMatrixSS_res, fun x => laws_eqMatrixSS x.1.1 x.1.2.1, none⟩
def laws_eqMatrixSS_H : Hint := ⟨[], [], [], fun _ => []⟩
noncomputable def laws_eqMatrixSS_T : List Ctr := [laws_eqMatrixS_C]
noncomputable def laws_eqMatrixSS_Ls : List Lp := [laws_eqMatrixSS_L0]
theorem laws_eqMatrixSS_l0 : ∀ x, laws_eqMatrixSS_s0 x = stepW E0 laws_eqMatrixSS_T laws_eqMatrixSS_Ls laws_eqMatrixSS_H (loopAt (bodyOf Tryz.f38) 0) 0 laws_eqMatrixSS_h0 [] [(.ret, []), (.exit 0, [])] laws_eqMatrixSS_r0 x := fun x => by kernel_rfl
theorem laws_eqMatrixSS_e : ∀ x, laws_eqMatrixSS_C.F x = runBodyW E0 laws_eqMatrixSS_T laws_eqMatrixSS_Ls laws_eqMatrixSS_H 38 Tryz.f38.results.toList (bodyOf Tryz.f38) [] (laws_eqMatrixSS_arg.mk' x) laws_eqMatrixSS_res := fun x => by kernel_rfl
theorem laws_eqMatrixSS_ok : laws_eqMatrixSS_C.Ok E0 := fn_ok (T := laws_eqMatrixSS_T) (h := laws_eqMatrixSS_H) (Ls := laws_eqMatrixSS_Ls) E0_mixed (T_cons laws_eqMatrixS_ok T_nil) Tryz.func38 (bodyOf_some (by kernel_rfl)) (by kernel_rfl) (loops_of (ks := [0]) (by kernel_rfl) ⟨(loop_one (h := laws_eqMatrixSS_H) (own := []) (head := laws_eqMatrixSS_h0) (back := []) (exs := [(.ret, []), (.exit 0, [])]) (res := laws_eqMatrixSS_r0) (step := laws_eqMatrixSS_s0) (by kernel_rfl) laws_eqMatrixSS_l0), trivial⟩) laws_eqMatrixSS_e
def laws_eqMeasure_arg : Sh := ⟨[(0, .agg [.int .i64, .int .i64, .int .i64]), (1, .agg [.int .i64, .int .i64, .int .i64])], [], []⟩
def laws_eqMeasure_res : List Sh := [⟨[(0, .c (.bool))], [], []⟩]
noncomputable def laws_eqMeasure (a0_0 : Int) (a0_1 : Int) (a0_2 : Int) (a1_0 : Int) (a1_1 : Int) (a1_2 : Int) : Option ((Bool × Unit) × Unit × Unit) :=
 let x1 : Bool := a0_0 != a1_0;
 br x1
 (some ((false, ()), (), ()))
 (let x2 : Bool := a0_1 != a1_1;
 br x2
 (some ((false, ()), (), ()))
 (let x3 : Bool := a0_2 != a1_2;
 br x3
 (some ((false, ()), (), ()))
 (some ((true, ()), (), ()))))
noncomputable def laws_eqMeasure_C : Ctr := ⟨39, laws_eqMeasure_arg, laws_eqMeasure_res, fun x => laws_eqMeasure x.1.1.1 x.1.1.2.1 x.1.1.2.2.1 x.1.2.1.1 x.1.2.1.2.1 x.1.2.1.2.2.1, none⟩
def laws_eqMeasure_H : Hint := ⟨[], [], [], fun _ => []⟩
noncomputable def laws_eqMeasure_T : List Ctr := []
noncomputable def laws_eqMeasure_Ls : List Lp := []
theorem laws_eqMeasure_e : ∀ x, laws_eqMeasure_C.F x = runBodyW E0 laws_eqMeasure_T laws_eqMeasure_Ls laws_eqMeasure_H 39 Tryz.f39.results.toList (bodyOf Tryz.f39) [] (laws_eqMeasure_arg.mk' x) laws_eqMeasure_res := fun x => by kernel_rfl
theorem laws_eqMeasure_ok : laws_eqMeasure_C.Ok E0 := fn_ok (T := laws_eqMeasure_T) (h := laws_eqMeasure_H) (Ls := laws_eqMeasure_Ls) E0_mixed T_nil Tryz.func39 (bodyOf_some (by kernel_rfl)) (by kernel_rfl) (loops_of (ks := []) (by kernel_rfl) trivial) laws_eqMeasure_e
end Go.Tree
