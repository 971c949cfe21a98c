/- What each function that the law FnExactCastGalley reaches computes, as a plain function, and the proof that the program's code computes it. No condition but the function's own answer. -/
import Derived.Test.YtniopnhpdfpkkaaGreatDoorK8
import Derived.Shelf.Strings.Split
import Derived.Shelf.SlicesE.DeleteFunc
import Derived.Lib.Hide
import Derived.WalkKit
import Derived.Shelf.Strings.OnBuilder
import Derived.Lib.Join
import Derived.Test.YtniopnhpdfpkkaaGreatDoorProg
import Derived.KernelRfl
namespace Go.Tree
open Go Go.Proofs
set_option linter.unusedVariables false
set_option maxRecDepth 100000
noncomputable def E0 : Env := { P := Tryz.prog, hint := fun _ => ⟨[], [], [], fun _ => []⟩, mode := fun f => ([0, 0, 0, 0, 0, 0, 0, 0, 0, 0, 0, 0, 0, 0, 0, 0, 0, 0, 0, 2, 2, 2, 0, 0, 0, 0, 0, 0, 0, 0, 0, 0, 0, 0, 0, 0, 0, 0, 0, 0, 0, 2, 2, 2, 0, 0, 0, 0, 0, 0, 0, 0, 0, 0, 0, 0, 0, 0, 0, 0, 0, 0, 0, 0, 0, 0, 0, 0, 0, 0, 0, 0, 0, 0, 0, 0, 0, 0, 0, 0, 0, 0, 0, 0, 0, 0, 0, 0, 0, 0, 0, 0, 0, 0, 0, 0, 0, 0, 0, 0, 0, 0, 0, 0, 0, 0, 0, 0, 0, 0, 0, 0, 0, 0, 0, 0, 0, 0, 0, 0, 0, 0, 0, 0, 0, 0, 0, 0, 0, 0, 0, 0, 0, 0, 0, 0, 0, 0, 0, 0, 0, 0, 0, 0, 0, 0, 0, 0, 0, 0, 0, 0, 0, 0, 0, 0, 0, 0, 0, 0, 0, 0, 0, 0, 0, 0, 0, 0, 0, 0, 0, 0, 0, 0, 0, 0, 0, 0, 0, 0, 0, 0, 0, 0, 0, 0, 0, 0, 0] : List Nat).getD f 0, nres := fun f => ([0, 0, 0, 1, 1, 1, 1, 1, 1, 1, 1, 1, 3, 1, 1, 3, 1, 1, 1, 1, 1, 1, 1, 1, 1, 1, 1, 1, 1, 1, 1, 3, 1, 1, 1, 1, 3, 1, 1, 1, 1, 1, 1, 1, 1, 1, 1, 1, 1, 1, 1, 1, 1, 1, 1, 1, 2, 1, 1, 1, 1, 1, 1, 1, 1, 1, 1, 1, 2, 1, 1, 1, 1, 2, 4, 2, 1, 1, 1, 2, 4, 2, 1, 1, 1, 1, 2, 1, 1, 1, 1, 1, 1, 1, 1, 1, 3, 1, 1, 1, 0, 2, 1, 2, 1, 1, 1, 2, 1, 1, 1, 3, 1, 1, 1, 1, 1, 1, 1, 1, 3, 1, 1, 2, 1, 1, 1, 1, 1, 2, 3, 1, 1, 0, 0, 1, 1, 1, 3, 3, 1, 1, 1, 1, 1, 1, 1, 1, 1, 1, 1, 1, 1, 2, 1, 1, 1, 2, 1, 1, 2, 1, 1, 1, 1, 1, 2, 1, 0, 1, 0, 1, 0, 1, 0, 1, 0, 1, 0, 1, 1, 0, 0, 1, 0, 0, 0, 0, 0] : List Nat).getD f 0, pk := fun w => (∃ m, w.cell? ⟨0, 0, none⟩ = some (.int .i64 m)) ∧ True }
theorem E0_mixed : E0.P.follows .mixedOrders = true := by kernel_rfl
def laws_szIntS_arg : Sh := ⟨[(0, .c (.rd [] .i64)), (1, .c (.int .i64))], [], []⟩
def laws_szIntS_res : List Sh := [⟨[(0, .c (.int .i64))], [], []⟩]
noncomputable def laws_szIntS (a0 : List Int) (a1 : Int) : Option ((Int × Unit) × Unit × Unit) :=
 let x1 : Int := w64 (a1 - (a0.length : Int));
 let x2 : Bool := decide (x1 < (0 : Int));
 br x2
 (some (((-1 : Int), ()), (), ()))
 (some ((x1, ()), (), ()))
noncomputable def laws_szIntS_C : Ctr := ⟨71, laws_szIntS_arg, laws_szIntS_res, fun x => laws_szIntS x.1.1 x.1.2.1, none⟩
def laws_szIntS_H : Hint := ⟨[], [], [], fun _ => []⟩
noncomputable def laws_szIntS_T : List Ctr := []
noncomputable def laws_szIntS_Ls : List Lp := []
theorem laws_szIntS_e : ∀ x, laws_szIntS_C.F x = runBodyW E0 laws_szIntS_T laws_szIntS_Ls laws_szIntS_H 71 Tryz.f71.results.toList (bodyOf Tryz.f71) [] (laws_szIntS_arg.mk' x) laws_szIntS_res := fun x => by kernel_rfl
theorem laws_szIntS_ok : laws_szIntS_C.Ok E0 := fn_ok (T := laws_szIntS_T) (h := laws_szIntS_H) (Ls := laws_szIntS_Ls) E0_mixed T_nil Tryz.func71 (bodyOf_some (by kernel_rfl)) (by kernel_rfl) (loops_of (ks := []) (by kernel_rfl) trivial) laws_szIntS_e
def laws_szFont_arg : Sh := ⟨[(0, .agg [.str, .rd [] .i64, .rd [] .i64]), (1, .c (.int .i64))], [], []⟩
def laws_szFont_res : List Sh := [⟨[(0, .c (.int .i64))], [], []⟩]
noncomputable def laws_szFont (a0_0 : ByteArray) (a0_1 : List Int) (a0_2 : List Int) (a1 : Int) : Option ((Int × Unit) × Unit × Unit) :=
 let x1 : Int := w64 (a1 - (a0_0.size : Int));
 let x2 : Bool := decide (x1 < (0 : Int));
 br x2
 (some (((-1 : Int), ()), (), ()))
 ((laws_szIntS a0_1 x1).bind fun r3 =>
 let x4 : Bool := decide (r3.1.1 < (0 : Int));
 br x4
 (some (((-1 : Int), ()), (), ()))
 ((laws_szIntS a0_2 r3.1.1).bind fun r5 =>
 let x6 : Bool := decide (r5.1.1 < (0 : Int));
 br x6
 (some (((-1 : Int), ()), (), ()))
 (some ((r5.1.1, ()), (), ()))))
noncomputable def laws_szFont_C : Ctr := ⟨28, laws_szFont_arg, laws_szFont_res, fun x => laws_szFont x.1.1.1 x.1.1.2.1 x.1.1.2.2.1 x.1.2.1, none⟩
def laws_szFont_H : Hint := ⟨[], [], [], fun _ => []⟩
noncomputable def laws_szFont_T : List Ctr := [laws_szIntS_C]
noncomputable def laws_szFont_Ls : List Lp := []
theorem laws_szFont_e : ∀ x, laws_szFont_C.F x = runBodyW E0 laws_szFont_T laws_szFont_Ls laws_szFont_H 28 Tryz.f28.results.toList (bodyOf Tryz.f28) [] (laws_szFont_arg.mk' x) laws_szFont_res := fun x => by kernel_rfl
theorem laws_szFont_ok : laws_szFont_C.Ok E0 := fn_ok (T := laws_szFont_T) (h := laws_szFont_H) (Ls := laws_szFont_Ls) E0_mixed (T_cons laws_szIntS_ok T_nil) Tryz.func28 (bodyOf_some (by kernel_rfl)) (by kernel_rfl) (loops_of (ks := []) (by kernel_rfl) trivial) laws_szFont_e
def laws_szMatrixS_arg : Sh := ⟨[(0, .c (.rd [] .mat)), (1, .c (.int .i64))], [], []⟩
def laws_szMatrixS_res : List Sh := [⟨[(0, .c (.int .i64))], [], []⟩]
noncomputable def laws_szMatrixS (a0 : List (Int × Int)) (a1 : Int) : Option ((Int × Unit) × Unit × Unit) :=
 let x1 : Int := w64 (a1 - (a0.length : Int));
 let x2 : Bool := decide (x1 < (0 : Int));
 br x2
 (some (((-1 : Int), ()), (), ()))
 (some ((x1, ()), (), ()))
noncomputable def laws_szMatrixS_C : Ctr := ⟨30, laws_szMatrixS_arg, laws_szMatrixS_res, fun x => laws_szMatrixS x.1.1 x.1.2.1, none⟩
def laws_szMatrixS_H : Hint := ⟨[], [], [], fun _ => []⟩
noncomputable def laws_szMatrixS_T : List Ctr := []
noncomputable def laws_szMatrixS_Ls : List Lp := []
theorem laws_szMatrixS_e : ∀ x, laws_szMatrixS_C.F x = runBodyW E0 laws_szMatrixS_T laws_szMatrixS_Ls laws_szMatrixS_H 30 Tryz.f30.results.toList (bodyOf Tryz.f30) [] (laws_szMatrixS_arg.mk' x) laws_szMatrixS_res := fun x => by kernel_rfl
theorem laws_szMatrixS_ok : laws_szMatrixS_C.Ok E0 := fn_ok (T := laws_szMatrixS_T) (h := laws_szMatrixS_H) (Ls := laws_szMatrixS_Ls) E0_mixed T_nil Tryz.func30 (bodyOf_some (by kernel_rfl)) (by kernel_rfl) (loops_of (ks := []) (by kernel_rfl) trivial) laws_szMatrixS_e
def laws_szMatrixSS_arg : Sh := ⟨[(0, .c (.rd [] .mats)), (1, .c (.int .i64))], [], []⟩
def laws_szMatrixSS_res : List Sh := [⟨[(0, .c (.int .i64))], [], []⟩]
noncomputable def laws_szMatrixSS_s0 (x : (List (List (Int × Int)) × Int × Int × Unit) × Unit × Unit) : Option (((List (List (Int × Int)) × Int × Int × Unit) × Unit × Unit) ⊕ (((Int × Unit) × Unit × Unit) ⊕ ((Int × Unit) × Unit × Unit))) :=
 let x3 : Bool := decide (x.1.2.2.1 < (x.1.1.length : Int));
 br x3
 (ck (0 ≤ x.1.2.2.1)
 (ck (x.1.2.2.1.toNat < x.1.1.length)
 (let x4 : List (Int × Int) := x.1.1.getD x.1.2.2.1.toNat [];
 (laws_szMatrixS x4 x.1.2.1).bind fun r5 =>
 let x6 : Bool := decide (r5.1.1 < (0 : Int));
 br x6
 (some (.inr (.inl (((-1 : Int), ()), (), ()))))
 (let x7 : Int := w64 (x.1.2.2.1 + (1 : Int));
 some (.inl ((x.1.1, r5.1.1, x7, ()), (), ()))))))
 (some (.inr (.inr ((x.1.2.1, ()), (), ()))))
def laws_szMatrixSS_h0 : Sh := ⟨[(0, .c (.rd [] .mats)), (1, .c (.int .i64)), (5, .c (.int .i64))], [], []⟩
def laws_szMatrixSS_r0 : List Sh := [⟨[(4, .c (.int .i64))], [], []⟩, ⟨[(1, .c (.int .i64))], [], []⟩]
noncomputable def laws_szMatrixSS_L0 : Lp := ⟨0, [], laws_szMatrixSS_h0, [], [(.ret, []), (.exit 0, [])], laws_szMatrixSS_r0, loopC laws_szMatrixSS_s0⟩
noncomputable def laws_szMatrixSS (a0 : List (List (Int × Int))) (a1 : Int) : Option ((Int × Unit) × Unit × Unit) :=
 let x1 : Int := w64 (a1 - (a0.length : Int));
 let x2 : Bool := decide (x1 < (0 : Int));
 br x2
 (some (((-1 : Int), ()), (), ()))
 ((loopC laws_szMatrixSS_s0 ((a0, x1, (0 : Int), ()), (), ())).bind fun r8 =>
 sumK r8 (fun y11 =>
 some ((y11.1.1, ()), (), ())) (fun y12 =>
 some ((y12.1.1, ()), (), ())))
noncomputable def laws_szMatrixSS_C : Ctr := ⟨29, laws_szMatrixSS_arg, laws_szMatrixSS_res, fun x => laws_szMatrixSS x.1.1 x.1.2.1, none⟩
def laws_szMatrixSS_H : Hint := ⟨[], [], [], fun _ => []⟩
noncomputable def laws_szMatrixSS_T : List Ctr := [laws_szMatrixS_C]
noncomputable def laws_szMatrixSS_Ls : List Lp := [laws_szMatrixSS_L0]
theorem laws_szMatrixSS_l0 : ∀ x, laws_szMatrixSS_s0 x = stepW E0 laws_szMatrixSS_T laws_szMatrixSS_Ls laws_szMatrixSS_H (loopAt (bodyOf Tryz.f29) 0) 0 laws_szMatrixSS_h0 [] [(.ret, []), (.exit 0, [])] laws_szMatrixSS_r0 x := fun x => by kernel_rfl
theorem laws_szMatrixSS_e : ∀ x, laws_szMatrixSS_C.F x = runBodyW E0 laws_szMatrixSS_T laws_szMatrixSS_Ls laws_szMatrixSS_H 29 Tryz.f29.results.toList (bodyOf Tryz.f29) [] (laws_szMatrixSS_arg.mk' x) laws_szMatrixSS_res := fun x => by kernel_rfl
theorem laws_szMatrixSS_ok : laws_szMatrixSS_C.Ok E0 := fn_ok (T := laws_szMatrixSS_T) (h := laws_szMatrixSS_H) (Ls := laws_szMatrixSS_Ls) E0_mixed (T_cons laws_szMatrixS_ok T_nil) Tryz.func29 (bodyOf_some (by kernel_rfl)) (by kernel_rfl) (loops_of (ks := [0]) (by kernel_rfl) ⟨(loop_one (h := laws_szMatrixSS_H) (own := []) (head := laws_szMatrixSS_h0) (back := []) (exs := [(.ret, []), (.exit 0, [])]) (res := laws_szMatrixSS_r0) (step := laws_szMatrixSS_s0) (by kernel_rfl) laws_szMatrixSS_l0), trivial⟩) laws_szMatrixSS_e
def laws_szMachine_arg : Sh := ⟨[(0, .agg [.str, .rd [] .i64, .rd [] .i64, .rd [] .mats, .int .i64, .int .i64, .int .i64, .int .i64, .rd [] .mat, .rd [] .mat]), (1, .c (.int .i64))], [], []⟩
def laws_szMachine_res : List Sh := [⟨[(0, .c (.int .i64))], [], []⟩]
noncomputable def laws_szMachine (a0_0 : ByteArray) (a0_1 : List Int) (a0_2 : List Int) (a0_3 : List (List (Int × Int))) (a0_4 : Int) (a0_5 : Int) (a0_6 : Int) (a0_7 : Int) (a0_8 : List (Int × Int)) (a0_9 : List (Int × Int)) (a1 : Int) : Option ((Int × Unit) × Unit × Unit) :=
 (laws_szFont a0_0 a0_1 a0_2 a1).bind fun r1 =>
 let x2 : Bool := decide (r1.1.1 < (0 : Int));
 br x2
 (some (((-1 : Int), ()), (), ()))
 ((laws_szMatrixSS a0_3 r1.1.1).bind fun r3 =>
 let x4 : Bool := decide (r3.1.1 < (0 : Int));
 br x4
 (some (((-1 : Int), ()), (), ()))
 ((laws_szMatrixS a0_8 r3.1.1).bind fun r5 =>
 let x6 : Bool := decide (r5.1.1 < (0 : Int));
 br x6
 (some (((-1 : Int), ()), (), ()))
 ((laws_szMatrixS a0_9 r5.1.1).bind fun r7 =>
 let x8 : Bool := decide (r7.1.1 < (0 : Int));
 br x8
 (some (((-1 : Int), ()), (), ()))
 (some ((r7.1.1, ()), (), ())))))
noncomputable def laws_szMachine_C : Ctr := ⟨10, laws_szMachine_arg, laws_szMachine_res, fun x => laws_szMachine x.1.1.1 x.1.1.2.1 x.1.1.2.2.1 x.1.1.2.2.2.1 x.1.1.2.2.2.2.1 x.1.1.2.2.2.2.2.1 x.1.1.2.2.2.2.2.2.1 x.1.1.2.2.2.2.2.2.2.1 x.1.1.2.2.2.2.2.2.2.2.1 x.1.1.2.2.2.2.2.2.2.2.2.1 x.1.2.1, none⟩
def laws_szMachine_H : Hint := ⟨[], [], [], fun _ => []⟩
noncomputable def laws_szMachine_T : List Ctr := [laws_szFont_C, laws_szMatrixSS_C, laws_szMatrixS_C]
noncomputable def laws_szMachine_Ls : List Lp := []
theorem laws_szMachine_e : ∀ x, laws_szMachine_C.F x = runBodyW E0 laws_szMachine_T laws_szMachine_Ls laws_szMachine_H 10 Tryz.f10.results.toList (bodyOf Tryz.f10) [] (laws_szMachine_arg.mk' x) laws_szMachine_res := fun x => by kernel_rfl
theorem laws_szMachine_ok : laws_szMachine_C.Ok E0 := fn_ok (T := laws_szMachine_T) (h := laws_szMachine_H) (Ls := laws_szMachine_Ls) E0_mixed (T_cons laws_szFont_ok (T_cons laws_szMatrixSS_ok (T_cons laws_szMatrixS_ok T_nil))) Tryz.func10 (bodyOf_some (by kernel_rfl)) (by kernel_rfl) (loops_of (ks := []) (by kernel_rfl) trivial) laws_szMachine_e
def laws_szStringS_arg : Sh := ⟨[(0, .c (.rd [] .str)), (1, .c (.int .i64))], [], []⟩
def laws_szStringS_res : List Sh := [⟨[(0, .c (.int .i64))], [], []⟩]
noncomputable def laws_szStringS_s0 (x : (List ByteArray × Int × Int × Unit) × Unit × Unit) : Option (((List ByteArray × Int × Int × Unit) × Unit × Unit) ⊕ (((Int × Unit) × Unit × Unit) ⊕ ((Int × Unit) × Unit × Unit))) :=
 let x3 : Bool := decide (x.1.2.2.1 < (x.1.1.length : Int));
 br x3
 (ck (0 ≤ x.1.2.2.1)
 (ck (x.1.2.2.1.toNat < x.1.1.length)
 (let x4 : ByteArray := x.1.1.getD x.1.2.2.1.toNat ByteArray.empty;
 let x5 : Int := w64 (x.1.2.1 - (x4.size : Int));
 let x6 : Bool := decide (x5 < (0 : Int));
 br x6
 (some (.inr (.inl (((-1 : Int), ()), (), ()))))
 (let x7 : Int := w64 (x.1.2.2.1 + (1 : Int));
 some (.inl ((x.1.1, x5, x7, ()), (), ()))))))
 (some (.inr (.inr ((x.1.2.1, ()), (), ()))))
def laws_szStringS_h0 : Sh := ⟨[(0, .c (.rd [] .str)), (1, .c (.int .i64)), (5, .c (.int .i64))], [], []⟩
def laws_szStringS_r0 : List Sh := [⟨[(4, .c (.int .i64))], [], []⟩, ⟨[(1, .c (.int .i64))], [], []⟩]
noncomputable def laws_szStringS_L0 : Lp := ⟨0, [], laws_szStringS_h0, [], [(.ret, []), (.exit 0, [])], laws_szStringS_r0, loopC laws_szStringS_s0⟩
noncomputable def laws_szStringS (a0 : List ByteArray) (a1 : Int) : Option ((Int × Unit) × Unit × Unit) :=
 let x1 : Int := w64 (a1 - (a0.length : Int));
 let x2 : Bool := decide (x1 < (0 : Int));
 br x2
 (some (((-1 : Int), ()), (), ()))
 ((loopC laws_szStringS_s0 ((a0, x1, (0 : Int), ()), (), ())).bind fun r8 =>
 sumK r8 (fun y11 =>
 some ((y11.1.1, ()), (), ())) (fun y12 =>
 some ((y12.1.1, ()), (), ())))
noncomputable def laws_szStringS_C : Ctr := ⟨11, laws_szStringS_arg, laws_szStringS_res, fun x => laws_szStringS x.1.1 x.1.2.1, none⟩
def laws_szStringS_H : Hint := ⟨[], [], [], fun _ => []⟩
noncomputable def laws_szStringS_T : List Ctr := []
noncomputable def laws_szStringS_Ls : List Lp := [laws_szStringS_L0]
theorem laws_szStringS_l0 : ∀ x, laws_szStringS_s0 x = stepW E0 laws_szStringS_T laws_szStringS_Ls laws_szStringS_H (loopAt (bodyOf Tryz.f11) 0) 0 laws_szStringS_h0 [] [(.ret, []), (.exit 0, [])] laws_szStringS_r0 x := fun x => by kernel_rfl
theorem laws_szStringS_e : ∀ x, laws_szStringS_C.F x = runBodyW E0 laws_szStringS_T laws_szStringS_Ls laws_szStringS_H 11 Tryz.f11.results.toList (bodyOf Tryz.f11) [] (laws_szStringS_arg.mk' x) laws_szStringS_res := fun x => by kernel_rfl
theorem laws_szStringS_ok : laws_szStringS_C.Ok E0 := fn_ok (T := laws_szStringS_T) (h := laws_szStringS_H) (Ls := laws_szStringS_Ls) E0_mixed T_nil Tryz.func11 (bodyOf_some (by kernel_rfl)) (by kernel_rfl) (loops_of (ks := [0]) (by kernel_rfl) ⟨(loop_one (h := laws_szStringS_H) (own := []) (head := laws_szStringS_h0) (back := []) (exs := [(.ret, []), (.exit 0, [])]) (res := laws_szStringS_r0) (step := laws_szStringS_s0) (by kernel_rfl) laws_szStringS_l0), trivial⟩) laws_szStringS_e
def laws_toIntS_arg : Sh := ⟨[(0, .c (.rd [] .i64))], [], []⟩
def laws_toIntS_res : List Sh := [⟨[(0, .c (.own 0))], [], [(0, .i64)]⟩]
noncomputable def laws_toIntS_s0 (x : (List Int × Unit × Int × Unit) × Unit × (List Int × Unit)) : Option (((List Int × Unit × Int × Unit) × Unit × (List Int × Unit)) ⊕ ((Unit × Unit) × Unit × (List Int × Unit))) :=
 let x2 : Bool := decide (x.1.2.2.1 < (x.1.1.length : Int));
 br x2
 (ck (0 ≤ x.1.2.2.1)
 (ck (x.1.2.2.1.toNat < x.1.1.length)
 (let x3 : Int := x.1.1.getD x.1.2.2.1.toNat 0;
 ck (0 ≤ x.1.2.2.1)
 (ck (x.1.2.2.1.toNat < x.2.2.1.length)
 (ck (x.1.2.2.1.toNat < x.2.2.1.length)
 (let x4 : List Int := x.2.2.1.set x.1.2.2.1.toNat x3;
 let x5 : Int := w64 (x.1.2.2.1 + (1 : Int));
 some (.inl ((x.1.1, (), x5, ()), (), (x4, ())))))))))
 (some (.inr (((), ()), (), (x.2.2.1, ()))))
def laws_toIntS_h0 : Sh := ⟨[(0, .c (.rd [] .i64)), (3, .c (.own 0)), (4, .c (.int .i64))], [], [(0, .i64)]⟩
def laws_toIntS_r0 : List Sh := [⟨[(3, .c (.own 0))], [], [(0, .i64)]⟩]
noncomputable def laws_toIntS_L0 : Lp := ⟨0, [], laws_toIntS_h0, [], [(.exit 0, [])], laws_toIntS_r0, loopC laws_toIntS_s0⟩
noncomputable def laws_toIntS (a0 : List Int) : Option ((Unit × Unit) × Unit × (List Int × Unit)) :=
 ck (0 ≤ (a0.length : Int))
 (ck (0 ≤ (a0.length : Int))
 (ck ((a0.length : Int).toNat = (a0.length : Int).toNat ∧ (a0.length : Int).toNat * 8 ≤ 140737488355328 ∧ (a0.length : Int).toNat ≤ 9223372036854775807)
 (let x1 : List Int := List.replicate ((a0.length : Int).toNat) 0;
 (loopC laws_toIntS_s0 ((a0, (), (0 : Int), ()), (), (x1, ()))).bind fun r6 =>
 some (((), ()), (), (r6.2.2.1, ())))))
noncomputable def laws_toIntS_C : Ctr := ⟨76, laws_toIntS_arg, laws_toIntS_res, fun x => laws_toIntS x.1.1, none⟩
def laws_toIntS_H : Hint := ⟨[], [], [], fun _ => []⟩
noncomputable def laws_toIntS_T : List Ctr := []
noncomputable def laws_toIntS_Ls : List Lp := [laws_toIntS_L0]
theorem laws_toIntS_l0 : ∀ x, laws_toIntS_s0 x = stepW E0 laws_toIntS_T laws_toIntS_Ls laws_toIntS_H (loopAt (bodyOf Tryz.f76) 0) 0 laws_toIntS_h0 [] [(.exit 0, [])] laws_toIntS_r0 x := fun x => by kernel_rfl
theorem laws_toIntS_e : ∀ x, laws_toIntS_C.F x = runBodyW E0 laws_toIntS_T laws_toIntS_Ls laws_toIntS_H 76 Tryz.f76.results.toList (bodyOf Tryz.f76) [] (laws_toIntS_arg.mk' x) laws_toIntS_res := fun x => by kernel_rfl
theorem laws_toIntS_ok : laws_toIntS_C.Ok E0 := fn_ok (T := laws_toIntS_T) (h := laws_toIntS_H) (Ls := laws_toIntS_Ls) E0_mixed T_nil Tryz.func76 (bodyOf_some (by kernel_rfl)) (by kernel_rfl) (loops_of (ks := [0]) (by kernel_rfl) ⟨(loop_one (h := laws_toIntS_H) (own := []) (head := laws_toIntS_h0) (back := []) (exs := [(.exit 0, [])]) (res := laws_toIntS_r0) (step := laws_toIntS_s0) (by kernel_rfl) laws_toIntS_l0), trivial⟩) laws_toIntS_e
def laws_toFont_arg : Sh := ⟨[(0, .agg [.str, .rd [] .i64, .rd [] .i64])], [], []⟩
def laws_toFont_res : List Sh := [⟨[(0, .agg [.str, .own 0, .own 1])], [], [(0, .i64), (1, .i64)]⟩]
noncomputable def laws_toFont (a0_0 : ByteArray) (a0_1 : List Int) (a0_2 : List Int) : Option (((ByteArray × Unit × Unit × Unit) × Unit) × Unit × (List Int × List Int × Unit)) :=
 (laws_toIntS a0_1).bind fun r1 =>
 (laws_toIntS a0_2).bind fun r2 =>
 some (((a0_0, (), (), ()), ()), (), (r1.2.2.1, r2.2.2.1, ()))
noncomputable def laws_toFont_C : Ctr := ⟨32, laws_toFont_arg, laws_toFont_res, fun x => laws_toFont x.1.1.1 x.1.1.2.1 x.1.1.2.2.1, none⟩
def laws_toFont_H : Hint := ⟨[], [], [], fun _ => []⟩
noncomputable def laws_toFont_T : List Ctr := [laws_toIntS_C]
noncomputable def laws_toFont_Ls : List Lp := []
theorem laws_toFont_e : ∀ x, laws_toFont_C.F x = runBodyW E0 laws_toFont_T laws_toFont_Ls laws_toFont_H 32 Tryz.f32.results.toList (bodyOf Tryz.f32) [] (laws_toFont_arg.mk' x) laws_toFont_res := fun x => by kernel_rfl
theorem laws_toFont_ok : laws_toFont_C.Ok E0 := fn_ok (T := laws_toFont_T) (h := laws_toFont_H) (Ls := laws_toFont_Ls) E0_mixed (T_cons laws_toIntS_ok T_nil) Tryz.func32 (bodyOf_some (by kernel_rfl)) (by kernel_rfl) (loops_of (ks := []) (by kernel_rfl) trivial) laws_toFont_e
def laws_toMatrix_arg : Sh := ⟨[(0, .agg [.int .i64, .int .i64])], [], []⟩
def laws_toMatrix_res : List Sh := [⟨[(0, .agg [.int .i64, .int .i64])], [], []⟩]
noncomputable def laws_toMatrix (a0_0 : Int) (a0_1 : Int) : Option (((Int × Int × Unit) × Unit) × Unit × Unit) :=
 some (((a0_0, a0_1, ()), ()), (), ())
noncomputable def laws_toMatrix_C : Ctr := ⟨77, laws_toMatrix_arg, laws_toMatrix_res, fun x => laws_toMatrix x.1.1.1 x.1.1.2.1, none⟩
def laws_toMatrix_H : Hint := ⟨[], [], [], fun _ => []⟩
noncomputable def laws_toMatrix_T : List Ctr := []
noncomputable def laws_toMatrix_Ls : List Lp := []
theorem laws_toMatrix_e : ∀ x, laws_toMatrix_C.F x = runBodyW E0 laws_toMatrix_T laws_toMatrix_Ls laws_toMatrix_H 77 Tryz.f77.results.toList (bodyOf Tryz.f77) [] (laws_toMatrix_arg.mk' x) laws_toMatrix_res := fun x => by kernel_rfl
theorem laws_toMatrix_ok : laws_toMatrix_C.Ok E0 := fn_ok (T := laws_toMatrix_T) (h := laws_toMatrix_H) (Ls := laws_toMatrix_Ls) E0_mixed T_nil Tryz.func77 (bodyOf_some (by kernel_rfl)) (by kernel_rfl) (loops_of (ks := []) (by kernel_rfl) trivial) laws_toMatrix_e
def laws_toMatrixS_arg : Sh := ⟨[(0, .c (.rd [] .mat))], [], []⟩
def laws_toMatrixS_res : List Sh := [⟨[(0, .c (.own 0))], [], [(0, .mat)]⟩]
noncomputable def laws_toMatrixS_s0 (x : (List (Int × Int) × Unit × Int × Unit) × Unit × (List (Int × Int) × Unit)) : Option (((List (Int × Int) × Unit × Int × Unit) × Unit × (List (Int × Int) × Unit)) ⊕ ((Unit × Unit) × Unit × (List (Int × Int) × Unit))) :=
 let x2 : Bool := decide (x.1.2.2.1 < (x.1.1.length : Int));
 br x2
 (ck (0 ≤ x.1.2.2.1)
 (ck (x.1.2.2.1.toNat < x.1.1.length)
 (let x3 : Int × Int := x.1.1.getD x.1.2.2.1.toNat (0, 0);
 (laws_toMatrix x3.1 x3.2).bind fun r4 =>
 ck (0 ≤ x.1.2.2.1)
 (ck (x.1.2.2.1.toNat < x.2.2.1.length)
 (ck (x.1.2.2.1.toNat < x.2.2.1.length)
 (let x5 : List (Int × Int) := x.2.2.1.set x.1.2.2.1.toNat (r4.1.1.1, r4.1.1.2.1);
 let x6 : Int := w64 (x.1.2.2.1 + (1 : Int));
 some (.inl ((x.1.1, (), x6, ()), (), (x5, ())))))))))
 (some (.inr (((), ()), (), (x.2.2.1, ()))))
def laws_toMatrixS_h0 : Sh := ⟨[(0, .c (.rd [] .mat)), (3, .c (.own 0)), (4, .c (.int .i64))], [], [(0, .mat)]⟩
def laws_toMatrixS_r0 : List Sh := [⟨[(3, .c (.own 0))], [], [(0, .mat)]⟩]
noncomputable def laws_toMatrixS_L0 : Lp := ⟨0, [], laws_toMatrixS_h0, [], [(.exit 0, [])], laws_toMatrixS_r0, loopC laws_toMatrixS_s0⟩
noncomputable def laws_toMatrixS (a0 : List (Int × Int)) : Option ((Unit × Unit) × Unit × (List (Int × Int) × Unit)) :=
 ck (0 ≤ (a0.length : Int))
 (ck (0 ≤ (a0.length : Int))
 (ck ((a0.length : Int).toNat = (a0.length : Int).toNat ∧ (a0.length : Int).toNat * 16 ≤ 140737488355328 ∧ (a0.length : Int).toNat ≤ 9223372036854775807)
 (let x1 : List (Int × Int) := List.replicate ((a0.length : Int).toNat) (0, 0);
 (loopC laws_toMatrixS_s0 ((a0, (), (0 : Int), ()), (), (x1, ()))).bind fun r7 =>
 some (((), ()), (), (r7.2.2.1, ())))))
noncomputable def laws_toMatrixS_C : Ctr := ⟨35, laws_toMatrixS_arg, laws_toMatrixS_res, fun x => laws_toMatrixS x.1.1, none⟩
def laws_toMatrixS_H : Hint := ⟨[], [], [], fun _ => []⟩
noncomputable def laws_toMatrixS_T : List Ctr := [laws_toMatrix_C]
noncomputable def laws_toMatrixS_Ls : List Lp := [laws_toMatrixS_L0]
theorem laws_toMatrixS_l0 : ∀ x, laws_toMatrixS_s0 x = stepW E0 laws_toMatrixS_T laws_toMatrixS_Ls laws_toMatrixS_H (loopAt (bodyOf Tryz.f35) 0) 0 laws_toMatrixS_h0 [] [(.exit 0, [])] laws_toMatrixS_r0 x := fun x => by kernel_rfl
theorem laws_toMatrixS_e : ∀ x, laws_toMatrixS_C.F x = runBodyW E0 laws_toMatrixS_T laws_toMatrixS_Ls laws_toMatrixS_H 35 Tryz.f35.results.toList (bodyOf Tryz.f35) [] (laws_toMatrixS_arg.mk' x) laws_toMatrixS_res := fun x => by kernel_rfl
theorem laws_toMatrixS_ok : laws_toMatrixS_C.Ok E0 := fn_ok (T := laws_toMatrixS_T) (h := laws_toMatrixS_H) (Ls := laws_toMatrixS_Ls) E0_mixed (T_cons laws_toMatrix_ok T_nil) Tryz.func35 (bodyOf_some (by kernel_rfl)) (by kernel_rfl) (loops_of (ks := [0]) (by kernel_rfl) ⟨(loop_one (h := laws_toMatrixS_H) (own := []) (head := laws_toMatrixS_h0) (back := []) (exs := [(.exit 0, [])]) (res := laws_toMatrixS_r0) (step := laws_toMatrixS_s0) (by kernel_rfl) laws_toMatrixS_l0), trivial⟩) laws_toMatrixS_e
def laws_toMatrixSS_arg : Sh := ⟨[(0, .c (.rd [] .mats))], [], []⟩
def laws_toMatrixSS_res : List Sh := [⟨[(0, .c (.own 0))], [], [(0, .mats)]⟩]
noncomputable def laws_toMatrixSS_s0 (x : (List (List (Int × Int)) × Unit × Int × Unit) × Unit × (List (List (Int × Int)) × Unit)) : Option (((List (List (Int × Int)) × Unit × Int × Unit) × Unit × (List (List (Int × Int)) × Unit)) ⊕ ((Unit × Unit) × Unit × (List (List (Int × Int)) × Unit))) :=
 let x2 : Bool := decide (x.1.2.2.1 < (x.1.1.length : Int));
 br x2
 (ck (0 ≤ x.1.2.2.1)
 (ck (x.1.2.2.1.toNat < x.1.1.length)
 (let x3 : List (Int × Int) := x.1.1.getD x.1.2.2.1.toNat [];
 (laws_toMatrixS x3).bind fun r4 =>
 ck (0 ≤ x.1.2.2.1)
 (ck (x.1.2.2.1.toNat < x.2.2.1.length)
 (ck (x.1.2.2.1.toNat < x.2.2.1.length)
 (let x5 : List (List (Int × Int)) := x.2.2.1.set x.1.2.2.1.toNat r4.2.2.1;
 let x6 : Int := w64 (x.1.2.2.1 + (1 : Int));
 some (.inl ((x.1.1, (), x6, ()), (), (x5, ())))))))))
 (some (.inr (((), ()), (), (x.2.2.1, ()))))
def laws_toMatrixSS_h0 : Sh := ⟨[(0, .c (.rd [] .mats)), (3, .c (.own 0)), (4, .c (.int .i64))], [], [(0, .mats)]⟩
def laws_toMatrixSS_r0 : List Sh := [⟨[(3, .c (.own 0))], [], [(0, .mats)]⟩]
noncomputable def laws_toMatrixSS_L0 : Lp := ⟨0, [], laws_toMatrixSS_h0, [], [(.exit 0, [])], laws_toMatrixSS_r0, loopC laws_toMatrixSS_s0⟩
noncomputable def laws_toMatrixSS (a0 : List (List (Int × Int))) : Option ((Unit × Unit) × Unit × (List (List (Int × Int)) × Unit)) :=
 ck (0 ≤ (a0.length : Int))
 (ck (0 ≤ (a0.length : Int))
 (ck ((a0.length : Int).toNat = (a0.length : Int).toNat ∧ (a0.length : Int).toNat * 24 ≤ 140737488355328 ∧ (a0.length : Int).toNat ≤ 9223372036854775807)
 (let x1 : List (List (Int × Int)) := List.replicate ((a0.length : Int).toNat) [];
 (loopC laws_toMatrixSS_s0 ((a0, (), (0 : Int), ()), (), (x1, ()))).bind fun r7 =>
 some (((), ()), (), (r7.2.2.1, ())))))
noncomputable def laws_toMatrixSS_C : Ctr := ⟨33, laws_toMatrixSS_arg, laws_toMatrixSS_res, fun x => laws_toMatrixSS x.1.1, none⟩
def laws_toMatrixSS_H : Hint := ⟨[], [], [], fun _ => []⟩
noncomputable def laws_toMatrixSS_T : List Ctr := [laws_toMatrixS_C]
noncomputable def laws_toMatrixSS_Ls : List Lp := [laws_toMatrixSS_L0]
theorem laws_toMatrixSS_l0 : ∀ x, laws_toMatrixSS_s0 x = stepW E0 laws_toMatrixSS_T laws_toMatrixSS_Ls laws_toMatrixSS_H (loopAt (bodyOf Tryz.f33) 0) 0 laws_toMatrixSS_h0 [] [(.exit 0, [])] laws_toMatrixSS_r0 x := fun x => by kernel_rfl
theorem laws_toMatrixSS_e : ∀ x, laws_toMatrixSS_C.F x = runBodyW E0 laws_toMatrixSS_T laws_toMatrixSS_Ls laws_toMatrixSS_H 33 Tryz.f33.results.toList (bodyOf Tryz.f33) [] (laws_toMatrixSS_arg.mk' x) laws_toMatrixSS_res := fun x => by kernel_rfl
theorem laws_toMatrixSS_ok : laws_toMatrixSS_C.Ok E0 := fn_ok (T := laws_toMatrixSS_T) (h := laws_toMatrixSS_H) (Ls := laws_toMatrixSS_Ls) E0_mixed (T_cons laws_toMatrixS_ok T_nil) Tryz.func33 (bodyOf_some (by kernel_rfl)) (by kernel_rfl) (loops_of (ks := [0]) (by kernel_rfl) ⟨(loop_one (h := laws_toMatrixSS_H) (own := []) (head := laws_toMatrixSS_h0) (back := []) (exs := [(.exit 0, [])]) (res := laws_toMatrixSS_r0) (step := laws_toMatrixSS_s0) (by kernel_rfl) laws_toMatrixSS_l0), trivial⟩) laws_toMatrixSS_e
def laws_toMeasure_arg : Sh := ⟨[(0, .agg [.int .i64, .int .i64, .int .i64])], [], []⟩
def laws_toMeasure_res : List Sh := [⟨[(0, .agg [.int .i64, .int .i64, .int .i64])], [], []⟩]
noncomputable def laws_toMeasure (a0_0 : Int) (a0_1 : Int) (a0_2 : Int) : Option (((Int × Int × Int × Unit) × Unit) × Unit × Unit) :=
 some (((a0_0, a0_1, a0_2, ()), ()), (), ())
noncomputable def laws_toMeasure_C : Ctr := ⟨34, laws_toMeasure_arg, laws_toMeasure_res, fun x => laws_toMeasure x.1.1.1 x.1.1.2.1 x.1.1.2.2.1, none⟩
def laws_toMeasure_H : Hint := ⟨[], [], [], fun _ => []⟩
noncomputable def laws_toMeasure_T : List Ctr := []
noncomputable def laws_toMeasure_Ls : List Lp := []
theorem laws_toMeasure_e : ∀ x, laws_toMeasure_C.F x = runBodyW E0 laws_toMeasure_T laws_toMeasure_Ls laws_toMeasure_H 34 Tryz.f34.results.toList (bodyOf Tryz.f34) [] (laws_toMeasure_arg.mk' x) laws_toMeasure_res := fun x => by kernel_rfl
theorem laws_toMeasure_ok : laws_toMeasure_C.Ok E0 := fn_ok (T := laws_toMeasure_T) (h := laws_toMeasure_H) (Ls := laws_toMeasure_Ls) E0_mixed T_nil Tryz.func34 (bodyOf_some (by kernel_rfl)) (by kernel_rfl) (loops_of (ks := []) (by kernel_rfl) trivial) laws_toMeasure_e
def laws_toMachine_arg : Sh := ⟨[(0, .agg [.str, .rd [] .i64, .rd [] .i64, .rd [] .mats, .int .i64, .int .i64, .int .i64, .int .i64, .rd [] .mat, .rd [] .mat])], [], []⟩
def laws_toMachine_res : List Sh := [⟨[(0, .agg [.str, .own 0, .own 1, .own 2, .int .i64, .int .i64, .int .i64, .int .i64, .own 3, .own 4])], [], [(0, .i64), (1, .i64), (2, .mats), (3, .mat), (4, .mat)]⟩]
noncomputable def laws_toMachine (a0_0 : ByteArray) (a0_1 : List Int) (a0_2 : List Int) (a0_3 : List (List (Int × Int))) (a0_4 : Int) (a0_5 : Int) (a0_6 : Int) (a0_7 : Int) (a0_8 : List (Int × Int)) (a0_9 : List (Int × Int)) : Option (((ByteArray × Unit × Unit × Unit × Int × Int × Int × Int × Unit × Unit × Unit) × Unit) × Unit × (List Int × List Int × List (List (Int × Int)) × List (Int × Int) × List (Int × Int) × Unit)) :=
 (laws_toFont a0_0 a0_1 a0_2).bind fun r1 =>
 (laws_toMatrixSS a0_3).bind fun r2 =>
 (laws_toMeasure a0_5 a0_6 a0_7).bind fun r3 =>
 (laws_toMatrixS a0_8).bind fun r4 =>
 (laws_toMatrixS a0_9).bind fun r5 =>
 some (((r1.1.1.1, (), (), (), a0_4, r3.1.1.1, r3.1.1.2.1, r3.1.1.2.2.1, (), (), ()), ()), (), (r1.2.2.1, r1.2.2.2.1, r2.2.2.1, r4.2.2.1, r5.2.2.1, ()))
noncomputable def laws_toMachine_C : Ctr := ⟨13, laws_toMachine_arg, laws_toMachine_res, fun x => laws_toMachine x.1.1.1 x.1.1.2.1 x.1.1.2.2.1 x.1.1.2.2.2.1 x.1.1.2.2.2.2.1 x.1.1.2.2.2.2.2.1 x.1.1.2.2.2.2.2.2.1 x.1.1.2.2.2.2.2.2.2.1 x.1.1.2.2.2.2.2.2.2.2.1 x.1.1.2.2.2.2.2.2.2.2.2.1, none⟩
def laws_toMachine_H : Hint := ⟨[], [], [], fun _ => []⟩
noncomputable def laws_toMachine_T : List Ctr := [laws_toFont_C, laws_toMatrixSS_C, laws_toMeasure_C, laws_toMatrixS_C]
noncomputable def laws_toMachine_Ls : List Lp := []
theorem laws_toMachine_e : ∀ x, laws_toMachine_C.F x = runBodyW E0 laws_toMachine_T laws_toMachine_Ls laws_toMachine_H 13 Tryz.f13.results.toList (bodyOf Tryz.f13) [] (laws_toMachine_arg.mk' x) laws_toMachine_res := fun x => by kernel_rfl
theorem laws_toMachine_ok : laws_toMachine_C.Ok E0 := fn_ok (T := laws_toMachine_T) (h := laws_toMachine_H) (Ls := laws_toMachine_Ls) E0_mixed (T_cons laws_toFont_ok (T_cons laws_toMatrixSS_ok (T_cons laws_toMeasure_ok (T_cons laws_toMatrixS_ok T_nil)))) Tryz.func13 (bodyOf_some (by kernel_rfl)) (by kernel_rfl) (loops_of (ks := []) (by kernel_rfl) trivial) laws_toMachine_e
def laws_toStringS_arg : Sh := ⟨[(0, .c (.rd [] .str))], [], []⟩
def laws_toStringS_res : List Sh := [⟨[(0, .c (.own 0))], [], [(0, .str)]⟩]
noncomputable def laws_toStringS_s0 (x : (List ByteArray × Unit × Int × Unit) × Unit × (List ByteArray × Unit)) : Option (((List ByteArray × Unit × Int × Unit) × Unit × (List ByteArray × Unit)) ⊕ ((Unit × Unit) × Unit × (List ByteArray × Unit))) :=
 let x2 : Bool := decide (x.1.2.2.1 < (x.1.1.length : Int));
 br x2
 (ck (0 ≤ x.1.2.2.1)
 (ck (x.1.2.2.1.toNat < x.1.1.length)
 (let x3 : ByteArray := x.1.1.getD x.1.2.2.1.toNat ByteArray.empty;
 ck (0 ≤ x.1.2.2.1)
 (ck (x.1.2.2.1.toNat < x.2.2.1.length)
 (ck (x.1.2.2.1.toNat < x.2.2.1.length)
 (let x4 : List ByteArray := x.2.2.1.set x.1.2.2.1.toNat x3;
 let x5 : Int := w64 (x.1.2.2.1 + (1 : Int));
 some (.inl ((x.1.1, (), x5, ()), (), (x4, ())))))))))
 (some (.inr (((), ()), (), (x.2.2.1, ()))))
def laws_toStringS_h0 : Sh := ⟨[(0, .c (.rd [] .str)), (3, .c (.own 0)), (4, .c (.int .i64))], [], [(0, .str)]⟩
def laws_toStringS_r0 : List Sh := [⟨[(3, .c (.own 0))], [], [(0, .str)]⟩]
noncomputable def laws_toStringS_L0 : Lp := ⟨0, [], laws_toStringS_h0, [], [(.exit 0, [])], laws_toStringS_r0, loopC laws_toStringS_s0⟩
noncomputable def laws_toStringS (a0 : List ByteArray) : Option ((Unit × Unit) × Unit × (List ByteArray × Unit)) :=
 ck (0 ≤ (a0.length : Int))
 (ck (0 ≤ (a0.length : Int))
 (ck ((a0.length : Int).toNat = (a0.length : Int).toNat ∧ (a0.length : Int).toNat * 16 ≤ 140737488355328 ∧ (a0.length : Int).toNat ≤ 9223372036854775807)
 (let x1 : List ByteArray := List.replicate ((a0.length : Int).toNat) ByteArray.empty;
 (loopC laws_toStringS_s0 ((a0, (), (0 : Int), ()), (), (x1, ()))).bind fun r6 =>
 some (((), ()), (), (r6.2.2.1, ())))))
noncomputable def laws_toStringS_C : Ctr := ⟨14, laws_toStringS_arg, laws_toStringS_res, fun x => laws_toStringS x.1.1, none⟩
def laws_toStringS_H : Hint := ⟨[], [], [], fun _ => []⟩
noncomputable def laws_toStringS_T : List Ctr := []
noncomputable def laws_toStringS_Ls : List Lp := [laws_toStringS_L0]
theorem laws_toStringS_l0 : ∀ x, laws_toStringS_s0 x = stepW E0 laws_toStringS_T laws_toStringS_Ls laws_toStringS_H (loopAt (bodyOf Tryz.f14) 0) 0 laws_toStringS_h0 [] [(.exit 0, [])] laws_toStringS_r0 x := fun x => by kernel_rfl
theorem laws_toStringS_e : ∀ x, laws_toStringS_C.F x = runBodyW E0 laws_toStringS_T laws_toStringS_Ls laws_toStringS_H 14 Tryz.f14.results.toList (bodyOf Tryz.f14) [] (laws_toStringS_arg.mk' x) laws_toStringS_res := fun x => by kernel_rfl
theorem laws_toStringS_ok : laws_toStringS_C.Ok E0 := fn_ok (T := laws_toStringS_T) (h := laws_toStringS_H) (Ls := laws_toStringS_Ls) E0_mixed T_nil Tryz.func14 (bodyOf_some (by kernel_rfl)) (by kernel_rfl) (loops_of (ks := [0]) (by kernel_rfl) ⟨(loop_one (h := laws_toStringS_H) (own := []) (head := laws_toStringS_h0) (back := []) (exs := [(.exit 0, [])]) (res := laws_toStringS_r0) (step := laws_toStringS_s0) (by kernel_rfl) laws_toStringS_l0), trivial⟩) laws_toStringS_e
def spec_l1In_arg : Sh := ⟨[(0, .c (.int .i64)), (1, .c (.int .i64)), (2, .c (.int .i64))], [], []⟩
def spec_l1In_res : List Sh := [⟨[(0, .c (.bool))], [], []⟩]
noncomputable def spec_l1In (a0 : Int) (a1 : Int) (a2 : Int) : Option ((Bool × Unit) × Unit × Unit) :=
 let x1 : Bool := decide (a0 ≥ a1);
 br x1
 (let x2 : Bool := decide (a0 ≤ a2);
 some ((x2, ()), (), ()))
 (some ((false, ()), (), ()))
noncomputable def spec_l1In_C : Ctr := ⟨49, spec_l1In_arg, spec_l1In_res, fun x => spec_l1In x.1.1 x.1.2.1 x.1.2.2.1, none⟩
def spec_l1In_H : Hint := ⟨[], [], [], fun _ => []⟩
noncomputable def spec_l1In_T : List Ctr := []
noncomputable def spec_l1In_Ls : List Lp := []
theorem spec_l1In_e : ∀ x, spec_l1In_C.F x = runBodyW E0 spec_l1In_T spec_l1In_Ls spec_l1In_H 49 Tryz.f49.results.toList (bodyOf Tryz.f49) [] (spec_l1In_arg.mk' x) spec_l1In_res := fun x => by kernel_rfl
theorem spec_l1In_ok : spec_l1In_C.Ok E0 := fn_ok (T := spec_l1In_T) (h := spec_l1In_H) (Ls := spec_l1In_Ls) E0_mixed T_nil Tryz.func49 (bodyOf_some (by kernel_rfl)) (by kernel_rfl) (loops_of (ks := []) (by kernel_rfl) trivial) spec_l1In_e
def spec_l1Part_arg : Sh := ⟨[(0, .c (.int .i64)), (1, .c (.int .i64))], [], []⟩
def spec_l1Part_res : List Sh := [⟨[(0, .c (.bool))], [], []⟩]
noncomputable def spec_l1Part (a0 : Int) (a1 : Int) : Option ((Bool × Unit) × Unit × Unit) :=
 let x1 : Int := bAndNot .i64 a0 a1;
 let x2 : Bool := x1 == (0 : Int);
 some ((x2, ()), (), ())
noncomputable def spec_l1Part_C : Ctr := ⟨85, spec_l1Part_arg, spec_l1Part_res, fun x => spec_l1Part x.1.1 x.1.2.1, none⟩
def spec_l1Part_H : Hint := ⟨[], [], [], fun _ => []⟩
noncomputable def spec_l1Part_T : List Ctr := []
noncomputable def spec_l1Part_Ls : List Lp := []
theorem spec_l1Part_e : ∀ x, spec_l1Part_C.F x = runBodyW E0 spec_l1Part_T spec_l1Part_Ls spec_l1Part_H 85 Tryz.f85.results.toList (bodyOf Tryz.f85) [] (spec_l1Part_arg.mk' x) spec_l1Part_res := fun x => by kernel_rfl
theorem spec_l1Part_ok : spec_l1Part_C.Ok E0 := fn_ok (T := spec_l1Part_T) (h := spec_l1Part_H) (Ls := spec_l1Part_Ls) E0_mixed T_nil Tryz.func85 (bodyOf_some (by kernel_rfl)) (by kernel_rfl) (loops_of (ks := []) (by kernel_rfl) trivial) spec_l1Part_e
def spec_l1Fall_arg : Sh := ⟨[(0, .c (.rd [] .i64)), (1, .c (.int .i64))], [], []⟩
def spec_l1Fall_res : List Sh := [⟨[(0, .c (.int .i64))], [], []⟩]
noncomputable def spec_l1Fall_s0 (x : (List Int × Int × List Int × Int × Int × Unit) × Unit × Unit) : Option (((List Int × Int × List Int × Int × Int × Unit) × Unit × Unit) ⊕ (((Int × Unit) × Unit × Unit) ⊕ ((List Int × Unit) × Unit × Unit))) :=
 let x1 : Bool := decide (x.1.2.2.2.2.1 < x.1.2.2.2.1);
 br x1
 (ck (0 ≤ x.1.2.2.2.2.1)
 (ck (x.1.2.2.2.2.1.toNat < x.1.2.2.1.length)
 (let x2 : Int := x.1.2.2.1.getD x.1.2.2.2.2.1.toNat 0;
 (spec_l1Part x.1.2.1 x2).bind fun r3 =>
 br r3.1.1
 (some (.inr (.inl ((x.1.2.2.2.2.1, ()), (), ()))))
 (let x4 : Int := w64 (x.1.2.2.2.2.1 + (1 : Int));
 some (.inl ((x.1.1, x.1.2.1, x.1.2.2.1, x.1.2.2.2.1, x4, ()), (), ()))))))
 (some (.inr (.inr ((x.1.1, ()), (), ()))))
def spec_l1Fall_h0 : Sh := ⟨[(0, .c (.rd [] .i64)), (1, .c (.int .i64)), (7, .c (.rd [] .i64)), (8, .c (.int .i64)), (9, .c (.int .i64))], [], []⟩
def spec_l1Fall_r0 : List Sh := [⟨[(4, .c (.int .i64))], [], []⟩, ⟨[(0, .c (.rd [] .i64))], [], []⟩]
noncomputable def spec_l1Fall_L0 : Lp := ⟨0, [], spec_l1Fall_h0, [], [(.ret, []), (.exit 0, [])], spec_l1Fall_r0, loopC spec_l1Fall_s0⟩
noncomputable def spec_l1Fall (a0 : List Int) (a1 : Int) : Option ((Int × Unit) × Unit × Unit) :=
 (loopC spec_l1Fall_s0 ((a0, a1, a0, (a0.length : Int), (0 : Int), ()), (), ())).bind fun r5 =>
 sumK r5 (fun y8 =>
 some ((y8.1.1, ()), (), ())) (fun y9 =>
 some (((y9.1.1.length : Int), ()), (), ()))
noncomputable def spec_l1Fall_C : Ctr := ⟨141, spec_l1Fall_arg, spec_l1Fall_res, fun x => spec_l1Fall x.1.1 x.1.2.1, none⟩
def spec_l1Fall_H : Hint := ⟨[], [], [], fun _ => []⟩
noncomputable def spec_l1Fall_T : List Ctr := [spec_l1Part_C]
noncomputable def spec_l1Fall_Ls : List Lp := [spec_l1Fall_L0]
theorem spec_l1Fall_l0 : ∀ x, spec_l1Fall_s0 x = stepW E0 spec_l1Fall_T spec_l1Fall_Ls spec_l1Fall_H (loopAt (bodyOf Tryz.f141) 0) 0 spec_l1Fall_h0 [] [(.ret, []), (.exit 0, [])] spec_l1Fall_r0 x := fun x => by kernel_rfl
theorem spec_l1Fall_e : ∀ x, spec_l1Fall_C.F x = runBodyW E0 spec_l1Fall_T spec_l1Fall_Ls spec_l1Fall_H 141 Tryz.f141.results.toList (bodyOf Tryz.f141) [] (spec_l1Fall_arg.mk' x) spec_l1Fall_res := fun x => by kernel_rfl
theorem spec_l1Fall_ok : spec_l1Fall_C.Ok E0 := fn_ok (T := spec_l1Fall_T) (h := spec_l1Fall_H) (Ls := spec_l1Fall_Ls) E0_mixed (T_cons spec_l1Part_ok T_nil) Tryz.func141 (bodyOf_some (by kernel_rfl)) (by kernel_rfl) (loops_of (ks := [0]) (by kernel_rfl) ⟨(loop_one (h := spec_l1Fall_H) (own := []) (head := spec_l1Fall_h0) (back := []) (exs := [(.ret, []), (.exit 0, [])]) (res := spec_l1Fall_r0) (step := spec_l1Fall_s0) (by kernel_rfl) spec_l1Fall_l0), trivial⟩) spec_l1Fall_e
def spec_l1Set_arg : Sh := ⟨[(0, .c (.int .i64))], [], []⟩
def spec_l1Set_res : List Sh := [⟨[(0, .c (.bool))], [], []⟩]
noncomputable def spec_l1Set (a0 : Int) : Option ((Bool × Unit) × Unit × Unit) :=
 (spec_l1In a0 (0 : Int) (127 : Int)).bind fun r1 =>
 some ((r1.1.1, ()), (), ())
noncomputable def spec_l1Set_C : Ctr := ⟨84, spec_l1Set_arg, spec_l1Set_res, fun x => spec_l1Set x.1.1, none⟩
def spec_l1Set_H : Hint := ⟨[], [], [], fun _ => []⟩
noncomputable def spec_l1Set_T : List Ctr := [spec_l1In_C]
noncomputable def spec_l1Set_Ls : List Lp := []
theorem spec_l1Set_e : ∀ x, spec_l1Set_C.F x = runBodyW E0 spec_l1Set_T spec_l1Set_Ls spec_l1Set_H 84 Tryz.f84.results.toList (bodyOf Tryz.f84) [] (spec_l1Set_arg.mk' x) spec_l1Set_res := fun x => by kernel_rfl
theorem spec_l1Set_ok : spec_l1Set_C.Ok E0 := fn_ok (T := spec_l1Set_T) (h := spec_l1Set_H) (Ls := spec_l1Set_Ls) E0_mixed (T_cons spec_l1In_ok T_nil) Tryz.func84 (bodyOf_some (by kernel_rfl)) (by kernel_rfl) (loops_of (ks := []) (by kernel_rfl) trivial) spec_l1Set_e
def spec_IsBar_arg : Sh := ⟨[(0, .c (.rd [] .i64))], [], []⟩
def spec_IsBar_res : List Sh := [⟨[(0, .c (.bool))], [], []⟩]
noncomputable def spec_IsBar_s0 (x : (List Int × List Int × Int × Int × Unit) × Unit × Unit) : Option (((List Int × List Int × Int × Int × Unit) × Unit × Unit) ⊕ (((Bool × Unit) × Unit × Unit) ⊕ ((List Int × Unit) × Unit × Unit))) :=
 let x1 : Bool := decide (x.1.2.2.2.1 < x.1.2.2.1);
 br x1
 (ck (0 ≤ x.1.2.2.2.1)
 (ck (x.1.2.2.2.1.toNat < x.1.2.1.length)
 (let x2 : Int := x.1.2.1.getD x.1.2.2.2.1.toNat 0;
 (spec_l1Set x2).bind fun r3 =>
 br (!r3.1.1)
 (some (.inr (.inl ((false, ()), (), ()))))
 (let x4 : Int := w64 (x.1.2.2.2.1 + (1 : Int));
 some (.inl ((x.1.1, x.1.2.1, x.1.2.2.1, x4, ()), (), ()))))))
 (some (.inr (.inr ((x.1.1, ()), (), ()))))
def spec_IsBar_h0 : Sh := ⟨[(0, .c (.rd [] .i64)), (5, .c (.rd [] .i64)), (6, .c (.int .i64)), (7, .c (.int .i64))], [], []⟩
def spec_IsBar_r0 : List Sh := [⟨[(2, .c (.bool))], [], []⟩, ⟨[(0, .c (.rd [] .i64))], [], []⟩]
noncomputable def spec_IsBar_L0 : Lp := ⟨0, [], spec_IsBar_h0, [], [(.ret, []), (.exit 0, [])], spec_IsBar_r0, loopC spec_IsBar_s0⟩
noncomputable def spec_IsBar (a0 : List Int) : Option ((Bool × Unit) × Unit × Unit) :=
 (loopC spec_IsBar_s0 ((a0, a0, (a0.length : Int), (0 : Int), ()), (), ())).bind fun r5 =>
 sumK r5 (fun y8 =>
 some ((y8.1.1, ()), (), ())) (fun y9 =>
 (spec_l1In (y9.1.1.length : Int) (1 : Int) (40 : Int)).bind fun r10 =>
 some ((r10.1.1, ()), (), ()))
noncomputable def spec_IsBar_C : Ctr := ⟨144, spec_IsBar_arg, spec_IsBar_res, fun x => spec_IsBar x.1.1, none⟩
def spec_IsBar_H : Hint := ⟨[], [], [], fun _ => []⟩
noncomputable def spec_IsBar_T : List Ctr := [spec_l1Set_C, spec_l1In_C]
noncomputable def spec_IsBar_Ls : List Lp := [spec_IsBar_L0]
theorem spec_IsBar_l0 : ∀ x, spec_IsBar_s0 x = stepW E0 spec_IsBar_T spec_IsBar_Ls spec_IsBar_H (loopAt (bodyOf Tryz.f144) 0) 0 spec_IsBar_h0 [] [(.ret, []), (.exit 0, [])] spec_IsBar_r0 x := fun x => by kernel_rfl
theorem spec_IsBar_e : ∀ x, spec_IsBar_C.F x = runBodyW E0 spec_IsBar_T spec_IsBar_Ls spec_IsBar_H 144 Tryz.f144.results.toList (bodyOf Tryz.f144) [] (spec_IsBar_arg.mk' x) spec_IsBar_res := fun x => by kernel_rfl
theorem spec_IsBar_ok : spec_IsBar_C.Ok E0 := fn_ok (T := spec_IsBar_T) (h := spec_IsBar_H) (Ls := spec_IsBar_Ls) E0_mixed (T_cons spec_l1Set_ok (T_cons spec_l1In_ok T_nil)) Tryz.func144 (bodyOf_some (by kernel_rfl)) (by kernel_rfl) (loops_of (ks := [0]) (by kernel_rfl) ⟨(loop_one (h := spec_IsBar_H) (own := []) (head := spec_IsBar_h0) (back := []) (exs := [(.ret, []), (.exit 0, [])]) (res := spec_IsBar_r0) (step := spec_IsBar_s0) (by kernel_rfl) spec_IsBar_l0), trivial⟩) spec_IsBar_e
def spec_SortsAll_arg : Sh := ⟨[(0, .c (.rd [] .i64))], [], []⟩
def spec_SortsAll_res : List Sh := [⟨[(0, .c (.bool))], [], []⟩]
noncomputable def spec_SortsAll_s0 (x : (List Int × List Int × Int × Int × Unit) × Unit × Unit) : Option (((List Int × List Int × Int × Int × Unit) × Unit × Unit) ⊕ (((Bool × Unit) × Unit × Unit) ⊕ ((List Int × Unit) × Unit × Unit))) :=
 let x1 : Bool := decide (x.1.2.2.2.1 < x.1.2.2.1);
 br x1
 (ck (0 ≤ x.1.2.2.2.1)
 (ck (x.1.2.2.2.1.toNat < x.1.2.1.length)
 (let x2 : Int := x.1.2.1.getD x.1.2.2.2.1.toNat 0;
 (spec_l1Fall x.1.1 x2).bind fun r3 =>
 let x4 : Bool := r3.1.1 != x.1.2.2.2.1;
 br x4
 (some (.inr (.inl ((false, ()), (), ()))))
 (let x5 : Int := w64 (x.1.2.2.2.1 + (1 : Int));
 some (.inl ((x.1.1, x.1.2.1, x.1.2.2.1, x5, ()), (), ()))))))
 (some (.inr (.inr ((x.1.1, ()), (), ()))))
def spec_SortsAll_h0 : Sh := ⟨[(0, .c (.rd [] .i64)), (5, .c (.rd [] .i64)), (6, .c (.int .i64)), (7, .c (.int .i64))], [], []⟩
def spec_SortsAll_r0 : List Sh := [⟨[(2, .c (.bool))], [], []⟩, ⟨[(0, .c (.rd [] .i64))], [], []⟩]
noncomputable def spec_SortsAll_L0 : Lp := ⟨0, [], spec_SortsAll_h0, [], [(.ret, []), (.exit 0, [])], spec_SortsAll_r0, loopC spec_SortsAll_s0⟩
noncomputable def spec_SortsAll (a0 : List Int) : Option ((Bool × Unit) × Unit × Unit) :=
 (loopC spec_SortsAll_s0 ((a0, a0, (a0.length : Int), (0 : Int), ()), (), ())).bind fun r6 =>
 sumK r6 (fun y9 =>
 some ((y9.1.1, ()), (), ())) (fun y10 =>
 (spec_IsBar y10.1.1).bind fun r11 =>
 some ((r11.1.1, ()), (), ()))
noncomputable def spec_SortsAll_C : Ctr := ⟨121, spec_SortsAll_arg, spec_SortsAll_res, fun x => spec_SortsAll x.1.1, none⟩
def spec_SortsAll_H : Hint := ⟨[], [], [], fun _ => []⟩
noncomputable def spec_SortsAll_T : List Ctr := [spec_l1Fall_C, spec_IsBar_C]
noncomputable def spec_SortsAll_Ls : List Lp := [spec_SortsAll_L0]
theorem spec_SortsAll_l0 : ∀ x, spec_SortsAll_s0 x = stepW E0 spec_SortsAll_T spec_SortsAll_Ls spec_SortsAll_H (loopAt (bodyOf Tryz.f121) 0) 0 spec_SortsAll_h0 [] [(.ret, []), (.exit 0, [])] spec_SortsAll_r0 x := fun x => by kernel_rfl
theorem spec_SortsAll_e : ∀ x, spec_SortsAll_C.F x = runBodyW E0 spec_SortsAll_T spec_SortsAll_Ls spec_SortsAll_H 121 Tryz.f121.results.toList (bodyOf Tryz.f121) [] (spec_SortsAll_arg.mk' x) spec_SortsAll_res := fun x => by kernel_rfl
theorem spec_SortsAll_ok : spec_SortsAll_C.Ok E0 := fn_ok (T := spec_SortsAll_T) (h := spec_SortsAll_H) (Ls := spec_SortsAll_Ls) E0_mixed (T_cons spec_l1Fall_ok (T_cons spec_IsBar_ok T_nil)) Tryz.func121 (bodyOf_some (by kernel_rfl)) (by kernel_rfl) (loops_of (ks := [0]) (by kernel_rfl) ⟨(loop_one (h := spec_SortsAll_H) (own := []) (head := spec_SortsAll_h0) (back := []) (exs := [(.ret, []), (.exit 0, [])]) (res := spec_SortsAll_r0) (step := spec_SortsAll_s0) (by kernel_rfl) spec_SortsAll_l0), trivial⟩) spec_SortsAll_e
def spec_FontOk_arg : Sh := ⟨[(0, .agg [.str, .rd [] .i64, .rd [] .i64])], [], []⟩
def spec_FontOk_res : List Sh := [⟨[(0, .c (.bool))], [], []⟩]
noncomputable def spec_FontOk_s2 (x : (Unit × Int × Int × Int × Unit × ByteArray × Int × Int × Bool × Unit × List Int × Int × (Int × Unit) × Int × Bool × Bool × Unit) × ((ByteArray × List Int × List Int × Unit) × Unit) × Unit) : Option (((Unit × Int × Int × Int × Unit × ByteArray × Int × Int × Bool × Unit × List Int × Int × (Int × Unit) × Int × Bool × Bool × Unit) × ((ByteArray × List Int × List Int × Unit) × Unit) × Unit) ⊕ (((Bool × Unit) × Unit × Unit) ⊕ ((Unit × Int × Int × Unit × ByteArray × Int × Int × Bool × Unit × List Int × Int × (Int × Unit) × Int × Bool × Bool × Unit) × ((ByteArray × List Int × List Int × Unit) × Unit) × Unit))) :=
 let x11 : Bool := decide (x.1.2.2.2.1 < x.1.2.2.1);
 br x11
 (ck (0 ≤ x.1.2.2.1 ∧ x.1.2.2.1.toNat < x.2.1.1.1.size)
 (let x12 : Int := byteAt x.2.1.1.1 x.1.2.2.1.toNat;
 ck (0 ≤ x.1.2.2.2.1 ∧ x.1.2.2.2.1.toNat < x.2.1.1.1.size)
 (let x13 : Int := byteAt x.2.1.1.1 x.1.2.2.2.1.toNat;
 let x14 : Bool := x12 == x13;
 br x14
 (some (.inr (.inl ((false, ()), (), ()))))
 (let x15 : Int := w64 (x.1.2.2.2.1 + (1 : Int));
 some (.inl (((), x.1.2.1, x.1.2.2.1, x15, (), x.1.2.2.2.2.2.1, x.1.2.2.2.2.2.2.1, x.1.2.2.2.2.2.2.2.1, x.1.2.2.2.2.2.2.2.2.1, (), x.1.2.2.2.2.2.2.2.2.2.2.1, x.1.2.2.2.2.2.2.2.2.2.2.2.1, (x.1.2.2.2.2.2.2.2.2.2.2.2.2.1.1, ()), x.1.2.2.2.2.2.2.2.2.2.2.2.2.2.1, x.1.2.2.2.2.2.2.2.2.2.2.2.2.2.2.1, x.1.2.2.2.2.2.2.2.2.2.2.2.2.2.2.2.1, ()), ((x.2.1.1.1, x.2.1.1.2.1, x.2.1.1.2.2.1, ()), ()), ()))))))
 (some (.inr (.inr (((), x.1.2.1, x.1.2.2.1, (), x.1.2.2.2.2.2.1, x.1.2.2.2.2.2.2.1, x.1.2.2.2.2.2.2.2.1, x.1.2.2.2.2.2.2.2.2.1, (), x.1.2.2.2.2.2.2.2.2.2.2.1, x.1.2.2.2.2.2.2.2.2.2.2.2.1, (x.1.2.2.2.2.2.2.2.2.2.2.2.2.1.1, ()), x.1.2.2.2.2.2.2.2.2.2.2.2.2.2.1, x.1.2.2.2.2.2.2.2.2.2.2.2.2.2.2.1, x.1.2.2.2.2.2.2.2.2.2.2.2.2.2.2.2.1, ()), ((x.2.1.1.1, x.2.1.1.2.1, x.2.1.1.2.2.1, ()), ()), ()))))
def spec_FontOk_h2 : Sh := ⟨[(1, .c (.box 0 0)), (3, .c (.int .i64)), (4, .c (.int .i64)), (5, .c (.int .i64)), (43, .c (.box 0 0)), (44, .c (.str)), (45, .c (.int .i64)), (46, .c (.int .u8)), (47, .c (.bool)), (50, .c (.box 0 1)), (51, .c (.rd [] .i64)), (52, .c (.int .i64)), (53, .c (.rad [] [.int .i64])), (54, .c (.int .i64)), (55, .c (.bool)), (56, .c (.bool))], [(0, .cells [.str, .rd [] .i64, .rd [] .i64])], []⟩
def spec_FontOk_r2 : List Sh := [⟨[(2, .c (.bool))], [], []⟩, ⟨[(1, .c (.box 0 0)), (3, .c (.int .i64)), (4, .c (.int .i64)), (43, .c (.box 0 0)), (44, .c (.str)), (45, .c (.int .i64)), (46, .c (.int .u8)), (47, .c (.bool)), (50, .c (.box 0 1)), (51, .c (.rd [] .i64)), (52, .c (.int .i64)), (53, .c (.rad [] [.int .i64])), (54, .c (.int .i64)), (55, .c (.bool)), (56, .c (.bool))], [(0, .cells [.str, .rd [] .i64, .rd [] .i64])], []⟩]
noncomputable def spec_FontOk_L2 : Lp := ⟨2, [], spec_FontOk_h2, [], [(.ret, []), (.exit 2, [])], spec_FontOk_r2, loopC spec_FontOk_s2⟩
noncomputable def spec_FontOk_s0 (x : (Unit × Int × Int × Unit) × ((ByteArray × List Int × List Int × Unit) × Unit) × Unit) : Option (((Unit × Int × Int × Unit) × ((ByteArray × List Int × List Int × Unit) × Unit) × Unit) ⊕ (((Bool × Unit) × Unit × Unit) ⊕ (Unit × Unit × Unit))) :=
 let x5 : Bool := decide (x.1.2.2.1 < x.1.2.1);
 br x5
 (ck (0 ≤ x.1.2.2.1 ∧ x.1.2.2.1.toNat < x.2.1.1.1.size)
 (let x6 : Int := byteAt x.2.1.1.1 x.1.2.2.1.toNat;
 let x7 : Bool := decide (x6 < (33 : Int));
 br x7
 (some (.inr (.inl ((false, ()), (), ()))))
 (ck (0 ≤ x.1.2.2.1 ∧ x.1.2.2.1.toNat < x.2.1.1.1.size)
 (let x8 : Bool := decide (x6 > (126 : Int));
 br x8
 (some (.inr (.inl ((false, ()), (), ()))))
 (ck (0 ≤ x.1.2.2.1)
 (ck (x.1.2.2.1.toNat < x.2.1.1.2.1.length)
 (let x9 : Int := x.2.1.1.2.1.getD x.1.2.2.1.toNat 0;
 (spec_l1In x9 (1 : Int) (60 : Int)).bind fun r10 =>
 br (!r10.1.1)
 (some (.inr (.inl ((false, ()), (), ()))))
 ((loopC spec_FontOk_s2 (((), x.1.2.1, x.1.2.2.1, (0 : Int), (), x.2.1.1.1, x.1.2.2.1, x6, x8, (), x.2.1.1.2.1, x.1.2.2.1, (x9, ()), x9, r10.1.1, !r10.1.1, ()), ((x.2.1.1.1, x.2.1.1.2.1, x.2.1.1.2.2.1, ()), ()), ())).bind fun r16 =>
 sumK r16 (fun y19 =>
 some (.inr (.inl ((y19.1.1, ()), (), ())))) (fun y20 =>
 let x21 : Int := w64 (y20.1.2.2.1 + (1 : Int));
 some (.inl (((), y20.1.2.1, x21, ()), ((y20.2.1.1.1, y20.2.1.1.2.1, y20.2.1.1.2.2.1, ()), ()), ())))))))))))
 (some (.inr (.inr ((), (), ()))))
def spec_FontOk_h0 : Sh := ⟨[(1, .c (.box 0 0)), (3, .c (.int .i64)), (4, .c (.int .i64))], [(0, .cells [.str, .rd [] .i64, .rd [] .i64])], []⟩
def spec_FontOk_r0 : List Sh := [⟨[(2, .c (.bool))], [], []⟩, ⟨[], [], []⟩]
noncomputable def spec_FontOk_L0 : Lp := ⟨0, [], spec_FontOk_h0, [], [(.ret, []), (.exit 0, [])], spec_FontOk_r0, loopC spec_FontOk_s0⟩
noncomputable def spec_FontOk (a0_0 : ByteArray) (a0_1 : List Int) (a0_2 : List Int) : Option ((Bool × Unit) × Unit × Unit) :=
 (spec_l1In (a0_0.size : Int) (1 : Int) (40 : Int)).bind fun r1 =>
 br (!r1.1.1)
 (some ((false, ()), (), ()))
 (let x2 : Bool := (a0_1.length : Int) != (a0_0.size : Int);
 br x2
 (some ((false, ()), (), ()))
 (let x3 : Bool := (a0_2.length : Int) != (a0_0.size : Int);
 br x3
 (some ((false, ()), (), ()))
 ((spec_SortsAll a0_2).bind fun r4 =>
 br (!r4.1.1)
 (some ((false, ()), (), ()))
 ((loopC spec_FontOk_s0 (((), (a0_0.size : Int), (0 : Int), ()), ((a0_0, a0_1, a0_2, ()), ()), ())).bind fun r22 =>
 sumK r22 (fun y25 =>
 some ((y25.1.1, ()), (), ())) (fun y26 =>
 some ((true, ()), (), ()))))))
noncomputable def spec_FontOk_C : Ctr := ⟨83, spec_FontOk_arg, spec_FontOk_res, fun x => spec_FontOk x.1.1.1 x.1.1.2.1 x.1.1.2.2.1, none⟩
def spec_FontOk_H : Hint := ⟨[], [], [], fun _ => []⟩
noncomputable def spec_FontOk_T : List Ctr := [spec_l1In_C, spec_SortsAll_C]
noncomputable def spec_FontOk_Ls : List Lp := [spec_FontOk_L2, spec_FontOk_L0]
theorem spec_FontOk_l0 : ∀ x, spec_FontOk_s0 x = stepW E0 spec_FontOk_T spec_FontOk_Ls spec_FontOk_H (loopAt (bodyOf Tryz.f83) 0) 0 spec_FontOk_h0 [] [(.ret, []), (.exit 0, [])] spec_FontOk_r0 x := fun x => by kernel_rfl
theorem spec_FontOk_l2 : ∀ x, spec_FontOk_s2 x = stepW E0 spec_FontOk_T spec_FontOk_Ls spec_FontOk_H (loopAt (bodyOf Tryz.f83) 1) 2 spec_FontOk_h2 [] [(.ret, []), (.exit 2, [])] spec_FontOk_r2 x := fun x => by kernel_rfl
theorem spec_FontOk_e : ∀ x, spec_FontOk_C.F x = runBodyW E0 spec_FontOk_T spec_FontOk_Ls spec_FontOk_H 83 Tryz.f83.results.toList (bodyOf Tryz.f83) [] (spec_FontOk_arg.mk' x) spec_FontOk_res := fun x => by kernel_rfl
theorem spec_FontOk_ok : spec_FontOk_C.Ok E0 := fn_ok (T := spec_FontOk_T) (h := spec_FontOk_H) (Ls := spec_FontOk_Ls) E0_mixed (T_cons spec_l1In_ok (T_cons spec_SortsAll_ok T_nil)) Tryz.func83 (bodyOf_some (by kernel_rfl)) (by kernel_rfl) (loops_of (ks := [0, 2]) (by kernel_rfl) ⟨(loop_one (h := spec_FontOk_H) (own := []) (head := spec_FontOk_h0) (back := []) (exs := [(.ret, []), (.exit 0, [])]) (res := spec_FontOk_r0) (step := spec_FontOk_s0) (by kernel_rfl) spec_FontOk_l0), (loop_one (h := spec_FontOk_H) (own := []) (head := spec_FontOk_h2) (back := []) (exs := [(.ret, []), (.exit 2, [])]) (res := spec_FontOk_r2) (step := spec_FontOk_s2) (by kernel_rfl) spec_FontOk_l2), trivial⟩) spec_FontOk_e
def spec_l2Matrix_arg : Sh := ⟨[(0, .agg [.str, .rd [] .i64, .rd [] .i64]), (1, .agg [.int .i64, .int .i64])], [], []⟩
def spec_l2Matrix_res : List Sh := [⟨[(0, .c (.bool))], [], []⟩]
noncomputable def spec_l2Matrix (a0_0 : ByteArray) (a0_1 : List Int) (a0_2 : List Int) (a1_0 : Int) (a1_1 : Int) : Option ((Bool × Unit) × Unit × Unit) :=
 let x1 : Int := w64 ((a0_0.size : Int) - (1 : Int));
 (spec_l1In a1_0 (0 : Int) x1).bind fun r2 =>
 br r2.1.1
 ((spec_l1Set a1_1).bind fun r3 =>
 br r3.1.1
 (ck (0 ≤ a1_0)
 (ck (a1_0.toNat < a0_2.length)
 (let x4 : Int := a0_2.getD a1_0.toNat 0;
 (spec_l1Part a1_1 x4).bind fun r5 =>
 some ((r5.1.1, ()), (), ()))))
 (some ((false, ()), (), ())))
 (some ((false, ()), (), ()))
noncomputable def spec_l2Matrix_C : Ctr := ⟨51, spec_l2Matrix_arg, spec_l2Matrix_res, fun x => spec_l2Matrix x.1.1.1 x.1.1.2.1 x.1.1.2.2.1 x.1.2.1.1 x.1.2.1.2.1, none⟩
def spec_l2Matrix_H : Hint := ⟨[], [], [], fun _ => []⟩
noncomputable def spec_l2Matrix_T : List Ctr := [spec_l1In_C, spec_l1Set_C, spec_l1Part_C]
noncomputable def spec_l2Matrix_Ls : List Lp := []
theorem spec_l2Matrix_e : ∀ x, spec_l2Matrix_C.F x = runBodyW E0 spec_l2Matrix_T spec_l2Matrix_Ls spec_l2Matrix_H 51 Tryz.f51.results.toList (bodyOf Tryz.f51) [] (spec_l2Matrix_arg.mk' x) spec_l2Matrix_res := fun x => by kernel_rfl
theorem spec_l2Matrix_ok : spec_l2Matrix_C.Ok E0 := fn_ok (T := spec_l2Matrix_T) (h := spec_l2Matrix_H) (Ls := spec_l2Matrix_Ls) E0_mixed (T_cons spec_l1In_ok (T_cons spec_l1Set_ok (T_cons spec_l1Part_ok T_nil))) Tryz.func51 (bodyOf_some (by kernel_rfl)) (by kernel_rfl) (loops_of (ks := []) (by kernel_rfl) trivial) spec_l2Matrix_e
def spec_MagazineOk_arg : Sh := ⟨[(0, .agg [.str, .rd [] .i64, .rd [] .i64]), (1, .c (.rd [] .mats))], [], []⟩
def spec_MagazineOk_res : List Sh := [⟨[(0, .c (.bool))], [], []⟩]
noncomputable def spec_MagazineOk_s2 (x : (Unit × List (List (Int × Int)) × Int × Int × List (Int × Int) × Int × Int × Unit) × ((ByteArray × List Int × List Int × Unit) × Unit) × Unit) : Option (((Unit × List (List (Int × Int)) × Int × Int × List (Int × Int) × Int × Int × Unit) × ((ByteArray × List Int × List Int × Unit) × Unit) × Unit) ⊕ (((Bool × Unit) × Unit × Unit) ⊕ ((Unit × List (List (Int × Int)) × Int × Int × Unit) × ((ByteArray × List Int × List Int × Unit) × Unit) × Unit))) :=
 let x6 : Bool := decide (x.1.2.2.2.2.2.2.1 < x.1.2.2.2.2.2.1);
 br x6
 (ck (0 ≤ x.1.2.2.2.2.2.2.1)
 (ck (x.1.2.2.2.2.2.2.1.toNat < x.1.2.2.2.2.1.length)
 (let x7 : Int × Int := x.1.2.2.2.2.1.getD x.1.2.2.2.2.2.2.1.toNat (0, 0);
 (spec_l2Matrix x.2.1.1.1 x.2.1.1.2.1 x.2.1.1.2.2.1 x7.1 x7.2).bind fun r8 =>
 br (!r8.1.1)
 (some (.inr (.inl ((false, ()), (), ()))))
 (let x9 : Int := w64 (x.1.2.2.2.2.2.2.1 + (1 : Int));
 some (.inl (((), x.1.2.1, x.1.2.2.1, x.1.2.2.2.1, x.1.2.2.2.2.1, x.1.2.2.2.2.2.1, x9, ()), ((x.2.1.1.1, x.2.1.1.2.1, x.2.1.1.2.2.1, ()), ()), ()))))))
 (some (.inr (.inr (((), x.1.2.1, x.1.2.2.1, x.1.2.2.2.1, ()), ((x.2.1.1.1, x.2.1.1.2.1, x.2.1.1.2.2.1, ()), ()), ()))))
def spec_MagazineOk_h2 : Sh := ⟨[(2, .c (.box 0 0)), (20, .c (.rd [] .mats)), (21, .c (.int .i64)), (22, .c (.int .i64)), (29, .c (.rd [] .mat)), (30, .c (.int .i64)), (31, .c (.int .i64))], [(0, .cells [.str, .rd [] .i64, .rd [] .i64])], []⟩
def spec_MagazineOk_r2 : List Sh := [⟨[(4, .c (.bool))], [], []⟩, ⟨[(2, .c (.box 0 0)), (20, .c (.rd [] .mats)), (21, .c (.int .i64)), (22, .c (.int .i64))], [(0, .cells [.str, .rd [] .i64, .rd [] .i64])], []⟩]
noncomputable def spec_MagazineOk_L2 : Lp := ⟨2, [], spec_MagazineOk_h2, [], [(.ret, []), (.exit 2, [])], spec_MagazineOk_r2, loopC spec_MagazineOk_s2⟩
noncomputable def spec_MagazineOk_s0 (x : (Unit × List (List (Int × Int)) × Int × Int × Unit) × ((ByteArray × List Int × List Int × Unit) × Unit) × Unit) : Option (((Unit × List (List (Int × Int)) × Int × Int × Unit) × ((ByteArray × List Int × List Int × Unit) × Unit) × Unit) ⊕ (((Bool × Unit) × Unit × Unit) ⊕ (Unit × Unit × Unit))) :=
 let x3 : Bool := decide (x.1.2.2.2.1 < x.1.2.2.1);
 br x3
 (ck (0 ≤ x.1.2.2.2.1)
 (ck (x.1.2.2.2.1.toNat < x.1.2.1.length)
 (let x4 : List (Int × Int) := x.1.2.1.getD x.1.2.2.2.1.toNat [];
 let x5 : Bool := decide ((x4.length : Int) > (20 : Int));
 br x5
 (some (.inr (.inl ((false, ()), (), ()))))
 ((loopC spec_MagazineOk_s2 (((), x.1.2.1, x.1.2.2.1, x.1.2.2.2.1, x4, (x4.length : Int), (0 : Int), ()), ((x.2.1.1.1, x.2.1.1.2.1, x.2.1.1.2.2.1, ()), ()), ())).bind fun r10 =>
 sumK r10 (fun y13 =>
 some (.inr (.inl ((y13.1.1, ()), (), ())))) (fun y14 =>
 let x15 : Int := w64 (y14.1.2.2.2.1 + (1 : Int));
 some (.inl (((), y14.1.2.1, y14.1.2.2.1, x15, ()), ((y14.2.1.1.1, y14.2.1.1.2.1, y14.2.1.1.2.2.1, ()), ()), ())))))))
 (some (.inr (.inr ((), (), ()))))
def spec_MagazineOk_h0 : Sh := ⟨[(2, .c (.box 0 0)), (20, .c (.rd [] .mats)), (21, .c (.int .i64)), (22, .c (.int .i64))], [(0, .cells [.str, .rd [] .i64, .rd [] .i64])], []⟩
def spec_MagazineOk_r0 : List Sh := [⟨[(4, .c (.bool))], [], []⟩, ⟨[], [], []⟩]
noncomputable def spec_MagazineOk_L0 : Lp := ⟨0, [], spec_MagazineOk_h0, [], [(.ret, []), (.exit 0, [])], spec_MagazineOk_r0, loopC spec_MagazineOk_s0⟩
noncomputable def spec_MagazineOk (a0_0 : ByteArray) (a0_1 : List Int) (a0_2 : List Int) (a1 : List (List (Int × Int))) : Option ((Bool × Unit) × Unit × Unit) :=
 (spec_FontOk a0_0 a0_1 a0_2).bind fun r1 =>
 br (!r1.1.1)
 (some ((false, ()), (), ()))
 (let x2 : Bool := (a1.length : Int) != (a0_0.size : Int);
 br x2
 (some ((false, ()), (), ()))
 ((loopC spec_MagazineOk_s0 (((), a1, (a1.length : Int), (0 : Int), ()), ((a0_0, a0_1, a0_2, ()), ()), ())).bind fun r16 =>
 sumK r16 (fun y19 =>
 some ((y19.1.1, ()), (), ())) (fun y20 =>
 some ((true, ()), (), ()))))
noncomputable def spec_MagazineOk_C : Ctr := ⟨48, spec_MagazineOk_arg, spec_MagazineOk_res, fun x => spec_MagazineOk x.1.1.1 x.1.1.2.1 x.1.1.2.2.1 x.1.2.1, none⟩
def spec_MagazineOk_H : Hint := ⟨[], [], [], fun _ => []⟩
noncomputable def spec_MagazineOk_T : List Ctr := [spec_FontOk_C, spec_l2Matrix_C]
noncomputable def spec_MagazineOk_Ls : List Lp := [spec_MagazineOk_L2, spec_MagazineOk_L0]
theorem spec_MagazineOk_l0 : ∀ x, spec_MagazineOk_s0 x = stepW E0 spec_MagazineOk_T spec_MagazineOk_Ls spec_MagazineOk_H (loopAt (bodyOf Tryz.f48) 0) 0 spec_MagazineOk_h0 [] [(.ret, []), (.exit 0, [])] spec_MagazineOk_r0 x := fun x => by kernel_rfl
theorem spec_MagazineOk_l2 : ∀ x, spec_MagazineOk_s2 x = stepW E0 spec_MagazineOk_T spec_MagazineOk_Ls spec_MagazineOk_H (loopAt (bodyOf Tryz.f48) 1) 2 spec_MagazineOk_h2 [] [(.ret, []), (.exit 2, [])] spec_MagazineOk_r2 x := fun x => by kernel_rfl
theorem spec_MagazineOk_e : ∀ x, spec_MagazineOk_C.F x = runBodyW E0 spec_MagazineOk_T spec_MagazineOk_Ls spec_MagazineOk_H 48 Tryz.f48.results.toList (bodyOf Tryz.f48) [] (spec_MagazineOk_arg.mk' x) spec_MagazineOk_res := fun x => by kernel_rfl
theorem spec_MagazineOk_ok : spec_MagazineOk_C.Ok E0 := fn_ok (T := spec_MagazineOk_T) (h := spec_MagazineOk_H) (Ls := spec_MagazineOk_Ls) E0_mixed (T_cons spec_FontOk_ok (T_cons spec_l2Matrix_ok T_nil)) Tryz.func48 (bodyOf_some (by kernel_rfl)) (by kernel_rfl) (loops_of (ks := [0, 2]) (by kernel_rfl) ⟨(loop_one (h := spec_MagazineOk_H) (own := []) (head := spec_MagazineOk_h0) (back := []) (exs := [(.ret, []), (.exit 0, [])]) (res := spec_MagazineOk_r0) (step := spec_MagazineOk_s0) (by kernel_rfl) spec_MagazineOk_l0), (loop_one (h := spec_MagazineOk_H) (own := []) (head := spec_MagazineOk_h2) (back := []) (exs := [(.ret, []), (.exit 2, [])]) (res := spec_MagazineOk_r2) (step := spec_MagazineOk_s2) (by kernel_rfl) spec_MagazineOk_l2), trivial⟩) spec_MagazineOk_e
def spec_MeasureOk_arg : Sh := ⟨[(0, .agg [.int .i64, .int .i64, .int .i64])], [], []⟩
def spec_MeasureOk_res : List Sh := [⟨[(0, .c (.bool))], [], []⟩]
noncomputable def spec_MeasureOk (a0_0 : Int) (a0_1 : Int) (a0_2 : Int) : Option ((Bool × Unit) × Unit × Unit) :=
 (spec_l1In a0_0 (1 : Int) (2000 : Int)).bind fun r1 =>
 br r1.1.1
 ((spec_l1In a0_1 (1 : Int) (100 : Int)).bind fun r2 =>
 br r2.1.1
 ((spec_l1In a0_2 a0_1 (100 : Int)).bind fun r3 =>
 some ((r3.1.1, ()), (), ()))
 (some ((false, ()), (), ())))
 (some ((false, ()), (), ()))
noncomputable def spec_MeasureOk_C : Ctr := ⟨50, spec_MeasureOk_arg, spec_MeasureOk_res, fun x => spec_MeasureOk x.1.1.1 x.1.1.2.1 x.1.1.2.2.1, none⟩
def spec_MeasureOk_H : Hint := ⟨[], [], [], fun _ => []⟩
noncomputable def spec_MeasureOk_T : List Ctr := [spec_l1In_C]
noncomputable def spec_MeasureOk_Ls : List Lp := []
theorem spec_MeasureOk_e : ∀ x, spec_MeasureOk_C.F x = runBodyW E0 spec_MeasureOk_T spec_MeasureOk_Ls spec_MeasureOk_H 50 Tryz.f50.results.toList (bodyOf Tryz.f50) [] (spec_MeasureOk_arg.mk' x) spec_MeasureOk_res := fun x => by kernel_rfl
theorem spec_MeasureOk_ok : spec_MeasureOk_C.Ok E0 := fn_ok (T := spec_MeasureOk_T) (h := spec_MeasureOk_H) (Ls := spec_MeasureOk_Ls) E0_mixed (T_cons spec_l1In_ok T_nil) Tryz.func50 (bodyOf_some (by kernel_rfl)) (by kernel_rfl) (loops_of (ks := []) (by kernel_rfl) trivial) spec_MeasureOk_e
def spec_l5Items_arg : Sh := ⟨[(0, .agg [.str, .rd [] .i64, .rd [] .i64]), (1, .c (.rd [] .mat))], [], []⟩
def spec_l5Items_res : List Sh := [⟨[(0, .c (.own 0))], [], [(0, .i64)]⟩]
noncomputable def spec_l5Items_s0 (x : (Unit × Unit × List (Int × Int) × Int × Int × Unit) × ((ByteArray × List Int × List Int × Unit) × Unit) × (List Int × Unit)) : Option (((Unit × Unit × List (Int × Int) × Int × Int × Unit) × ((ByteArray × List Int × List Int × Unit) × Unit) × (List Int × Unit)) ⊕ ((Unit × Unit) × Unit × (List Int × Unit))) :=
 let x1 : Bool := decide (x.1.2.2.2.2.1 < x.1.2.2.2.1);
 br x1
 (ck (0 ≤ x.1.2.2.2.2.1)
 (ck (x.1.2.2.2.2.1.toNat < x.1.2.2.1.length)
 (let x2 : Int × Int := x.1.2.2.1.getD x.1.2.2.2.2.1.toNat (0, 0);
 let x3 : Bool := decide (x2.1 < (0 : Int));
 br x3
 (ck ((x.2.2.1.length + [(0 : Int)].length) * 8 ≤ 140737488355328 ∧ (x.2.2.1.length + [(0 : Int)].length) ≤ 9223372036854775807)
 (let x4 : List Int := x.2.2.1 ++ [(0 : Int)];
 let x5 : Int := w64 (x.1.2.2.2.2.1 + (1 : Int));
 some (.inl (((), (), x.1.2.2.1, x.1.2.2.2.1, x5, ()), ((x.2.1.1.1, x.2.1.1.2.1, x.2.1.1.2.2.1, ()), ()), (x4, ())))))
 (ck (0 ≤ x2.1)
 (ck (x2.1.toNat < x.2.1.1.2.1.length)
 (let x6 : Int := x.2.1.1.2.1.getD x2.1.toNat 0;
 ck ((x.2.2.1.length + [x6].length) * 8 ≤ 140737488355328 ∧ (x.2.2.1.length + [x6].length) ≤ 9223372036854775807)
 (let x7 : List Int := x.2.2.1 ++ [x6];
 let x8 : Int := w64 (x.1.2.2.2.2.1 + (1 : Int));
 some (.inl (((), (), x.1.2.2.1, x.1.2.2.2.1, x8, ()), ((x.2.1.1.1, x.2.1.1.2.1, x.2.1.1.2.2.1, ()), ()), (x7, ()))))))))))
 (some (.inr (((), ()), (), (x.2.2.1, ()))))
def spec_l5Items_h0 : Sh := ⟨[(2, .c (.box 0 0)), (5, .c (.own 0)), (9, .c (.rd [] .mat)), (10, .c (.int .i64)), (11, .c (.int .i64))], [(0, .cells [.str, .rd [] .i64, .rd [] .i64])], [(0, .i64)]⟩
def spec_l5Items_r0 : List Sh := [⟨[(5, .c (.own 0))], [], [(0, .i64)]⟩]
noncomputable def spec_l5Items_L0 : Lp := ⟨0, [], spec_l5Items_h0, [], [(.exit 0, [])], spec_l5Items_r0, loopC spec_l5Items_s0⟩
noncomputable def spec_l5Items (a0_0 : ByteArray) (a0_1 : List Int) (a0_2 : List Int) (a1 : List (Int × Int)) : Option ((Unit × Unit) × Unit × (List Int × Unit)) :=
 (loopC spec_l5Items_s0 (((), (), a1, (a1.length : Int), (0 : Int), ()), ((a0_0, a0_1, a0_2, ()), ()), ([], ()))).bind fun r9 =>
 some (((), ()), (), (r9.2.2.1, ()))
noncomputable def spec_l5Items_C : Ctr := ⟨53, spec_l5Items_arg, spec_l5Items_res, fun x => spec_l5Items x.1.1.1 x.1.1.2.1 x.1.1.2.2.1 x.1.2.1, none⟩
def spec_l5Items_H : Hint := ⟨[], [], [], fun _ => []⟩
noncomputable def spec_l5Items_T : List Ctr := []
noncomputable def spec_l5Items_Ls : List Lp := [spec_l5Items_L0]
theorem spec_l5Items_l0 : ∀ x, spec_l5Items_s0 x = stepW E0 spec_l5Items_T spec_l5Items_Ls spec_l5Items_H (loopAt (bodyOf Tryz.f53) 0) 0 spec_l5Items_h0 [] [(.exit 0, [])] spec_l5Items_r0 x := fun x => by kernel_rfl
theorem spec_l5Items_e : ∀ x, spec_l5Items_C.F x = runBodyW E0 spec_l5Items_T spec_l5Items_Ls spec_l5Items_H 53 Tryz.f53.results.toList (bodyOf Tryz.f53) [] (spec_l5Items_arg.mk' x) spec_l5Items_res := fun x => by kernel_rfl
theorem spec_l5Items_ok : spec_l5Items_C.Ok E0 := fn_ok (T := spec_l5Items_T) (h := spec_l5Items_H) (Ls := spec_l5Items_Ls) E0_mixed T_nil Tryz.func53 (bodyOf_some (by kernel_rfl)) (by kernel_rfl) (loops_of (ks := [0]) (by kernel_rfl) ⟨(loop_one (h := spec_l5Items_H) (own := []) (head := spec_l5Items_h0) (back := []) (exs := [(.exit 0, [])]) (res := spec_l5Items_r0) (step := spec_l5Items_s0) (by kernel_rfl) spec_l5Items_l0), trivial⟩) spec_l5Items_e
def spec_l3Sum_arg : Sh := ⟨[(0, .c (.rd [] .i64))], [], []⟩
def spec_l3Sum_res : List Sh := [⟨[(0, .c (.int .i64)), (1, .c (.int .i64))], [], []⟩]
noncomputable def spec_l3Sum_s0 (x : (Int × Int × List Int × Int × Int × Unit) × Unit × Unit) : Option (((Int × Int × List Int × Int × Int × Unit) × Unit × Unit) ⊕ ((Int × Int × Unit) × Unit × Unit)) :=
 let x1 : Bool := decide (x.1.2.2.2.2.1 < x.1.2.2.2.1);
 br x1
 (ck (0 ≤ x.1.2.2.2.2.1)
 (ck (x.1.2.2.2.2.1.toNat < x.1.2.2.1.length)
 (let x2 : Int := x.1.2.2.1.getD x.1.2.2.2.2.1.toNat 0;
 let x3 : Int := w64 (x.1.1 + x2);
 let x4 : Bool := x2 == (0 : Int);
 br x4
 (let x5 : Int := w64 (x.1.2.1 + (1 : Int));
 let x6 : Int := w64 (x.1.2.2.2.2.1 + (1 : Int));
 some (.inl ((x3, x5, x.1.2.2.1, x.1.2.2.2.1, x6, ()), (), ())))
 (let x7 : Int := w64 (x.1.2.2.2.2.1 + (1 : Int));
 some (.inl ((x3, x.1.2.1, x.1.2.2.1, x.1.2.2.2.1, x7, ()), (), ()))))))
 (some (.inr ((x.1.1, x.1.2.1, ()), (), ())))
def spec_l3Sum_h0 : Sh := ⟨[(4, .c (.int .i64)), (5, .c (.int .i64)), (8, .c (.rd [] .i64)), (9, .c (.int .i64)), (10, .c (.int .i64))], [], []⟩
def spec_l3Sum_r0 : List Sh := [⟨[(4, .c (.int .i64)), (5, .c (.int .i64))], [], []⟩]
noncomputable def spec_l3Sum_L0 : Lp := ⟨0, [], spec_l3Sum_h0, [], [(.exit 0, [])], spec_l3Sum_r0, loopC spec_l3Sum_s0⟩
noncomputable def spec_l3Sum (a0 : List Int) : Option ((Int × Int × Unit) × Unit × Unit) :=
 (loopC spec_l3Sum_s0 (((0 : Int), (0 : Int), a0, (a0.length : Int), (0 : Int), ()), (), ())).bind fun r8 =>
 some ((r8.1.1, r8.1.2.1, ()), (), ())
noncomputable def spec_l3Sum_C : Ctr := ⟨86, spec_l3Sum_arg, spec_l3Sum_res, fun x => spec_l3Sum x.1.1, none⟩
def spec_l3Sum_H : Hint := ⟨[], [], [], fun _ => []⟩
noncomputable def spec_l3Sum_T : List Ctr := []
noncomputable def spec_l3Sum_Ls : List Lp := [spec_l3Sum_L0]
theorem spec_l3Sum_l0 : ∀ x, spec_l3Sum_s0 x = stepW E0 spec_l3Sum_T spec_l3Sum_Ls spec_l3Sum_H (loopAt (bodyOf Tryz.f86) 0) 0 spec_l3Sum_h0 [] [(.exit 0, [])] spec_l3Sum_r0 x := fun x => by kernel_rfl
theorem spec_l3Sum_e : ∀ x, spec_l3Sum_C.F x = runBodyW E0 spec_l3Sum_T spec_l3Sum_Ls spec_l3Sum_H 86 Tryz.f86.results.toList (bodyOf Tryz.f86) [] (spec_l3Sum_arg.mk' x) spec_l3Sum_res := fun x => by kernel_rfl
theorem spec_l3Sum_ok : spec_l3Sum_C.Ok E0 := fn_ok (T := spec_l3Sum_T) (h := spec_l3Sum_H) (Ls := spec_l3Sum_Ls) E0_mixed T_nil Tryz.func86 (bodyOf_some (by kernel_rfl)) (by kernel_rfl) (loops_of (ks := [0]) (by kernel_rfl) ⟨(loop_one (h := spec_l3Sum_H) (own := []) (head := spec_l3Sum_h0) (back := []) (exs := [(.exit 0, [])]) (res := spec_l3Sum_r0) (step := spec_l3Sum_s0) (by kernel_rfl) spec_l3Sum_l0), trivial⟩) spec_l3Sum_e
def spec_LineOk_arg : Sh := ⟨[(0, .c (.rd [] .i64))], [], []⟩
def spec_LineOk_res : List Sh := [⟨[(0, .c (.bool))], [], []⟩]
noncomputable def spec_LineOk_s0 (x : (List Int × List Int × Int × Int × Unit) × Unit × Unit) : Option (((List Int × List Int × Int × Int × Unit) × Unit × Unit) ⊕ (((Bool × Unit) × Unit × Unit) ⊕ ((List Int × Unit) × Unit × Unit))) :=
 let x1 : Bool := decide (x.1.2.2.2.1 < x.1.2.2.1);
 br x1
 (ck (0 ≤ x.1.2.2.2.1)
 (ck (x.1.2.2.2.1.toNat < x.1.2.1.length)
 (let x2 : Int := x.1.2.1.getD x.1.2.2.2.1.toNat 0;
 (spec_l1In x2 (0 : Int) (60 : Int)).bind fun r3 =>
 br (!r3.1.1)
 (some (.inr (.inl ((false, ()), (), ()))))
 (let x4 : Int := w64 (x.1.2.2.2.1 + (1 : Int));
 some (.inl ((x.1.1, x.1.2.1, x.1.2.2.1, x4, ()), (), ()))))))
 (some (.inr (.inr ((x.1.1, ()), (), ()))))
def spec_LineOk_h0 : Sh := ⟨[(0, .c (.rd [] .i64)), (5, .c (.rd [] .i64)), (6, .c (.int .i64)), (7, .c (.int .i64))], [], []⟩
def spec_LineOk_r0 : List Sh := [⟨[(2, .c (.bool))], [], []⟩, ⟨[(0, .c (.rd [] .i64))], [], []⟩]
noncomputable def spec_LineOk_L0 : Lp := ⟨0, [], spec_LineOk_h0, [], [(.ret, []), (.exit 0, [])], spec_LineOk_r0, loopC spec_LineOk_s0⟩
noncomputable def spec_LineOk (a0 : List Int) : Option ((Bool × Unit) × Unit × Unit) :=
 (loopC spec_LineOk_s0 ((a0, a0, (a0.length : Int), (0 : Int), ()), (), ())).bind fun r5 =>
 sumK r5 (fun y8 =>
 some ((y8.1.1, ()), (), ())) (fun y9 =>
 let x10 : Bool := decide ((y9.1.1.length : Int) ≤ (120 : Int));
 some ((x10, ()), (), ()))
noncomputable def spec_LineOk_C : Ctr := ⟨87, spec_LineOk_arg, spec_LineOk_res, fun x => spec_LineOk x.1.1, none⟩
def spec_LineOk_H : Hint := ⟨[], [], [], fun _ => []⟩
noncomputable def spec_LineOk_T : List Ctr := [spec_l1In_C]
noncomputable def spec_LineOk_Ls : List Lp := [spec_LineOk_L0]
theorem spec_LineOk_l0 : ∀ x, spec_LineOk_s0 x = stepW E0 spec_LineOk_T spec_LineOk_Ls spec_LineOk_H (loopAt (bodyOf Tryz.f87) 0) 0 spec_LineOk_h0 [] [(.ret, []), (.exit 0, [])] spec_LineOk_r0 x := fun x => by kernel_rfl
theorem spec_LineOk_e : ∀ x, spec_LineOk_C.F x = runBodyW E0 spec_LineOk_T spec_LineOk_Ls spec_LineOk_H 87 Tryz.f87.results.toList (bodyOf Tryz.f87) [] (spec_LineOk_arg.mk' x) spec_LineOk_res := fun x => by kernel_rfl
theorem spec_LineOk_ok : spec_LineOk_C.Ok E0 := fn_ok (T := spec_LineOk_T) (h := spec_LineOk_H) (Ls := spec_LineOk_Ls) E0_mixed (T_cons spec_l1In_ok T_nil) Tryz.func87 (bodyOf_some (by kernel_rfl)) (by kernel_rfl) (loops_of (ks := [0]) (by kernel_rfl) ⟨(loop_one (h := spec_LineOk_H) (own := []) (head := spec_LineOk_h0) (back := []) (exs := [(.ret, []), (.exit 0, [])]) (res := spec_LineOk_r0) (step := spec_LineOk_s0) (by kernel_rfl) spec_LineOk_l0), trivial⟩) spec_LineOk_e
def spec_l3Fits_arg : Sh := ⟨[(0, .agg [.int .i64, .int .i64, .int .i64]), (1, .c (.rd [] .i64))], [], []⟩
def spec_l3Fits_res : List Sh := [⟨[(0, .c (.bool))], [], []⟩]
noncomputable def spec_l3Fits (a0_0 : Int) (a0_1 : Int) (a0_2 : Int) (a1 : List Int) : Option ((Bool × Unit) × Unit × Unit) :=
 (spec_l3Sum a1).bind fun r1 =>
 (spec_LineOk a1).bind fun r2 =>
 br r2.1.1
 (let x3 : Int := w64 (r1.1.2.1 * a0_1);
 let x4 : Int := w64 (r1.1.1 + x3);
 let x5 : Bool := decide (x4 ≤ a0_0);
 some ((x5, ()), (), ()))
 (some ((false, ()), (), ()))
noncomputable def spec_l3Fits_C : Ctr := ⟨52, spec_l3Fits_arg, spec_l3Fits_res, fun x => spec_l3Fits x.1.1.1 x.1.1.2.1 x.1.1.2.2.1 x.1.2.1, none⟩
def spec_l3Fits_H : Hint := ⟨[], [], [], fun _ => []⟩
noncomputable def spec_l3Fits_T : List Ctr := [spec_l3Sum_C, spec_LineOk_C]
noncomputable def spec_l3Fits_Ls : List Lp := []
theorem spec_l3Fits_e : ∀ x, spec_l3Fits_C.F x = runBodyW E0 spec_l3Fits_T spec_l3Fits_Ls spec_l3Fits_H 52 Tryz.f52.results.toList (bodyOf Tryz.f52) [] (spec_l3Fits_arg.mk' x) spec_l3Fits_res := fun x => by kernel_rfl
theorem spec_l3Fits_ok : spec_l3Fits_C.Ok E0 := fn_ok (T := spec_l3Fits_T) (h := spec_l3Fits_H) (Ls := spec_l3Fits_Ls) E0_mixed (T_cons spec_l3Sum_ok (T_cons spec_LineOk_ok T_nil)) Tryz.func52 (bodyOf_some (by kernel_rfl)) (by kernel_rfl) (loops_of (ks := []) (by kernel_rfl) trivial) spec_l3Fits_e
def spec_MachineOk_arg : Sh := ⟨[(0, .agg [.str, .rd [] .i64, .rd [] .i64, .rd [] .mats, .int .i64, .int .i64, .int .i64, .int .i64, .rd [] .mat, .rd [] .mat])], [], []⟩
def spec_MachineOk_res : List Sh := [⟨[(0, .c (.bool))], [], []⟩]
noncomputable def spec_MachineOk_s0 (x : (Unit × List (Int × Int) × Int × Int × Unit) × ((ByteArray × List Int × List Int × List (List (Int × Int)) × Int × Int × Int × Int × List (Int × Int) × List (Int × Int) × Unit) × Unit) × Unit) : Option (((Unit × List (Int × Int) × Int × Int × Unit) × ((ByteArray × List Int × List Int × List (List (Int × Int)) × Int × Int × Int × Int × List (Int × Int) × List (Int × Int) × Unit) × Unit) × Unit) ⊕ (((Bool × Unit) × Unit × Unit) ⊕ ((Unit × Unit) × ((ByteArray × List Int × List Int × List (List (Int × Int)) × Int × Int × Int × Int × List (Int × Int) × List (Int × Int) × Unit) × Unit) × Unit))) :=
 let x5 : Bool := decide (x.1.2.2.2.1 < x.1.2.2.1);
 br x5
 (ck (0 ≤ x.1.2.2.2.1)
 (ck (x.1.2.2.2.1.toNat < x.1.2.1.length)
 (let x6 : Int × Int := x.1.2.1.getD x.1.2.2.2.1.toNat (0, 0);
 (spec_l2Matrix x.2.1.1.1 x.2.1.1.2.1 x.2.1.1.2.2.1 x6.1 x6.2).bind fun r7 =>
 br (!r7.1.1)
 (let x8 : Bool := x6.1 != (-1 : Int);
 br x8
 (some (.inr (.inl ((false, ()), (), ()))))
 (let x9 : Bool := x6.2 != (0 : Int);
 br x9
 (some (.inr (.inl ((false, ()), (), ()))))
 (let x10 : Int := w64 (x.1.2.2.2.1 + (1 : Int));
 some (.inl (((), x.1.2.1, x.1.2.2.1, x10, ()), ((x.2.1.1.1, x.2.1.1.2.1, x.2.1.1.2.2.1, x.2.1.1.2.2.2.1, x.2.1.1.2.2.2.2.1, x.2.1.1.2.2.2.2.2.1, x.2.1.1.2.2.2.2.2.2.1, x.2.1.1.2.2.2.2.2.2.2.1, x.2.1.1.2.2.2.2.2.2.2.2.1, x.2.1.1.2.2.2.2.2.2.2.2.2.1, ()), ()), ())))))
 (let x11 : Int := w64 (x.1.2.2.2.1 + (1 : Int));
 some (.inl (((), x.1.2.1, x.1.2.2.1, x11, ()), ((x.2.1.1.1, x.2.1.1.2.1, x.2.1.1.2.2.1, x.2.1.1.2.2.2.1, x.2.1.1.2.2.2.2.1, x.2.1.1.2.2.2.2.2.1, x.2.1.1.2.2.2.2.2.2.1, x.2.1.1.2.2.2.2.2.2.2.1, x.2.1.1.2.2.2.2.2.2.2.2.1, x.2.1.1.2.2.2.2.2.2.2.2.2.1, ()), ()), ()))))))
 (some (.inr (.inr (((), ()), ((x.2.1.1.1, x.2.1.1.2.1, x.2.1.1.2.2.1, x.2.1.1.2.2.2.1, x.2.1.1.2.2.2.2.1, x.2.1.1.2.2.2.2.2.1, x.2.1.1.2.2.2.2.2.2.1, x.2.1.1.2.2.2.2.2.2.2.1, x.2.1.1.2.2.2.2.2.2.2.2.1, x.2.1.1.2.2.2.2.2.2.2.2.2.1, ()), ()), ()))))
def spec_MachineOk_h0 : Sh := ⟨[(1, .c (.box 0 0)), (32, .c (.rd [] .mat)), (33, .c (.int .i64)), (34, .c (.int .i64))], [(0, .cells [.str, .rd [] .i64, .rd [] .i64, .rd [] .mats, .int .i64, .int .i64, .int .i64, .int .i64, .rd [] .mat, .rd [] .mat])], []⟩
def spec_MachineOk_r0 : List Sh := [⟨[(2, .c (.bool))], [], []⟩, ⟨[(1, .c (.box 0 0))], [(0, .cells [.str, .rd [] .i64, .rd [] .i64, .rd [] .mats, .int .i64, .int .i64, .int .i64, .int .i64, .rd [] .mat, .rd [] .mat])], []⟩]
noncomputable def spec_MachineOk_L0 : Lp := ⟨0, [], spec_MachineOk_h0, [], [(.ret, []), (.exit 0, [])], spec_MachineOk_r0, loopC spec_MachineOk_s0⟩
noncomputable def spec_MachineOk_s2 (x : (Unit × List (Int × Int) × Int × Int × Unit) × ((ByteArray × List Int × List Int × List (List (Int × Int)) × Int × Int × Int × Int × List (Int × Int) × List (Int × Int) × Unit) × Unit) × Unit) : Option (((Unit × List (Int × Int) × Int × Int × Unit) × ((ByteArray × List Int × List Int × List (List (Int × Int)) × Int × Int × Int × Int × List (Int × Int) × List (Int × Int) × Unit) × Unit) × Unit) ⊕ (((Bool × Unit) × Unit × Unit) ⊕ ((Unit × Unit) × ((ByteArray × List Int × List Int × List (List (Int × Int)) × Int × Int × Int × Int × List (Int × Int) × List (Int × Int) × Unit) × Unit) × Unit))) :=
 let x17 : Bool := decide (x.1.2.2.2.1 < x.1.2.2.1);
 br x17
 (ck (0 ≤ x.1.2.2.2.1)
 (ck (x.1.2.2.2.1.toNat < x.1.2.1.length)
 (let x18 : Int × Int := x.1.2.1.getD x.1.2.2.2.1.toNat (0, 0);
 (spec_l2Matrix x.2.1.1.1 x.2.1.1.2.1 x.2.1.1.2.2.1 x18.1 x18.2).bind fun r19 =>
 br (!r19.1.1)
 (some (.inr (.inl ((false, ()), (), ()))))
 (let x20 : Int := w64 (x.1.2.2.2.1 + (1 : Int));
 some (.inl (((), x.1.2.1, x.1.2.2.1, x20, ()), ((x.2.1.1.1, x.2.1.1.2.1, x.2.1.1.2.2.1, x.2.1.1.2.2.2.1, x.2.1.1.2.2.2.2.1, x.2.1.1.2.2.2.2.2.1, x.2.1.1.2.2.2.2.2.2.1, x.2.1.1.2.2.2.2.2.2.2.1, x.2.1.1.2.2.2.2.2.2.2.2.1, x.2.1.1.2.2.2.2.2.2.2.2.2.1, ()), ()), ()))))))
 (some (.inr (.inr (((), ()), ((x.2.1.1.1, x.2.1.1.2.1, x.2.1.1.2.2.1, x.2.1.1.2.2.2.1, x.2.1.1.2.2.2.2.1, x.2.1.1.2.2.2.2.2.1, x.2.1.1.2.2.2.2.2.2.1, x.2.1.1.2.2.2.2.2.2.2.1, x.2.1.1.2.2.2.2.2.2.2.2.1, x.2.1.1.2.2.2.2.2.2.2.2.2.1, ()), ()), ()))))
def spec_MachineOk_h2 : Sh := ⟨[(1, .c (.box 0 0)), (55, .c (.rd [] .mat)), (56, .c (.int .i64)), (57, .c (.int .i64))], [(0, .cells [.str, .rd [] .i64, .rd [] .i64, .rd [] .mats, .int .i64, .int .i64, .int .i64, .int .i64, .rd [] .mat, .rd [] .mat])], []⟩
def spec_MachineOk_r2 : List Sh := [⟨[(2, .c (.bool))], [], []⟩, ⟨[(1, .c (.box 0 0))], [(0, .cells [.str, .rd [] .i64, .rd [] .i64, .rd [] .mats, .int .i64, .int .i64, .int .i64, .int .i64, .rd [] .mat, .rd [] .mat])], []⟩]
noncomputable def spec_MachineOk_L2 : Lp := ⟨2, [], spec_MachineOk_h2, [], [(.ret, []), (.exit 2, [])], spec_MachineOk_r2, loopC spec_MachineOk_s2⟩
noncomputable def spec_MachineOk (a0_0 : ByteArray) (a0_1 : List Int) (a0_2 : List Int) (a0_3 : List (List (Int × Int))) (a0_4 : Int) (a0_5 : Int) (a0_6 : Int) (a0_7 : Int) (a0_8 : List (Int × Int)) (a0_9 : List (Int × Int)) : Option ((Bool × Unit) × Unit × Unit) :=
 (spec_MagazineOk a0_0 a0_1 a0_2 a0_3).bind fun r1 =>
 br (!r1.1.1)
 (some ((false, ()), (), ()))
 ((spec_l1In a0_4 (0 : Int) (60 : Int)).bind fun r2 =>
 br (!r2.1.1)
 (some ((false, ()), (), ()))
 ((spec_MeasureOk a0_5 a0_6 a0_7).bind fun r3 =>
 br (!r3.1.1)
 (some ((false, ()), (), ()))
 (let x4 : Bool := decide ((a0_9.length : Int) > (240 : Int));
 br x4
 (some ((false, ()), (), ()))
 ((loopC spec_MachineOk_s0 (((), a0_8, (a0_8.length : Int), (0 : Int), ()), ((a0_0, a0_1, a0_2, a0_3, a0_4, a0_5, a0_6, a0_7, a0_8, a0_9, ()), ()), ())).bind fun r12 =>
 sumK r12 (fun y15 =>
 some ((y15.1.1, ()), (), ())) (fun y16 =>
 (loopC spec_MachineOk_s2 (((), y16.2.1.1.2.2.2.2.2.2.2.2.2.1, (y16.2.1.1.2.2.2.2.2.2.2.2.2.1.length : Int), (0 : Int), ()), ((y16.2.1.1.1, y16.2.1.1.2.1, y16.2.1.1.2.2.1, y16.2.1.1.2.2.2.1, y16.2.1.1.2.2.2.2.1, y16.2.1.1.2.2.2.2.2.1, y16.2.1.1.2.2.2.2.2.2.1, y16.2.1.1.2.2.2.2.2.2.2.1, y16.2.1.1.2.2.2.2.2.2.2.2.1, y16.2.1.1.2.2.2.2.2.2.2.2.2.1, ()), ()), ())).bind fun r21 =>
 sumK r21 (fun y24 =>
 some ((y24.1.1, ()), (), ())) (fun y25 =>
 (spec_l5Items y25.2.1.1.1 y25.2.1.1.2.1 y25.2.1.1.2.2.1 y25.2.1.1.2.2.2.2.2.2.2.2.1).bind fun r26 =>
 (spec_l3Fits y25.2.1.1.2.2.2.2.2.1 y25.2.1.1.2.2.2.2.2.2.1 y25.2.1.1.2.2.2.2.2.2.2.1 r26.2.2.1).bind fun r27 =>
 some ((r27.1.1, ()), (), ())))))))
noncomputable def spec_MachineOk_C : Ctr := ⟨24, spec_MachineOk_arg, spec_MachineOk_res, fun x => spec_MachineOk x.1.1.1 x.1.1.2.1 x.1.1.2.2.1 x.1.1.2.2.2.1 x.1.1.2.2.2.2.1 x.1.1.2.2.2.2.2.1 x.1.1.2.2.2.2.2.2.1 x.1.1.2.2.2.2.2.2.2.1 x.1.1.2.2.2.2.2.2.2.2.1 x.1.1.2.2.2.2.2.2.2.2.2.1, none⟩
def spec_MachineOk_H : Hint := ⟨[], [], [], fun _ => []⟩
noncomputable def spec_MachineOk_T : List Ctr := [spec_MagazineOk_C, spec_l1In_C, spec_MeasureOk_C, spec_l2Matrix_C, spec_l5Items_C, spec_l3Fits_C]
noncomputable def spec_MachineOk_Ls : List Lp := [spec_MachineOk_L0, spec_MachineOk_L2]
theorem spec_MachineOk_l0 : ∀ x, spec_MachineOk_s0 x = stepW E0 spec_MachineOk_T spec_MachineOk_Ls spec_MachineOk_H (loopAt (bodyOf Tryz.f24) 0) 0 spec_MachineOk_h0 [] [(.ret, []), (.exit 0, [])] spec_MachineOk_r0 x := fun x => by kernel_rfl
theorem spec_MachineOk_l2 : ∀ x, spec_MachineOk_s2 x = stepW E0 spec_MachineOk_T spec_MachineOk_Ls spec_MachineOk_H (loopAt (bodyOf Tryz.f24) 1) 2 spec_MachineOk_h2 [] [(.ret, []), (.exit 2, [])] spec_MachineOk_r2 x := fun x => by kernel_rfl
theorem spec_MachineOk_e : ∀ x, spec_MachineOk_C.F x = runBodyW E0 spec_MachineOk_T spec_MachineOk_Ls spec_MachineOk_H 24 Tryz.f24.results.toList (bodyOf Tryz.f24) [] (spec_MachineOk_arg.mk' x) spec_MachineOk_res := fun x => by kernel_rfl
theorem spec_MachineOk_ok : spec_MachineOk_C.Ok E0 := fn_ok (T := spec_MachineOk_T) (h := spec_MachineOk_H) (Ls := spec_MachineOk_Ls) E0_mixed (T_cons spec_MagazineOk_ok (T_cons spec_l1In_ok (T_cons spec_MeasureOk_ok (T_cons spec_l2Matrix_ok (T_cons spec_l5Items_ok (T_cons spec_l3Fits_ok T_nil)))))) Tryz.func24 (bodyOf_some (by kernel_rfl)) (by kernel_rfl) (loops_of (ks := [0, 2]) (by kernel_rfl) ⟨(loop_one (h := spec_MachineOk_H) (own := []) (head := spec_MachineOk_h0) (back := []) (exs := [(.ret, []), (.exit 0, [])]) (res := spec_MachineOk_r0) (step := spec_MachineOk_s0) (by kernel_rfl) spec_MachineOk_l0), (loop_one (h := spec_MachineOk_H) (own := []) (head := spec_MachineOk_h2) (back := []) (exs := [(.ret, []), (.exit 2, [])]) (res := spec_MachineOk_r2) (step := spec_MachineOk_s2) (by kernel_rfl) spec_MachineOk_l2), trivial⟩) spec_MachineOk_e
def spec_l6Words_arg : Sh := ⟨[(0, .c (.str))], [], []⟩
def spec_l6Words_res : List Sh := [⟨[(0, .c (.own 0))], [], [(0, .str)]⟩]
noncomputable def spec_l6Words_s0 (x : (ByteArray × Unit × Int × Int × Unit) × Unit × (List ByteArray × Unit)) : Option (((ByteArray × Unit × Int × Int × Unit) × Unit × (List ByteArray × Unit)) ⊕ ((Unit × Unit) × Unit × (List ByteArray × Unit))) :=
 let x1 : Bool := decide (x.1.2.2.2.1 ≤ (x.1.1.size : Int));
 br x1
 (let x2 : Bool := decide (x.1.2.2.2.1 < (x.1.1.size : Int));
 br x2
 (ck (0 ≤ x.1.2.2.2.1 ∧ x.1.2.2.2.1.toNat < x.1.1.size)
 (let x3 : Int := byteAt x.1.1 x.1.2.2.2.1.toNat;
 let x4 : Bool := x3 != (32 : Int);
 br x4
 (let x5 : Int := w64 (x.1.2.2.2.1 + (1 : Int));
 some (.inl ((x.1.1, (), x.1.2.2.1, x5, ()), (), (x.2.2.1, ()))))
 (let x6 : Bool := decide (x.1.2.2.2.1 > x.1.2.2.1);
 br x6
 (ck (0 ≤ x.1.2.2.1)
 (ck (0 ≤ x.1.2.2.2.1)
 (ck (x.1.2.2.1.toNat ≤ x.1.2.2.2.1.toNat ∧ x.1.2.2.2.1.toNat ≤ x.1.1.size)
 (let x7 : ByteArray := x.1.1.extract x.1.2.2.1.toNat x.1.2.2.2.1.toNat;
 ck ((x.2.2.1.length + [x7].length) * 16 ≤ 140737488355328 ∧ (x.2.2.1.length + [x7].length) ≤ 9223372036854775807)
 (let x8 : List ByteArray := x.2.2.1 ++ [x7];
 let x9 : Int := w64 (x.1.2.2.2.1 + (1 : Int));
 some (.inl ((x.1.1, (), x9, x9, ()), (), (x8, ()))))))))
 (let x10 : Int := w64 (x.1.2.2.2.1 + (1 : Int));
 some (.inl ((x.1.1, (), x10, x10, ()), (), (x.2.2.1, ())))))))
 (let x11 : Bool := decide (x.1.2.2.2.1 > x.1.2.2.1);
 br x11
 (ck (0 ≤ x.1.2.2.1)
 (ck (0 ≤ x.1.2.2.2.1)
 (ck (x.1.2.2.1.toNat ≤ x.1.2.2.2.1.toNat ∧ x.1.2.2.2.1.toNat ≤ x.1.1.size)
 (let x12 : ByteArray := x.1.1.extract x.1.2.2.1.toNat x.1.2.2.2.1.toNat;
 ck ((x.2.2.1.length + [x12].length) * 16 ≤ 140737488355328 ∧ (x.2.2.1.length + [x12].length) ≤ 9223372036854775807)
 (let x13 : List ByteArray := x.2.2.1 ++ [x12];
 let x14 : Int := w64 (x.1.2.2.2.1 + (1 : Int));
 some (.inl ((x.1.1, (), x14, x14, ()), (), (x13, ()))))))))
 (let x15 : Int := w64 (x.1.2.2.2.1 + (1 : Int));
 some (.inl ((x.1.1, (), x15, x15, ()), (), (x.2.2.1, ()))))))
 (some (.inr (((), ()), (), (x.2.2.1, ()))))
def spec_l6Words_h0 : Sh := ⟨[(0, .c (.str)), (3, .c (.own 0)), (4, .c (.int .i64)), (5, .c (.int .i64))], [], [(0, .str)]⟩
def spec_l6Words_r0 : List Sh := [⟨[(3, .c (.own 0))], [], [(0, .str)]⟩]
noncomputable def spec_l6Words_L0 : Lp := ⟨0, [], spec_l6Words_h0, [], [(.exit 0, [])], spec_l6Words_r0, loopC spec_l6Words_s0⟩
noncomputable def spec_l6Words (a0 : ByteArray) : Option ((Unit × Unit) × Unit × (List ByteArray × Unit)) :=
 (loopC spec_l6Words_s0 ((a0, (), (0 : Int), (0 : Int), ()), (), ([], ()))).bind fun r16 =>
 some (((), ()), (), (r16.2.2.1, ()))
noncomputable def spec_l6Words_C : Ctr := ⟨54, spec_l6Words_arg, spec_l6Words_res, fun x => spec_l6Words x.1.1, none⟩
def spec_l6Words_H : Hint := ⟨[], [], [], fun _ => []⟩
noncomputable def spec_l6Words_T : List Ctr := []
noncomputable def spec_l6Words_Ls : List Lp := [spec_l6Words_L0]
theorem spec_l6Words_l0 : ∀ x, spec_l6Words_s0 x = stepW E0 spec_l6Words_T spec_l6Words_Ls spec_l6Words_H (loopAt (bodyOf Tryz.f54) 0) 0 spec_l6Words_h0 [] [(.exit 0, [])] spec_l6Words_r0 x := fun x => by kernel_rfl
theorem spec_l6Words_e : ∀ x, spec_l6Words_C.F x = runBodyW E0 spec_l6Words_T spec_l6Words_Ls spec_l6Words_H 54 Tryz.f54.results.toList (bodyOf Tryz.f54) [] (spec_l6Words_arg.mk' x) spec_l6Words_res := fun x => by kernel_rfl
theorem spec_l6Words_ok : spec_l6Words_C.Ok E0 := fn_ok (T := spec_l6Words_T) (h := spec_l6Words_H) (Ls := spec_l6Words_Ls) E0_mixed T_nil Tryz.func54 (bodyOf_some (by kernel_rfl)) (by kernel_rfl) (loops_of (ks := [0]) (by kernel_rfl) ⟨(loop_one (h := spec_l6Words_H) (own := []) (head := spec_l6Words_h0) (back := []) (exs := [(.exit 0, [])]) (res := spec_l6Words_r0) (step := spec_l6Words_s0) (by kernel_rfl) spec_l6Words_l0), trivial⟩) spec_l6Words_e
def spec_l6Join_arg : Sh := ⟨[(0, .c (.rd [] .str))], [], []⟩
def spec_l6Join_res : List Sh := [⟨[(0, .c (.str))], [], []⟩]
noncomputable def spec_l6Join_s0 (x : (ByteArray × List ByteArray × Int × Int × Unit) × Unit × Unit) : Option (((ByteArray × List ByteArray × Int × Int × Unit) × Unit × Unit) ⊕ ((ByteArray × Unit) × Unit × Unit)) :=
 let x1 : Bool := decide (x.1.2.2.2.1 < x.1.2.2.1);
 br x1
 (ck (0 ≤ x.1.2.2.2.1)
 (ck (x.1.2.2.2.1.toNat < x.1.2.1.length)
 (let x2 : ByteArray := x.1.2.1.getD x.1.2.2.2.1.toNat ByteArray.empty;
 let x3 : Bool := decide (x.1.2.2.2.1 > (0 : Int));
 br x3
 (ck (((x.1.1.size + (ByteArray.mk #[32]).size : Nat) : Int) ≤ IntKind.i64.max)
 (let x4 : ByteArray := x.1.1 ++ (ByteArray.mk #[32]);
 ck (((x4.size + x2.size : Nat) : Int) ≤ IntKind.i64.max)
 (let x5 : ByteArray := x4 ++ x2;
 let x6 : Int := w64 (x.1.2.2.2.1 + (1 : Int));
 some (.inl ((x5, x.1.2.1, x.1.2.2.1, x6, ()), (), ())))))
 (ck (((x.1.1.size + x2.size : Nat) : Int) ≤ IntKind.i64.max)
 (let x7 : ByteArray := x.1.1 ++ x2;
 let x8 : Int := w64 (x.1.2.2.2.1 + (1 : Int));
 some (.inl ((x7, x.1.2.1, x.1.2.2.1, x8, ()), (), ())))))))
 (some (.inr ((x.1.1, ()), (), ())))
def spec_l6Join_h0 : Sh := ⟨[(3, .c (.str)), (6, .c (.rd [] .str)), (7, .c (.int .i64)), (8, .c (.int .i64))], [], []⟩
def spec_l6Join_r0 : List Sh := [⟨[(3, .c (.str))], [], []⟩]
noncomputable def spec_l6Join_L0 : Lp := ⟨0, [], spec_l6Join_h0, [], [(.exit 0, [])], spec_l6Join_r0, loopC spec_l6Join_s0⟩
noncomputable def spec_l6Join (a0 : List ByteArray) : Option ((ByteArray × Unit) × Unit × Unit) :=
 (loopC spec_l6Join_s0 ((ByteArray.empty, a0, (a0.length : Int), (0 : Int), ()), (), ())).bind fun r9 =>
 some ((r9.1.1, ()), (), ())
noncomputable def spec_l6Join_C : Ctr := ⟨55, spec_l6Join_arg, spec_l6Join_res, fun x => spec_l6Join x.1.1, none⟩
def spec_l6Join_H : Hint := ⟨[], [], [], fun _ => []⟩
noncomputable def spec_l6Join_T : List Ctr := []
noncomputable def spec_l6Join_Ls : List Lp := [spec_l6Join_L0]
theorem spec_l6Join_l0 : ∀ x, spec_l6Join_s0 x = stepW E0 spec_l6Join_T spec_l6Join_Ls spec_l6Join_H (loopAt (bodyOf Tryz.f55) 0) 0 spec_l6Join_h0 [] [(.exit 0, [])] spec_l6Join_r0 x := fun x => by kernel_rfl
theorem spec_l6Join_e : ∀ x, spec_l6Join_C.F x = runBodyW E0 spec_l6Join_T spec_l6Join_Ls spec_l6Join_H 55 Tryz.f55.results.toList (bodyOf Tryz.f55) [] (spec_l6Join_arg.mk' x) spec_l6Join_res := fun x => by kernel_rfl
theorem spec_l6Join_ok : spec_l6Join_C.Ok E0 := fn_ok (T := spec_l6Join_T) (h := spec_l6Join_H) (Ls := spec_l6Join_Ls) E0_mixed T_nil Tryz.func55 (bodyOf_some (by kernel_rfl)) (by kernel_rfl) (loops_of (ks := [0]) (by kernel_rfl) ⟨(loop_one (h := spec_l6Join_H) (own := []) (head := spec_l6Join_h0) (back := []) (exs := [(.exit 0, [])]) (res := spec_l6Join_r0) (step := spec_l6Join_s0) (by kernel_rfl) spec_l6Join_l0), trivial⟩) spec_l6Join_e
def spec_KeyOf_arg : Sh := ⟨[(0, .agg [.str, .rd [] .i64, .rd [] .i64]), (1, .c (.int .i64))], [], []⟩
def spec_KeyOf_res : List Sh := [⟨[(0, .c (.int .i64))], [], []⟩]
noncomputable def spec_KeyOf_s0 (x : (Int × Unit × Int × Unit) × ((ByteArray × List Int × List Int × Unit) × Unit) × Unit) : Option (((Int × Unit × Int × Unit) × ((ByteArray × List Int × List Int × Unit) × Unit) × Unit) ⊕ (((Int × Unit) × Unit × Unit) ⊕ (Unit × Unit × Unit))) :=
 let x2 : Bool := decide (x.1.2.2.1 < (x.2.1.1.1.size : Int));
 br x2
 (ck (0 ≤ x.1.2.2.1 ∧ x.1.2.2.1.toNat < x.2.1.1.1.size)
 (let x3 : Int := byteAt x.2.1.1.1 x.1.2.2.1.toNat;
 let x4 : Int := w64 x3;
 let x5 : Bool := x4 == x.1.1;
 br x5
 (some (.inr (.inl ((x.1.2.2.1, ()), (), ()))))
 (let x6 : Int := w64 (x.1.2.2.1 + (1 : Int));
 some (.inl ((x.1.1, (), x6, ()), ((x.2.1.1.1, x.2.1.1.2.1, x.2.1.1.2.2.1, ()), ()), ())))))
 (some (.inr (.inr ((), (), ()))))
def spec_KeyOf_h0 : Sh := ⟨[(1, .c (.int .i64)), (2, .c (.box 0 0)), (5, .c (.int .i64))], [(0, .cells [.str, .rd [] .i64, .rd [] .i64])], []⟩
def spec_KeyOf_r0 : List Sh := [⟨[(4, .c (.int .i64))], [], []⟩, ⟨[], [], []⟩]
noncomputable def spec_KeyOf_L0 : Lp := ⟨0, [], spec_KeyOf_h0, [], [(.ret, []), (.exit 0, [])], spec_KeyOf_r0, loopC spec_KeyOf_s0⟩
noncomputable def spec_KeyOf (a0_0 : ByteArray) (a0_1 : List Int) (a0_2 : List Int) (a1 : Int) : Option ((Int × Unit) × Unit × Unit) :=
 (spec_FontOk a0_0 a0_1 a0_2).bind fun r1 =>
 br (!r1.1.1)
 (some (((-1 : Int), ()), (), ()))
 ((loopC spec_KeyOf_s0 ((a1, (), (0 : Int), ()), ((a0_0, a0_1, a0_2, ()), ()), ())).bind fun r7 =>
 sumK r7 (fun y10 =>
 some ((y10.1.1, ()), (), ())) (fun y11 =>
 some (((-1 : Int), ()), (), ())))
noncomputable def spec_KeyOf_C : Ctr := ⟨88, spec_KeyOf_arg, spec_KeyOf_res, fun x => spec_KeyOf x.1.1.1 x.1.1.2.1 x.1.1.2.2.1 x.1.2.1, none⟩
def spec_KeyOf_H : Hint := ⟨[], [], [], fun _ => []⟩
noncomputable def spec_KeyOf_T : List Ctr := [spec_FontOk_C]
noncomputable def spec_KeyOf_Ls : List Lp := [spec_KeyOf_L0]
theorem spec_KeyOf_l0 : ∀ x, spec_KeyOf_s0 x = stepW E0 spec_KeyOf_T spec_KeyOf_Ls spec_KeyOf_H (loopAt (bodyOf Tryz.f88) 0) 0 spec_KeyOf_h0 [] [(.ret, []), (.exit 0, [])] spec_KeyOf_r0 x := fun x => by kernel_rfl
theorem spec_KeyOf_e : ∀ x, spec_KeyOf_C.F x = runBodyW E0 spec_KeyOf_T spec_KeyOf_Ls spec_KeyOf_H 88 Tryz.f88.results.toList (bodyOf Tryz.f88) [] (spec_KeyOf_arg.mk' x) spec_KeyOf_res := fun x => by kernel_rfl
theorem spec_KeyOf_ok : spec_KeyOf_C.Ok E0 := fn_ok (T := spec_KeyOf_T) (h := spec_KeyOf_H) (Ls := spec_KeyOf_Ls) E0_mixed (T_cons spec_FontOk_ok T_nil) Tryz.func88 (bodyOf_some (by kernel_rfl)) (by kernel_rfl) (loops_of (ks := [0]) (by kernel_rfl) ⟨(loop_one (h := spec_KeyOf_H) (own := []) (head := spec_KeyOf_h0) (back := []) (exs := [(.ret, []), (.exit 0, [])]) (res := spec_KeyOf_r0) (step := spec_KeyOf_s0) (by kernel_rfl) spec_KeyOf_l0), trivial⟩) spec_KeyOf_e
def spec_WordWidths_arg : Sh := ⟨[(0, .agg [.str, .rd [] .i64, .rd [] .i64]), (1, .c (.str))], [], []⟩
def spec_WordWidths_res : List Sh := [⟨[(0, .c (.own 0)), (1, .c (.bool))], [], [(0, .i64)]⟩]
noncomputable def spec_WordWidths_s2 (x : (Unit × Unit × ByteArray × Int × Int × Unit × Int × Int × Unit) × ((ByteArray × List Int × List Int × Unit) × Unit) × (List Int × List ByteArray × Unit)) : Option (((Unit × Unit × ByteArray × Int × Int × Unit × Int × Int × Unit) × ((ByteArray × List Int × List Int × Unit) × Unit) × (List Int × List ByteArray × Unit)) ⊕ (((Unit × Bool × Unit) × Unit × Unit) ⊕ ((Unit × Unit × Int × Unit × Int × Int × Unit) × ((ByteArray × List Int × List Int × Unit) × Unit) × (List Int × List ByteArray × Unit)))) :=
 let x6 : Bool := decide (x.1.2.2.2.2.1 < (x.1.2.2.1.size : Int));
 br x6
 (ck (0 ≤ x.1.2.2.2.2.1 ∧ x.1.2.2.2.2.1.toNat < x.1.2.2.1.size)
 (let x7 : Int := byteAt x.1.2.2.1 x.1.2.2.2.2.1.toNat;
 let x8 : Int := w64 x7;
 (spec_KeyOf x.2.1.1.1 x.2.1.1.2.1 x.2.1.1.2.2.1 x8).bind fun r9 =>
 let x10 : Bool := decide (r9.1.1 < (0 : Int));
 br x10
 (some (.inr (.inl (((), false, ()), (), ()))))
 (ck (0 ≤ r9.1.1)
 (ck (r9.1.1.toNat < x.2.1.1.2.1.length)
 (let x11 : Int := x.2.1.1.2.1.getD r9.1.1.toNat 0;
 let x12 : Int := w64 (x.1.2.2.2.1 + x11);
 let x13 : Bool := decide (x12 > (2000 : Int));
 br x13
 (some (.inr (.inl (((), false, ()), (), ()))))
 (let x14 : Int := w64 (x.1.2.2.2.2.1 + (1 : Int));
 some (.inl (((), (), x.1.2.2.1, x12, x14, (), x.1.2.2.2.2.2.2.1, x.1.2.2.2.2.2.2.2.1, ()), ((x.2.1.1.1, x.2.1.1.2.1, x.2.1.1.2.2.1, ()), ()), (x.2.2.1, x.2.2.2.1, ())))))))))
 (some (.inr (.inr (((), (), x.1.2.2.2.1, (), x.1.2.2.2.2.2.2.1, x.1.2.2.2.2.2.2.2.1, ()), ((x.2.1.1.1, x.2.1.1.2.1, x.2.1.1.2.2.1, ()), ()), (x.2.2.1, x.2.2.2.1, ())))))
def spec_WordWidths_h2 : Sh := ⟨[(2, .c (.box 0 0)), (7, .c (.own 0)), (9, .c (.str)), (10, .c (.int .i64)), (11, .c (.int .i64)), (25, .c (.own 1)), (26, .c (.int .i64)), (27, .c (.int .i64))], [(0, .cells [.str, .rd [] .i64, .rd [] .i64])], [(0, .i64), (1, .str)]⟩
def spec_WordWidths_r2 : List Sh := [⟨[(4, .c (.nil)), (5, .c (.bool))], [], []⟩, ⟨[(2, .c (.box 0 0)), (7, .c (.own 0)), (10, .c (.int .i64)), (25, .c (.own 1)), (26, .c (.int .i64)), (27, .c (.int .i64))], [(0, .cells [.str, .rd [] .i64, .rd [] .i64])], [(0, .i64), (1, .str)]⟩]
noncomputable def spec_WordWidths_L2 : Lp := ⟨2, [], spec_WordWidths_h2, [], [(.ret, []), (.exit 2, [])], spec_WordWidths_r2, loopC spec_WordWidths_s2⟩
noncomputable def spec_WordWidths_s0 (x : (Unit × Unit × Unit × Int × Int × Unit) × ((ByteArray × List Int × List Int × Unit) × Unit) × (List Int × List ByteArray × Unit)) : Option (((Unit × Unit × Unit × Int × Int × Unit) × ((ByteArray × List Int × List Int × Unit) × Unit) × (List Int × List ByteArray × Unit)) ⊕ (((Unit × Bool × Unit) × Unit × Unit) ⊕ ((Unit × Unit) × Unit × (List Int × Unit)))) :=
 let x4 : Bool := decide (x.1.2.2.2.2.1 < x.1.2.2.2.1);
 br x4
 (ck (0 ≤ x.1.2.2.2.2.1)
 (ck (x.1.2.2.2.2.1.toNat < x.2.2.2.1.length)
 (ck (x.1.2.2.2.2.1.toNat < x.2.2.2.1.length)
 (let x5 : ByteArray := x.2.2.2.1.getD x.1.2.2.2.2.1.toNat ByteArray.empty;
 (loopC spec_WordWidths_s2 (((), (), x5, (0 : Int), (0 : Int), (), x.1.2.2.2.1, x.1.2.2.2.2.1, ()), ((x.2.1.1.1, x.2.1.1.2.1, x.2.1.1.2.2.1, ()), ()), (x.2.2.1, x.2.2.2.1, ()))).bind fun r15 =>
 sumK r15 (fun y18 =>
 some (.inr (.inl (((), y18.1.2.1, ()), (), ())))) (fun y19 =>
 ck ((y19.2.2.1.length + [y19.1.2.2.1].length) * 8 ≤ 140737488355328 ∧ (y19.2.2.1.length + [y19.1.2.2.1].length) ≤ 9223372036854775807)
 (let x20 : List Int := y19.2.2.1 ++ [y19.1.2.2.1];
 let x21 : Int := w64 (y19.1.2.2.2.2.2.1 + (1 : Int));
 some (.inl (((), (), (), y19.1.2.2.2.2.1, x21, ()), ((y19.2.1.1.1, y19.2.1.1.2.1, y19.2.1.1.2.2.1, ()), ()), (x20, y19.2.2.2.1, ())))))))))
 (some (.inr (.inr (((), ()), (), (x.2.2.1, ())))))
def spec_WordWidths_h0 : Sh := ⟨[(2, .c (.box 0 0)), (7, .c (.own 0)), (25, .c (.own 1)), (26, .c (.int .i64)), (27, .c (.int .i64))], [(0, .cells [.str, .rd [] .i64, .rd [] .i64])], [(0, .i64), (1, .str)]⟩
def spec_WordWidths_r0 : List Sh := [⟨[(4, .c (.nil)), (5, .c (.bool))], [], []⟩, ⟨[(7, .c (.own 0))], [], [(0, .i64)]⟩]
noncomputable def spec_WordWidths_L0 : Lp := ⟨0, [], spec_WordWidths_h0, [], [(.ret, []), (.exit 0, [])], spec_WordWidths_r0, loopC spec_WordWidths_s0⟩
noncomputable def spec_WordWidths (a0_0 : ByteArray) (a0_1 : List Int) (a0_2 : List Int) (a1 : ByteArray) : Option ((Unit × Bool × Unit) × Unit × (List Int × Unit)) :=
 (spec_l6Words a1).bind fun r1 =>
 (spec_FontOk a0_0 a0_1 a0_2).bind fun r2 =>
 br (!r2.1.1)
 (some (((), false, ()), (), ([], ())))
 ((spec_l1In (r1.2.2.1.length : Int) (1 : Int) (40 : Int)).bind fun r3 =>
 br (!r3.1.1)
 (some (((), false, ()), (), ([], ())))
 ((loopC spec_WordWidths_s0 (((), (), (), (r1.2.2.1.length : Int), (0 : Int), ()), ((a0_0, a0_1, a0_2, ()), ()), ([], r1.2.2.1, ()))).bind fun r22 =>
 sumK r22 (fun y25 =>
 some (((), y25.1.2.1, ()), (), ([], ()))) (fun y26 =>
 some (((), true, ()), (), (y26.2.2.1, ())))))
noncomputable def spec_WordWidths_C : Ctr := ⟨56, spec_WordWidths_arg, spec_WordWidths_res, fun x => spec_WordWidths x.1.1.1 x.1.1.2.1 x.1.1.2.2.1 x.1.2.1, none⟩
def spec_WordWidths_H : Hint := ⟨[], [], [], fun _ => []⟩
noncomputable def spec_WordWidths_T : List Ctr := [spec_l6Words_C, spec_FontOk_C, spec_l1In_C, spec_KeyOf_C]
noncomputable def spec_WordWidths_Ls : List Lp := [spec_WordWidths_L2, spec_WordWidths_L0]
theorem spec_WordWidths_l0 : ∀ x, spec_WordWidths_s0 x = stepW E0 spec_WordWidths_T spec_WordWidths_Ls spec_WordWidths_H (loopAt (bodyOf Tryz.f56) 0) 0 spec_WordWidths_h0 [] [(.ret, []), (.exit 0, [])] spec_WordWidths_r0 x := fun x => by kernel_rfl
theorem spec_WordWidths_l2 : ∀ x, spec_WordWidths_s2 x = stepW E0 spec_WordWidths_T spec_WordWidths_Ls spec_WordWidths_H (loopAt (bodyOf Tryz.f56) 1) 2 spec_WordWidths_h2 [] [(.ret, []), (.exit 2, [])] spec_WordWidths_r2 x := fun x => by kernel_rfl
theorem spec_WordWidths_e : ∀ x, spec_WordWidths_C.F x = runBodyW E0 spec_WordWidths_T spec_WordWidths_Ls spec_WordWidths_H 56 Tryz.f56.results.toList (bodyOf Tryz.f56) [(.tm 4, 6000000, .i64)] (spec_WordWidths_arg.mk' x) spec_WordWidths_res := fun x => by kernel_rfl
theorem spec_WordWidths_ok : spec_WordWidths_C.Ok E0 := fn_ok (T := spec_WordWidths_T) (h := spec_WordWidths_H) (Ls := spec_WordWidths_Ls) E0_mixed (T_cons spec_l6Words_ok (T_cons spec_FontOk_ok (T_cons spec_l1In_ok (T_cons spec_KeyOf_ok T_nil)))) Tryz.func56 (bodyOf_some (by kernel_rfl)) (by kernel_rfl) (loops_of (ks := [0, 2]) (by kernel_rfl) ⟨(loop_one (h := spec_WordWidths_H) (own := []) (head := spec_WordWidths_h0) (back := []) (exs := [(.ret, []), (.exit 0, [])]) (res := spec_WordWidths_r0) (step := spec_WordWidths_s0) (by kernel_rfl) spec_WordWidths_l0), (loop_one (h := spec_WordWidths_H) (own := []) (head := spec_WordWidths_h2) (back := []) (exs := [(.ret, []), (.exit 2, [])]) (res := spec_WordWidths_r2) (step := spec_WordWidths_s2) (by kernel_rfl) spec_WordWidths_l2), trivial⟩) spec_WordWidths_e
def spec_TextOk_arg : Sh := ⟨[(0, .c (.rd [] .i64))], [], []⟩
def spec_TextOk_res : List Sh := [⟨[(0, .c (.bool))], [], []⟩]
noncomputable def spec_TextOk_s0 (x : (List Int × List Int × Int × Int × Unit) × Unit × Unit) : Option (((List Int × List Int × Int × Int × Unit) × Unit × Unit) ⊕ (((Bool × Unit) × Unit × Unit) ⊕ ((List Int × Unit) × Unit × Unit))) :=
 let x1 : Bool := decide (x.1.2.2.2.1 < x.1.2.2.1);
 br x1
 (ck (0 ≤ x.1.2.2.2.1)
 (ck (x.1.2.2.2.1.toNat < x.1.2.1.length)
 (let x2 : Int := x.1.2.1.getD x.1.2.2.2.1.toNat 0;
 (spec_l1In x2 (1 : Int) (2000 : Int)).bind fun r3 =>
 br (!r3.1.1)
 (some (.inr (.inl ((false, ()), (), ()))))
 (let x4 : Int := w64 (x.1.2.2.2.1 + (1 : Int));
 some (.inl ((x.1.1, x.1.2.1, x.1.2.2.1, x4, ()), (), ()))))))
 (some (.inr (.inr ((x.1.1, ()), (), ()))))
def spec_TextOk_h0 : Sh := ⟨[(0, .c (.rd [] .i64)), (5, .c (.rd [] .i64)), (6, .c (.int .i64)), (7, .c (.int .i64))], [], []⟩
def spec_TextOk_r0 : List Sh := [⟨[(2, .c (.bool))], [], []⟩, ⟨[(0, .c (.rd [] .i64))], [], []⟩]
noncomputable def spec_TextOk_L0 : Lp := ⟨0, [], spec_TextOk_h0, [], [(.ret, []), (.exit 0, [])], spec_TextOk_r0, loopC spec_TextOk_s0⟩
noncomputable def spec_TextOk (a0 : List Int) : Option ((Bool × Unit) × Unit × Unit) :=
 (loopC spec_TextOk_s0 ((a0, a0, (a0.length : Int), (0 : Int), ()), (), ())).bind fun r5 =>
 sumK r5 (fun y8 =>
 some ((y8.1.1, ()), (), ())) (fun y9 =>
 (spec_l1In (y9.1.1.length : Int) (1 : Int) (40 : Int)).bind fun r10 =>
 some ((r10.1.1, ()), (), ()))
noncomputable def spec_TextOk_C : Ctr := ⟨122, spec_TextOk_arg, spec_TextOk_res, fun x => spec_TextOk x.1.1, none⟩
def spec_TextOk_H : Hint := ⟨[], [], [], fun _ => []⟩
noncomputable def spec_TextOk_T : List Ctr := [spec_l1In_C]
noncomputable def spec_TextOk_Ls : List Lp := [spec_TextOk_L0]
theorem spec_TextOk_l0 : ∀ x, spec_TextOk_s0 x = stepW E0 spec_TextOk_T spec_TextOk_Ls spec_TextOk_H (loopAt (bodyOf Tryz.f122) 0) 0 spec_TextOk_h0 [] [(.ret, []), (.exit 0, [])] spec_TextOk_r0 x := fun x => by kernel_rfl
theorem spec_TextOk_e : ∀ x, spec_TextOk_C.F x = runBodyW E0 spec_TextOk_T spec_TextOk_Ls spec_TextOk_H 122 Tryz.f122.results.toList (bodyOf Tryz.f122) [] (spec_TextOk_arg.mk' x) spec_TextOk_res := fun x => by kernel_rfl
theorem spec_TextOk_ok : spec_TextOk_C.Ok E0 := fn_ok (T := spec_TextOk_T) (h := spec_TextOk_H) (Ls := spec_TextOk_Ls) E0_mixed (T_cons spec_l1In_ok T_nil) Tryz.func122 (bodyOf_some (by kernel_rfl)) (by kernel_rfl) (loops_of (ks := [0]) (by kernel_rfl) ⟨(loop_one (h := spec_TextOk_H) (own := []) (head := spec_TextOk_h0) (back := []) (exs := [(.ret, []), (.exit 0, [])]) (res := spec_TextOk_r0) (step := spec_TextOk_s0) (by kernel_rfl) spec_TextOk_l0), trivial⟩) spec_TextOk_e
def spec_l4Ok_arg : Sh := ⟨[(0, .agg [.int .i64, .int .i64, .int .i64]), (1, .c (.rd [] .i64))], [], []⟩
def spec_l4Ok_res : List Sh := [⟨[(0, .c (.bool))], [], []⟩]
noncomputable def spec_l4Ok (a0_0 : Int) (a0_1 : Int) (a0_2 : Int) (a1 : List Int) : Option ((Bool × Unit) × Unit × Unit) :=
 (spec_MeasureOk a0_0 a0_1 a0_2).bind fun r1 =>
 br r1.1.1
 ((spec_TextOk a1).bind fun r2 =>
 some ((r2.1.1, ()), (), ()))
 (some ((false, ()), (), ()))
noncomputable def spec_l4Ok_C : Ctr := ⟨89, spec_l4Ok_arg, spec_l4Ok_res, fun x => spec_l4Ok x.1.1.1 x.1.1.2.1 x.1.1.2.2.1 x.1.2.1, none⟩
def spec_l4Ok_H : Hint := ⟨[], [], [], fun _ => []⟩
noncomputable def spec_l4Ok_T : List Ctr := [spec_MeasureOk_C, spec_TextOk_C]
noncomputable def spec_l4Ok_Ls : List Lp := []
theorem spec_l4Ok_e : ∀ x, spec_l4Ok_C.F x = runBodyW E0 spec_l4Ok_T spec_l4Ok_Ls spec_l4Ok_H 89 Tryz.f89.results.toList (bodyOf Tryz.f89) [] (spec_l4Ok_arg.mk' x) spec_l4Ok_res := fun x => by kernel_rfl
theorem spec_l4Ok_ok : spec_l4Ok_C.Ok E0 := fn_ok (T := spec_l4Ok_T) (h := spec_l4Ok_H) (Ls := spec_l4Ok_Ls) E0_mixed (T_cons spec_MeasureOk_ok (T_cons spec_TextOk_ok T_nil)) Tryz.func89 (bodyOf_some (by kernel_rfl)) (by kernel_rfl) (loops_of (ks := []) (by kernel_rfl) trivial) spec_l4Ok_e
def spec_l4Rest_arg : Sh := ⟨[(0, .agg [.int .i64, .int .i64, .int .i64]), (1, .c (.rd [] .i64))], [], []⟩
def spec_l4Rest_res : List Sh := [⟨[(0, .c (.int .i64)), (1, .c (.int .i64))], [], []⟩]
noncomputable def spec_l4Rest_s0 (x : (List Int × Unit × Int × List Int × Int × Int × Unit) × ((Int × Int × Int × Unit) × Unit) × Unit) : Option (((List Int × Unit × Int × List Int × Int × Int × Unit) × ((Int × Int × Int × Unit) × Unit) × Unit) ⊕ ((List Int × Unit × Int × Unit) × ((Int × Int × Int × Unit) × Unit) × Unit)) :=
 let x1 : Bool := decide (x.1.2.2.2.2.2.1 < x.1.2.2.2.2.1);
 br x1
 (ck (0 ≤ x.1.2.2.2.2.2.1)
 (ck (x.1.2.2.2.2.2.1.toNat < x.1.2.2.2.1.length)
 (let x2 : Int := x.1.2.2.2.1.getD x.1.2.2.2.2.2.1.toNat 0;
 let x3 : Int := w64 (x.1.2.2.1 + x2);
 let x4 : Int := w64 (x.1.2.2.2.2.2.1 + (1 : Int));
 some (.inl ((x.1.1, (), x3, x.1.2.2.2.1, x.1.2.2.2.2.1, x4, ()), ((x.2.1.1.1, x.2.1.1.2.1, x.2.1.1.2.2.1, ()), ()), ())))))
 (some (.inr ((x.1.1, (), x.1.2.2.1, ()), ((x.2.1.1.1, x.2.1.1.2.1, x.2.1.1.2.2.1, ()), ()), ())))
def spec_l4Rest_h0 : Sh := ⟨[(1, .c (.rd [] .i64)), (2, .c (.box 0 0)), (6, .c (.int .i64)), (9, .c (.rd [] .i64)), (10, .c (.int .i64)), (11, .c (.int .i64))], [(0, .cells [.int .i64, .int .i64, .int .i64])], []⟩
def spec_l4Rest_r0 : List Sh := [⟨[(1, .c (.rd [] .i64)), (2, .c (.box 0 0)), (6, .c (.int .i64))], [(0, .cells [.int .i64, .int .i64, .int .i64])], []⟩]
noncomputable def spec_l4Rest_L0 : Lp := ⟨0, [], spec_l4Rest_h0, [], [(.exit 0, [])], spec_l4Rest_r0, loopC spec_l4Rest_s0⟩
noncomputable def spec_l4Rest (a0_0 : Int) (a0_1 : Int) (a0_2 : Int) (a1 : List Int) : Option ((Int × Int × Unit) × Unit × Unit) :=
 (loopC spec_l4Rest_s0 ((a1, (), (0 : Int), a1, (a1.length : Int), (0 : Int), ()), ((a0_0, a0_1, a0_2, ()), ()), ())).bind fun r5 =>
 let x6 : Int := w64 (r5.2.1.1.1 - r5.1.2.2.1);
 let x7 : Int := w64 ((r5.1.1.length : Int) - (1 : Int));
 let x8 : Int := w64 (x7 * r5.2.1.1.2.1);
 let x9 : Int := w64 (x6 - x8);
 some ((x9, x7, ()), (), ())
noncomputable def spec_l4Rest_C : Ctr := ⟨123, spec_l4Rest_arg, spec_l4Rest_res, fun x => spec_l4Rest x.1.1.1 x.1.1.2.1 x.1.1.2.2.1 x.1.2.1, none⟩
def spec_l4Rest_H : Hint := ⟨[], [], [], fun _ => []⟩
noncomputable def spec_l4Rest_T : List Ctr := []
noncomputable def spec_l4Rest_Ls : List Lp := [spec_l4Rest_L0]
theorem spec_l4Rest_l0 : ∀ x, spec_l4Rest_s0 x = stepW E0 spec_l4Rest_T spec_l4Rest_Ls spec_l4Rest_H (loopAt (bodyOf Tryz.f123) 0) 0 spec_l4Rest_h0 [] [(.exit 0, [])] spec_l4Rest_r0 x := fun x => by kernel_rfl
theorem spec_l4Rest_e : ∀ x, spec_l4Rest_C.F x = runBodyW E0 spec_l4Rest_T spec_l4Rest_Ls spec_l4Rest_H 123 Tryz.f123.results.toList (bodyOf Tryz.f123) [] (spec_l4Rest_arg.mk' x) spec_l4Rest_res := fun x => by kernel_rfl
theorem spec_l4Rest_ok : spec_l4Rest_C.Ok E0 := fn_ok (T := spec_l4Rest_T) (h := spec_l4Rest_H) (Ls := spec_l4Rest_Ls) E0_mixed T_nil Tryz.func123 (bodyOf_some (by kernel_rfl)) (by kernel_rfl) (loops_of (ks := [0]) (by kernel_rfl) ⟨(loop_one (h := spec_l4Rest_H) (own := []) (head := spec_l4Rest_h0) (back := []) (exs := [(.exit 0, [])]) (res := spec_l4Rest_r0) (step := spec_l4Rest_s0) (by kernel_rfl) spec_l4Rest_l0), trivial⟩) spec_l4Rest_e
def spec_l4Rise_arg : Sh := ⟨[(0, .agg [.int .i64, .int .i64, .int .i64]), (1, .c (.rd [] .i64))], [], []⟩
def spec_l4Rise_res : List Sh := [⟨[(0, .c (.int .i64))], [], []⟩]
noncomputable def spec_l4Rise (a0_0 : Int) (a0_1 : Int) (a0_2 : Int) (a1 : List Int) : Option ((Int × Unit) × Unit × Unit) :=
 (spec_l4Rest a0_0 a0_1 a0_2 a1).bind fun r1 =>
 let x2 : Bool := r1.1.2.1 == (0 : Int);
 br x2
 (some (((0 : Int), ()), (), ()))
 (ck (r1.1.2.1 ≠ 0)
 (let x3 : Int := w64 (r1.1.1.tdiv r1.1.2.1);
 let x4 : Int := w64 (a0_2 - a0_1);
 let x5 : Int := if x4 < x3 then x4 else x3;
 some ((x5, ()), (), ())))
noncomputable def spec_l4Rise_C : Ctr := ⟨124, spec_l4Rise_arg, spec_l4Rise_res, fun x => spec_l4Rise x.1.1.1 x.1.1.2.1 x.1.1.2.2.1 x.1.2.1, none⟩
def spec_l4Rise_H : Hint := ⟨[], [], [], fun _ => []⟩
noncomputable def spec_l4Rise_T : List Ctr := [spec_l4Rest_C]
noncomputable def spec_l4Rise_Ls : List Lp := []
theorem spec_l4Rise_e : ∀ x, spec_l4Rise_C.F x = runBodyW E0 spec_l4Rise_T spec_l4Rise_Ls spec_l4Rise_H 124 Tryz.f124.results.toList (bodyOf Tryz.f124) [] (spec_l4Rise_arg.mk' x) spec_l4Rise_res := fun x => by kernel_rfl
theorem spec_l4Rise_ok : spec_l4Rise_C.Ok E0 := fn_ok (T := spec_l4Rise_T) (h := spec_l4Rise_H) (Ls := spec_l4Rise_Ls) E0_mixed (T_cons spec_l4Rest_ok T_nil) Tryz.func124 (bodyOf_some (by kernel_rfl)) (by kernel_rfl) (loops_of (ks := []) (by kernel_rfl) trivial) spec_l4Rise_e
def spec_l4Kind_arg : Sh := ⟨[(0, .agg [.int .i64, .int .i64, .int .i64]), (1, .c (.rd [] .i64))], [], []⟩
def spec_l4Kind_res : List Sh := [⟨[(0, .c (.int .i64))], [], []⟩]
noncomputable def spec_l4Kind (a0_0 : Int) (a0_1 : Int) (a0_2 : Int) (a1 : List Int) : Option ((Int × Unit) × Unit × Unit) :=
 (spec_l4Rest a0_0 a0_1 a0_2 a1).bind fun r1 =>
 let x2 : Bool := decide (r1.1.1 < (0 : Int));
 br x2
 (some (((0 : Int), ()), (), ()))
 ((spec_l4Rise a0_0 a0_1 a0_2 a1).bind fun r3 =>
 let x4 : Int := w64 (r1.1.2.1 * r3.1.1);
 let x5 : Int := w64 (r1.1.1 - x4);
 let x6 : Bool := x5 == (0 : Int);
 br x6
 (some (((2 : Int), ()), (), ()))
 (let x7 : Bool := decide (x5 < r1.1.2.1);
 br x7
 (some (((2 : Int), ()), (), ()))
 (some (((1 : Int), ()), (), ()))))
noncomputable def spec_l4Kind_C : Ctr := ⟨90, spec_l4Kind_arg, spec_l4Kind_res, fun x => spec_l4Kind x.1.1.1 x.1.1.2.1 x.1.1.2.2.1 x.1.2.1, none⟩
def spec_l4Kind_H : Hint := ⟨[], [], [], fun _ => []⟩
noncomputable def spec_l4Kind_T : List Ctr := [spec_l4Rest_C, spec_l4Rise_C]
noncomputable def spec_l4Kind_Ls : List Lp := []
theorem spec_l4Kind_e : ∀ x, spec_l4Kind_C.F x = runBodyW E0 spec_l4Kind_T spec_l4Kind_Ls spec_l4Kind_H 90 Tryz.f90.results.toList (bodyOf Tryz.f90) [] (spec_l4Kind_arg.mk' x) spec_l4Kind_res := fun x => by kernel_rfl
theorem spec_l4Kind_ok : spec_l4Kind_C.Ok E0 := fn_ok (T := spec_l4Kind_T) (h := spec_l4Kind_H) (Ls := spec_l4Kind_Ls) E0_mixed (T_cons spec_l4Rest_ok (T_cons spec_l4Rise_ok T_nil)) Tryz.func90 (bodyOf_some (by kernel_rfl)) (by kernel_rfl) (loops_of (ks := []) (by kernel_rfl) trivial) spec_l4Kind_e
def spec_IsBreaking_arg : Sh := ⟨[(0, .agg [.int .i64, .int .i64, .int .i64]), (1, .c (.rd [] .i64)), (2, .c (.rd [] .i64))], [], []⟩
def spec_IsBreaking_res : List Sh := [⟨[(0, .c (.bool))], [], []⟩]
noncomputable def spec_IsBreaking_s0 (x : (List Int × Unit × Int × List Int × Int × Int × Unit) × ((Int × Int × Int × Unit) × Unit) × Unit) : Option (((List Int × Unit × Int × List Int × Int × Int × Unit) × ((Int × Int × Int × Unit) × Unit) × Unit) ⊕ (((Bool × Unit) × Unit × Unit) ⊕ ((List Int × Int × Unit) × Unit × Unit))) :=
 let x2 : Bool := decide (x.1.2.2.2.2.2.1 < x.1.2.2.2.2.1);
 br x2
 (ck (0 ≤ x.1.2.2.2.2.2.1)
 (ck (x.1.2.2.2.2.2.1.toNat < x.1.2.2.2.1.length)
 (let x3 : Int := x.1.2.2.2.1.getD x.1.2.2.2.2.2.1.toNat 0;
 let x4 : Int := w64 ((x.1.1.length : Int) - x.1.2.2.1);
 (spec_l1In x3 (1 : Int) x4).bind fun r5 =>
 br (!r5.1.1)
 (some (.inr (.inl ((false, ()), (), ()))))
 (let x6 : Int := w64 (x.1.2.2.1 + x3);
 ck (0 ≤ x.1.2.2.1)
 (ck (0 ≤ x6)
 (ck (x.1.2.2.1.toNat ≤ x6.toNat ∧ x6.toNat ≤ x.1.1.length)
 (let x7 : List Int := cut x.1.1 x.1.2.2.1.toNat x6.toNat;
 (spec_l4Kind x.2.1.1.1 x.2.1.1.2.1 x.2.1.1.2.2.1 x7).bind fun r8 =>
 let x9 : Bool := r8.1.1 == (0 : Int);
 br x9
 (some (.inr (.inl ((false, ()), (), ()))))
 (let x10 : Bool := r8.1.1 == (1 : Int);
 br x10
 (let x11 : Bool := decide (x6 < (x.1.1.length : Int));
 br x11
 (some (.inr (.inl ((false, ()), (), ()))))
 (let x12 : Int := w64 (x.1.2.2.2.2.2.1 + (1 : Int));
 some (.inl ((x.1.1, (), x6, x.1.2.2.2.1, x.1.2.2.2.2.1, x12, ()), ((x.2.1.1.1, x.2.1.1.2.1, x.2.1.1.2.2.1, ()), ()), ()))))
 (let x13 : Int := w64 (x.1.2.2.2.2.2.1 + (1 : Int));
 some (.inl ((x.1.1, (), x6, x.1.2.2.2.1, x.1.2.2.2.2.1, x13, ()), ((x.2.1.1.1, x.2.1.1.2.1, x.2.1.1.2.2.1, ()), ()), ())))))))))))
 (some (.inr (.inr ((x.1.1, x.1.2.2.1, ()), (), ()))))
def spec_IsBreaking_h0 : Sh := ⟨[(1, .c (.rd [] .i64)), (3, .c (.box 0 0)), (7, .c (.int .i64)), (15, .c (.rd [] .i64)), (16, .c (.int .i64)), (17, .c (.int .i64))], [(0, .cells [.int .i64, .int .i64, .int .i64])], []⟩
def spec_IsBreaking_r0 : List Sh := [⟨[(6, .c (.bool))], [], []⟩, ⟨[(1, .c (.rd [] .i64)), (7, .c (.int .i64))], [], []⟩]
noncomputable def spec_IsBreaking_L0 : Lp := ⟨0, [], spec_IsBreaking_h0, [], [(.ret, []), (.exit 0, [])], spec_IsBreaking_r0, loopC spec_IsBreaking_s0⟩
noncomputable def spec_IsBreaking (a0_0 : Int) (a0_1 : Int) (a0_2 : Int) (a1 : List Int) (a2 : List Int) : Option ((Bool × Unit) × Unit × Unit) :=
 (spec_l4Ok a0_0 a0_1 a0_2 a1).bind fun r1 =>
 br (!r1.1.1)
 (some ((false, ()), (), ()))
 ((loopC spec_IsBreaking_s0 ((a1, (), (0 : Int), a2, (a2.length : Int), (0 : Int), ()), ((a0_0, a0_1, a0_2, ()), ()), ())).bind fun r14 =>
 sumK r14 (fun y17 =>
 some ((y17.1.1, ()), (), ())) (fun y18 =>
 let x19 : Bool := y18.1.2.1 == (y18.1.1.length : Int);
 some ((x19, ()), (), ())))
noncomputable def spec_IsBreaking_C : Ctr := ⟨57, spec_IsBreaking_arg, spec_IsBreaking_res, fun x => spec_IsBreaking x.1.1.1 x.1.1.2.1 x.1.1.2.2.1 x.1.2.1 x.1.2.2.1, none⟩
def spec_IsBreaking_H : Hint := ⟨[], [], [], fun _ => []⟩
noncomputable def spec_IsBreaking_T : List Ctr := [spec_l4Ok_C, spec_l1In_C, spec_l4Kind_C]
noncomputable def spec_IsBreaking_Ls : List Lp := [spec_IsBreaking_L0]
theorem spec_IsBreaking_l0 : ∀ x, spec_IsBreaking_s0 x = stepW E0 spec_IsBreaking_T spec_IsBreaking_Ls spec_IsBreaking_H (loopAt (bodyOf Tryz.f57) 0) 0 spec_IsBreaking_h0 [] [(.ret, []), (.exit 0, [])] spec_IsBreaking_r0 x := fun x => by kernel_rfl
theorem spec_IsBreaking_e : ∀ x, spec_IsBreaking_C.F x = runBodyW E0 spec_IsBreaking_T spec_IsBreaking_Ls spec_IsBreaking_H 57 Tryz.f57.results.toList (bodyOf Tryz.f57) [] (spec_IsBreaking_arg.mk' x) spec_IsBreaking_res := fun x => by kernel_rfl
theorem spec_IsBreaking_ok : spec_IsBreaking_C.Ok E0 := fn_ok (T := spec_IsBreaking_T) (h := spec_IsBreaking_H) (Ls := spec_IsBreaking_Ls) E0_mixed (T_cons spec_l4Ok_ok (T_cons spec_l1In_ok (T_cons spec_l4Kind_ok T_nil))) Tryz.func57 (bodyOf_some (by kernel_rfl)) (by kernel_rfl) (loops_of (ks := [0]) (by kernel_rfl) ⟨(loop_one (h := spec_IsBreaking_H) (own := []) (head := spec_IsBreaking_h0) (back := []) (exs := [(.ret, []), (.exit 0, [])]) (res := spec_IsBreaking_r0) (step := spec_IsBreaking_s0) (by kernel_rfl) spec_IsBreaking_l0), trivial⟩) spec_IsBreaking_e
def spec_GalleyOk_arg : Sh := ⟨[(0, .agg [.str, .rd [] .i64, .rd [] .i64]), (1, .agg [.int .i64, .int .i64, .int .i64]), (2, .c (.rd [] .str))], [], []⟩
def spec_GalleyOk_res : List Sh := [⟨[(0, .c (.bool))], [], []⟩]
noncomputable def spec_GalleyOk_s0 (x : (List ByteArray × Unit × Unit × Unit × List ByteArray × Int × Int × Unit) × ((ByteArray × List Int × List Int × Unit) × (Int × Int × Int × Unit) × Unit) × (List Int × Unit)) : Option (((List ByteArray × Unit × Unit × Unit × List ByteArray × Int × Int × Unit) × ((ByteArray × List Int × List Int × Unit) × (Int × Int × Int × Unit) × Unit) × (List Int × Unit)) ⊕ (((Bool × Unit) × Unit × Unit) ⊕ ((List ByteArray × Unit × Unit × Unit × Unit) × ((ByteArray × List Int × List Int × Unit) × (Int × Int × Int × Unit) × Unit) × (List Int × Unit)))) :=
 let x1 : Bool := decide (x.1.2.2.2.2.2.2.1 < x.1.2.2.2.2.2.1);
 br x1
 (ck (0 ≤ x.1.2.2.2.2.2.2.1)
 (ck (x.1.2.2.2.2.2.2.1.toNat < x.1.2.2.2.2.1.length)
 (let x2 : ByteArray := x.1.2.2.2.2.1.getD x.1.2.2.2.2.2.2.1.toNat ByteArray.empty;
 (spec_l6Words x2).bind fun r3 =>
 (spec_l6Join r3.2.2.1).bind fun r4 =>
 let x5 : Bool := !strEq r4.1.1 x2;
 br x5
 (some (.inr (.inl ((false, ()), (), ()))))
 (ck ((x.2.2.1.length + [(r3.2.2.1.length : Int)].length) * 8 ≤ 140737488355328 ∧ (x.2.2.1.length + [(r3.2.2.1.length : Int)].length) ≤ 9223372036854775807)
 (let x6 : List Int := x.2.2.1 ++ [(r3.2.2.1.length : Int)];
 let x7 : Int := w64 (x.1.2.2.2.2.2.2.1 + (1 : Int));
 some (.inl ((x.1.1, (), (), (), x.1.2.2.2.2.1, x.1.2.2.2.2.2.1, x7, ()), ((x.2.1.1.1, x.2.1.1.2.1, x.2.1.1.2.2.1, ()), (x.2.1.2.1.1, x.2.1.2.1.2.1, x.2.1.2.1.2.2.1, ()), ()), (x6, ()))))))))
 (some (.inr (.inr ((x.1.1, (), (), (), ()), ((x.2.1.1.1, x.2.1.1.2.1, x.2.1.1.2.2.1, ()), (x.2.1.2.1.1, x.2.1.2.1.2.1, x.2.1.2.1.2.2.1, ()), ()), (x.2.2.1, ())))))
def spec_GalleyOk_h0 : Sh := ⟨[(2, .c (.rd [] .str)), (3, .c (.box 0 0)), (4, .c (.box 1 0)), (7, .c (.own 0)), (14, .c (.rd [] .str)), (15, .c (.int .i64)), (16, .c (.int .i64))], [(0, .cells [.str, .rd [] .i64, .rd [] .i64]), (1, .cells [.int .i64, .int .i64, .int .i64])], [(0, .i64)]⟩
def spec_GalleyOk_r0 : List Sh := [⟨[(6, .c (.bool))], [], []⟩, ⟨[(2, .c (.rd [] .str)), (3, .c (.box 0 0)), (4, .c (.box 1 0)), (7, .c (.own 0))], [(0, .cells [.str, .rd [] .i64, .rd [] .i64]), (1, .cells [.int .i64, .int .i64, .int .i64])], [(0, .i64)]⟩]
noncomputable def spec_GalleyOk_L0 : Lp := ⟨0, [], spec_GalleyOk_h0, [], [(.ret, []), (.exit 0, [])], spec_GalleyOk_r0, loopC spec_GalleyOk_s0⟩
noncomputable def spec_GalleyOk (a0_0 : ByteArray) (a0_1 : List Int) (a0_2 : List Int) (a1_0 : Int) (a1_1 : Int) (a1_2 : Int) (a2 : List ByteArray) : Option ((Bool × Unit) × Unit × Unit) :=
 (loopC spec_GalleyOk_s0 ((a2, (), (), (), a2, (a2.length : Int), (0 : Int), ()), ((a0_0, a0_1, a0_2, ()), (a1_0, a1_1, a1_2, ()), ()), ([], ()))).bind fun r8 =>
 sumK r8 (fun y11 =>
 some ((y11.1.1, ()), (), ())) (fun y12 =>
 (spec_l6Join y12.1.1).bind fun r13 =>
 (spec_WordWidths y12.2.1.1.1 y12.2.1.1.2.1 y12.2.1.1.2.2.1 r13.1.1).bind fun r14 =>
 br r14.1.2.1
 ((spec_IsBreaking y12.2.1.2.1.1 y12.2.1.2.1.2.1 y12.2.1.2.1.2.2.1 r14.2.2.1 y12.2.2.1).bind fun r15 =>
 some ((r15.1.1, ()), (), ()))
 (some ((false, ()), (), ())))
noncomputable def spec_GalleyOk_C : Ctr := ⟨25, spec_GalleyOk_arg, spec_GalleyOk_res, fun x => spec_GalleyOk x.1.1.1 x.1.1.2.1 x.1.1.2.2.1 x.1.2.1.1 x.1.2.1.2.1 x.1.2.1.2.2.1 x.1.2.2.1, none⟩
def spec_GalleyOk_H : Hint := ⟨[], [], [], fun _ => []⟩
noncomputable def spec_GalleyOk_T : List Ctr := [spec_l6Words_C, spec_l6Join_C, spec_WordWidths_C, spec_IsBreaking_C]
noncomputable def spec_GalleyOk_Ls : List Lp := [spec_GalleyOk_L0]
theorem spec_GalleyOk_l0 : ∀ x, spec_GalleyOk_s0 x = stepW E0 spec_GalleyOk_T spec_GalleyOk_Ls spec_GalleyOk_H (loopAt (bodyOf Tryz.f25) 0) 0 spec_GalleyOk_h0 [] [(.ret, []), (.exit 0, [])] spec_GalleyOk_r0 x := fun x => by kernel_rfl
theorem spec_GalleyOk_e : ∀ x, spec_GalleyOk_C.F x = runBodyW E0 spec_GalleyOk_T spec_GalleyOk_Ls spec_GalleyOk_H 25 Tryz.f25.results.toList (bodyOf Tryz.f25) [] (spec_GalleyOk_arg.mk' x) spec_GalleyOk_res := fun x => by kernel_rfl
theorem spec_GalleyOk_ok : spec_GalleyOk_C.Ok E0 := fn_ok (T := spec_GalleyOk_T) (h := spec_GalleyOk_H) (Ls := spec_GalleyOk_Ls) E0_mixed (T_cons spec_l6Words_ok (T_cons spec_l6Join_ok (T_cons spec_WordWidths_ok (T_cons spec_IsBreaking_ok T_nil)))) Tryz.func25 (bodyOf_some (by kernel_rfl)) (by kernel_rfl) (loops_of (ks := [0]) (by kernel_rfl) ⟨(loop_one (h := spec_GalleyOk_H) (own := []) (head := spec_GalleyOk_h0) (back := []) (exs := [(.ret, []), (.exit 0, [])]) (res := spec_GalleyOk_r0) (step := spec_GalleyOk_s0) (by kernel_rfl) spec_GalleyOk_l0), trivial⟩) spec_GalleyOk_e
def spec_l2Copy_arg : Sh := ⟨[(0, .c (.rd [] .mats))], [], []⟩
def spec_l2Copy_res : List Sh := [⟨[(0, .c (.own 0))], [], [(0, .mats)]⟩]
noncomputable def spec_l2Copy_s0 (x : (Unit × List (List (Int × Int)) × Int × Int × Unit) × Unit × (List (List (Int × Int)) × Unit)) : Option (((Unit × List (List (Int × Int)) × Int × Int × Unit) × Unit × (List (List (Int × Int)) × Unit)) ⊕ ((Unit × Unit) × Unit × (List (List (Int × Int)) × Unit))) :=
 let x1 : Bool := decide (x.1.2.2.2.1 < x.1.2.2.1);
 br x1
 (ck (0 ≤ x.1.2.2.2.1)
 (ck (x.1.2.2.2.1.toNat < x.1.2.1.length)
 (let x2 : List (Int × Int) := x.1.2.1.getD x.1.2.2.2.1.toNat [];
 ck ((([] : List Int).length + x2.length) * 16 ≤ 140737488355328 ∧ (([] : List Int).length + x2.length) ≤ 9223372036854775807)
 (let x3 : List (Int × Int) := [] ++ x2;
 ck ((x.2.2.1.length + 1) * 24 ≤ 140737488355328 ∧ (x.2.2.1.length + 1) ≤ 9223372036854775807)
 (let x4 : List (List (Int × Int)) := x.2.2.1 ++ [x3];
 let x5 : Int := w64 (x.1.2.2.2.1 + (1 : Int));
 some (.inl (((), x.1.2.1, x.1.2.2.1, x5, ()), (), (x4, ()))))))))
 (some (.inr (((), ()), (), (x.2.2.1, ()))))
def spec_l2Copy_h0 : Sh := ⟨[(3, .c (.own 0)), (7, .c (.rd [] .mats)), (8, .c (.int .i64)), (9, .c (.int .i64))], [], [(0, .mats)]⟩
def spec_l2Copy_r0 : List Sh := [⟨[(3, .c (.own 0))], [], [(0, .mats)]⟩]
noncomputable def spec_l2Copy_L0 : Lp := ⟨0, [], spec_l2Copy_h0, [], [(.exit 0, [])], spec_l2Copy_r0, loopC spec_l2Copy_s0⟩
noncomputable def spec_l2Copy (a0 : List (List (Int × Int))) : Option ((Unit × Unit) × Unit × (List (List (Int × Int)) × Unit)) :=
 (loopC spec_l2Copy_s0 (((), a0, (a0.length : Int), (0 : Int), ()), (), ([], ()))).bind fun r6 =>
 some (((), ()), (), (r6.2.2.1, ()))
noncomputable def spec_l2Copy_C : Ctr := ⟨106, spec_l2Copy_arg, spec_l2Copy_res, fun x => spec_l2Copy x.1.1, none⟩
def spec_l2Copy_H : Hint := ⟨[], [], [], fun _ => []⟩
noncomputable def spec_l2Copy_T : List Ctr := []
noncomputable def spec_l2Copy_Ls : List Lp := [spec_l2Copy_L0]
theorem spec_l2Copy_l0 : ∀ x, spec_l2Copy_s0 x = stepW E0 spec_l2Copy_T spec_l2Copy_Ls spec_l2Copy_H (loopAt (bodyOf Tryz.f106) 0) 0 spec_l2Copy_h0 [] [(.exit 0, [])] spec_l2Copy_r0 x := fun x => by kernel_rfl
theorem spec_l2Copy_e : ∀ x, spec_l2Copy_C.F x = runBodyW E0 spec_l2Copy_T spec_l2Copy_Ls spec_l2Copy_H 106 Tryz.f106.results.toList (bodyOf Tryz.f106) [] (spec_l2Copy_arg.mk' x) spec_l2Copy_res := fun x => by kernel_rfl
theorem spec_l2Copy_ok : spec_l2Copy_C.Ok E0 := fn_ok (T := spec_l2Copy_T) (h := spec_l2Copy_H) (Ls := spec_l2Copy_Ls) E0_mixed T_nil Tryz.func106 (bodyOf_some (by kernel_rfl)) (by kernel_rfl) (loops_of (ks := [0]) (by kernel_rfl) ⟨(loop_one (h := spec_l2Copy_H) (own := []) (head := spec_l2Copy_h0) (back := []) (exs := [(.exit 0, [])]) (res := spec_l2Copy_r0) (step := spec_l2Copy_s0) (by kernel_rfl) spec_l2Copy_l0), trivial⟩) spec_l2Copy_e
def spec_l5Copy_arg : Sh := ⟨[(0, .agg [.str, .rd [] .i64, .rd [] .i64, .rd [] .mats, .int .i64, .int .i64, .int .i64, .int .i64, .rd [] .mat, .rd [] .mat])], [], []⟩
def spec_l5Copy_res : List Sh := [⟨[(0, .agg [.str, .own 0, .own 1, .own 2, .int .i64, .int .i64, .int .i64, .int .i64, .own 3, .own 4])], [], [(0, .i64), (1, .i64), (2, .mats), (3, .mat), (4, .mat)]⟩]
noncomputable def spec_l5Copy (a0_0 : ByteArray) (a0_1 : List Int) (a0_2 : List Int) (a0_3 : List (List (Int × Int))) (a0_4 : Int) (a0_5 : Int) (a0_6 : Int) (a0_7 : Int) (a0_8 : List (Int × Int)) (a0_9 : List (Int × Int)) : Option (((ByteArray × Unit × Unit × Unit × Int × Int × Int × Int × Unit × Unit × Unit) × Unit) × Unit × (List Int × List Int × List (List (Int × Int)) × List (Int × Int) × List (Int × Int) × Unit)) :=
 ck ((([] : List Int).length + a0_1.length) * 8 ≤ 140737488355328 ∧ (([] : List Int).length + a0_1.length) ≤ 9223372036854775807)
 (let x1 : List Int := [] ++ a0_1;
 ck ((([] : List Int).length + a0_2.length) * 8 ≤ 140737488355328 ∧ (([] : List Int).length + a0_2.length) ≤ 9223372036854775807)
 (let x2 : List Int := [] ++ a0_2;
 (spec_l2Copy a0_3).bind fun r3 =>
 ck ((([] : List Int).length + a0_8.length) * 16 ≤ 140737488355328 ∧ (([] : List Int).length + a0_8.length) ≤ 9223372036854775807)
 (let x4 : List (Int × Int) := [] ++ a0_8;
 ck ((([] : List Int).length + a0_9.length) * 16 ≤ 140737488355328 ∧ (([] : List Int).length + a0_9.length) ≤ 9223372036854775807)
 (let x5 : List (Int × Int) := [] ++ a0_9;
 some (((a0_0, (), (), (), a0_4, a0_5, a0_6, a0_7, (), (), ()), ()), (), (x1, x2, r3.2.2.1, x4, x5, ()))))))
noncomputable def spec_l5Copy_C : Ctr := ⟨72, spec_l5Copy_arg, spec_l5Copy_res, fun x => spec_l5Copy x.1.1.1 x.1.1.2.1 x.1.1.2.2.1 x.1.1.2.2.2.1 x.1.1.2.2.2.2.1 x.1.1.2.2.2.2.2.1 x.1.1.2.2.2.2.2.2.1 x.1.1.2.2.2.2.2.2.2.1 x.1.1.2.2.2.2.2.2.2.2.1 x.1.1.2.2.2.2.2.2.2.2.2.1, none⟩
def spec_l5Copy_H : Hint := ⟨[], [], [], fun _ => []⟩
noncomputable def spec_l5Copy_T : List Ctr := [spec_l2Copy_C]
noncomputable def spec_l5Copy_Ls : List Lp := []
theorem spec_l5Copy_e : ∀ x, spec_l5Copy_C.F x = runBodyW E0 spec_l5Copy_T spec_l5Copy_Ls spec_l5Copy_H 72 Tryz.f72.results.toList (bodyOf Tryz.f72) [] (spec_l5Copy_arg.mk' x) spec_l5Copy_res := fun x => by kernel_rfl
theorem spec_l5Copy_ok : spec_l5Copy_C.Ok E0 := fn_ok (T := spec_l5Copy_T) (h := spec_l5Copy_H) (Ls := spec_l5Copy_Ls) E0_mixed (T_cons spec_l2Copy_ok T_nil) Tryz.func72 (bodyOf_some (by kernel_rfl)) (by kernel_rfl) (loops_of (ks := []) (by kernel_rfl) trivial) spec_l5Copy_e
def spec_TakeMatrix_arg : Sh := ⟨[(0, .agg [.str, .rd [] .i64, .rd [] .i64]), (1, .c (.rd [] .mats)), (2, .c (.int .i64))], [], []⟩
def spec_TakeMatrix_res : List Sh := [⟨[(0, .c (.own 0)), (1, .agg [.int .i64, .int .i64]), (2, .c (.bool))], [], [(0, .mats)]⟩]
noncomputable def spec_TakeMatrix (a0_0 : ByteArray) (a0_1 : List Int) (a0_2 : List Int) (a1 : List (List (Int × Int))) (a2 : Int) : Option ((Unit × (Int × Int × Unit) × Bool × Unit) × Unit × (List (List (Int × Int)) × Unit)) :=
 (spec_MagazineOk a0_0 a0_1 a0_2 a1).bind fun r1 =>
 br (!r1.1.1)
 (some (((), ((0 : Int), (0 : Int), ()), false, ()), (), ([], ())))
 (let x2 : Int := w64 ((a1.length : Int) - (1 : Int));
 (spec_l1In a2 (0 : Int) x2).bind fun r3 =>
 br (!r3.1.1)
 (some (((), ((0 : Int), (0 : Int), ()), false, ()), (), ([], ())))
 (ck (0 ≤ a2)
 (ck (a2.toNat < a1.length)
 (let x4 : List (Int × Int) := a1.getD a2.toNat [];
 let x5 : Bool := (x4.length : Int) == (0 : Int);
 br x5
 (some (((), ((0 : Int), (0 : Int), ()), false, ()), (), ([], ())))
 ((spec_l2Copy a1).bind fun r6 =>
 ck (0 ≤ a2)
 (ck (a2.toNat < r6.2.2.1.length)
 (ck (a2.toNat < r6.2.2.1.length)
 (ck (a2.toNat < r6.2.2.1.length ∧ 0 < (r6.2.2.1.getD a2.toNat []).length)
 (ck (a2.toNat < r6.2.2.1.length ∧ 0 < (r6.2.2.1.getD a2.toNat []).length)
 (let x7 : Int := ((r6.2.2.1.getD a2.toNat []).getD 0 (0, 0)).1;
 let x8 : Int := ((r6.2.2.1.getD a2.toNat []).getD 0 (0, 0)).2;
 ck (0 ≤ a2)
 (ck (a2.toNat < r6.2.2.1.length)
 (ck (a2.toNat < r6.2.2.1.length)
 (ck (a2.toNat < r6.2.2.1.length)
 (let x9 : List (Int × Int) := r6.2.2.1.getD a2.toNat [];
 ck (1 ≤ x9.length ∧ x9.length ≤ x9.length)
 (let x10 : List (Int × Int) := cut x9 1 x9.length;
 ck (0 ≤ a2)
 (ck (a2.toNat < r6.2.2.1.length)
 (ck (a2.toNat = a2.toNat ∧ a2.toNat < r6.2.2.1.length)
 (let x11 : List (List (Int × Int)) := r6.2.2.1.set a2.toNat x10;
 some (((), (x7, x8, ()), true, ()), (), (x11, ()))))))))))))))))))))
noncomputable def spec_TakeMatrix_C : Ctr := ⟨138, spec_TakeMatrix_arg, spec_TakeMatrix_res, fun x => spec_TakeMatrix x.1.1.1 x.1.1.2.1 x.1.1.2.2.1 x.1.2.1 x.1.2.2.1, none⟩
def spec_TakeMatrix_H : Hint := ⟨[45], [], [], fun _ => []⟩
noncomputable def spec_TakeMatrix_T : List Ctr := [spec_MagazineOk_C, spec_l1In_C, spec_l2Copy_C]
noncomputable def spec_TakeMatrix_Ls : List Lp := []
theorem spec_TakeMatrix_e : ∀ x, spec_TakeMatrix_C.F x = runBodyW E0 spec_TakeMatrix_T spec_TakeMatrix_Ls spec_TakeMatrix_H 138 Tryz.f138.results.toList (bodyOf Tryz.f138) [(.tm 6, 6000000, .mats)] (spec_TakeMatrix_arg.mk' x) spec_TakeMatrix_res := fun x => by kernel_rfl
theorem spec_TakeMatrix_ok : spec_TakeMatrix_C.Ok E0 := fn_ok (T := spec_TakeMatrix_T) (h := spec_TakeMatrix_H) (Ls := spec_TakeMatrix_Ls) E0_mixed (T_cons spec_MagazineOk_ok (T_cons spec_l1In_ok (T_cons spec_l2Copy_ok T_nil))) Tryz.func138 (bodyOf_some (by kernel_rfl)) (by kernel_rfl) (loops_of (ks := []) (by kernel_rfl) trivial) spec_TakeMatrix_e
def spec_l5Key_arg : Sh := ⟨[(0, .agg [.str, .rd [] .i64, .rd [] .i64, .rd [] .mats, .int .i64, .int .i64, .int .i64, .int .i64, .rd [] .mat, .rd [] .mat]), (1, .c (.int .i64))], [], []⟩
def spec_l5Key_res : List Sh := [⟨[(0, .agg [.str, .unk, .unk, .unk, .int .i64, .int .i64, .int .i64, .int .i64, .unk, .unk]), (1, .c (.lit false))], [], []⟩, ⟨[(0, .agg [.str, .own 0, .own 1, .own 2, .int .i64, .int .i64, .int .i64, .int .i64, .own 3, .own 4]), (1, .c (.lit true))], [], [(0, .i64), (1, .i64), (2, .mats), (3, .mat), (4, .mat)]⟩]
noncomputable def spec_l5Key (a0_0 : ByteArray) (a0_1 : List Int) (a0_2 : List Int) (a0_3 : List (List (Int × Int))) (a0_4 : Int) (a0_5 : Int) (a0_6 : Int) (a0_7 : Int) (a0_8 : List (Int × Int)) (a0_9 : List (Int × Int)) (a1 : Int) : Option ((((ByteArray × Unit × Unit × Unit × Int × Int × Int × Int × Unit × Unit × Unit) × Unit × Unit) × Unit × Unit) ⊕ (((ByteArray × Unit × Unit × Unit × Int × Int × Int × Int × Unit × Unit × Unit) × Unit × Unit) × Unit × (List Int × List Int × List (List (Int × Int)) × List (Int × Int) × List (Int × Int) × Unit))) :=
 (spec_l5Copy a0_0 a0_1 a0_2 a0_3 a0_4 a0_5 a0_6 a0_7 a0_8 a0_9).bind fun r1 =>
 let x2 : Bool := a1 == (32 : Int);
 br x2
 (let x3 : Int := w64 (r1.1.1.2.2.2.2.1 - (1 : Int));
 ck ((r1.2.2.2.2.2.1.length + [((-1 : Int), (0 : Int))].length) * 16 ≤ 140737488355328 ∧ (r1.2.2.2.2.2.1.length + [((-1 : Int), (0 : Int))].length) ≤ 9223372036854775807)
 (let x4 : List (Int × Int) := r1.2.2.2.2.2.1 ++ [((-1 : Int), (0 : Int))];
 (spec_MachineOk r1.1.1.1 r1.2.2.1 r1.2.2.2.1 r1.2.2.2.2.1 x3 r1.1.1.2.2.2.2.2.1 r1.1.1.2.2.2.2.2.2.1 r1.1.1.2.2.2.2.2.2.2.1 x4 r1.2.2.2.2.2.2.1).bind fun r5 =>
 br (!r5.1.1)
 (some (.inl (((a0_0, (), (), (), a0_4, a0_5, a0_6, a0_7, (), (), ()), (), ()), (), ())))
 (some (.inr (((r1.1.1.1, (), (), (), x3, r1.1.1.2.2.2.2.2.1, r1.1.1.2.2.2.2.2.2.1, r1.1.1.2.2.2.2.2.2.2.1, (), (), ()), (), ()), (), (r1.2.2.1, r1.2.2.2.1, r1.2.2.2.2.1, x4, r1.2.2.2.2.2.2.1, ()))))))
 ((spec_KeyOf a0_0 a0_1 a0_2 a1).bind fun r6 =>
 (spec_TakeMatrix a0_0 a0_1 a0_2 a0_3 r6.1.1).bind fun r7 =>
 br (!r7.1.2.2.1)
 (some (.inl (((a0_0, (), (), (), a0_4, a0_5, a0_6, a0_7, (), (), ()), (), ()), (), ())))
 (ck ((r1.2.2.2.2.2.1.length + [(r7.1.2.1.1, r7.1.2.1.2.1)].length) * 16 ≤ 140737488355328 ∧ (r1.2.2.2.2.2.1.length + [(r7.1.2.1.1, r7.1.2.1.2.1)].length) ≤ 9223372036854775807)
 (let x8 : List (Int × Int) := r1.2.2.2.2.2.1 ++ [(r7.1.2.1.1, r7.1.2.1.2.1)];
 (spec_MachineOk r1.1.1.1 r1.2.2.1 r1.2.2.2.1 r7.2.2.1 r1.1.1.2.2.2.2.1 r1.1.1.2.2.2.2.2.1 r1.1.1.2.2.2.2.2.2.1 r1.1.1.2.2.2.2.2.2.2.1 x8 r1.2.2.2.2.2.2.1).bind fun r9 =>
 br (!r9.1.1)
 (some (.inl (((a0_0, (), (), (), a0_4, a0_5, a0_6, a0_7, (), (), ()), (), ()), (), ())))
 (some (.inr (((r1.1.1.1, (), (), (), r1.1.1.2.2.2.2.1, r1.1.1.2.2.2.2.2.1, r1.1.1.2.2.2.2.2.2.1, r1.1.1.2.2.2.2.2.2.2.1, (), (), ()), (), ()), (), (r1.2.2.1, r1.2.2.2.1, r7.2.2.1, x8, r1.2.2.2.2.2.2.1, ())))))))
noncomputable def spec_l5Key_C : Ctr := ⟨107, spec_l5Key_arg, spec_l5Key_res, fun x => spec_l5Key x.1.1.1 x.1.1.2.1 x.1.1.2.2.1 x.1.1.2.2.2.1 x.1.1.2.2.2.2.1 x.1.1.2.2.2.2.2.1 x.1.1.2.2.2.2.2.2.1 x.1.1.2.2.2.2.2.2.2.1 x.1.1.2.2.2.2.2.2.2.2.1 x.1.1.2.2.2.2.2.2.2.2.2.1 x.1.2.1, none⟩
def spec_l5Key_H : Hint := ⟨[], [], [], fun _ => []⟩
noncomputable def spec_l5Key_T : List Ctr := [spec_l5Copy_C, spec_MachineOk_C, spec_KeyOf_C, spec_TakeMatrix_C]
noncomputable def spec_l5Key_Ls : List Lp := []
theorem spec_l5Key_e : ∀ x, spec_l5Key_C.F x = runBodyW E0 spec_l5Key_T spec_l5Key_Ls spec_l5Key_H 107 Tryz.f107.results.toList (bodyOf Tryz.f107) [] (spec_l5Key_arg.mk' x) spec_l5Key_res := fun x => by kernel_rfl
theorem spec_l5Key_ok : spec_l5Key_C.Ok E0 := fn_ok (T := spec_l5Key_T) (h := spec_l5Key_H) (Ls := spec_l5Key_Ls) E0_mixed (T_cons spec_l5Copy_ok (T_cons spec_MachineOk_ok (T_cons spec_KeyOf_ok (T_cons spec_TakeMatrix_ok T_nil)))) Tryz.func107 (bodyOf_some (by kernel_rfl)) (by kernel_rfl) (loops_of (ks := []) (by kernel_rfl) trivial) spec_l5Key_e
def spec_KeyText_arg : Sh := ⟨[(0, .agg [.str, .rd [] .i64, .rd [] .i64, .rd [] .mats, .int .i64, .int .i64, .int .i64, .int .i64, .rd [] .mat, .rd [] .mat]), (1, .c (.str))], [], []⟩
def spec_KeyText_res : List Sh := [⟨[(0, .agg [.str, .own 0, .own 1, .own 2, .int .i64, .int .i64, .int .i64, .int .i64, .own 3, .own 4]), (1, .c (.int .i64))], [], [(0, .i64), (1, .i64), (2, .mats), (3, .mat), (4, .mat)]⟩]
noncomputable def spec_KeyText_s0 (x : (ByteArray × Unit × Unit × Int × Unit) × ((ByteArray × Unit × Unit × Unit × Int × Int × Int × Int × Unit × Unit × Unit) × (ByteArray × Unit × Unit × Unit × Int × Int × Int × Int × Unit × Unit × Unit) × Unit) × (List Int × List Int × List (List (Int × Int)) × List (Int × Int) × List (Int × Int) × Unit)) : Option (((ByteArray × Unit × Unit × Int × Unit) × ((ByteArray × Unit × Unit × Unit × Int × Int × Int × Int × Unit × Unit × Unit) × (ByteArray × Unit × Unit × Unit × Int × Int × Int × Int × Unit × Unit × Unit) × Unit) × (List Int × List Int × List (List (Int × Int)) × List (Int × Int) × List (Int × Int) × Unit)) ⊕ (((Unit × Int × Unit) × ((ByteArray × Unit × Unit × Unit × Int × Int × Int × Int × Unit × Unit × Unit) × Unit) × (List Int × List Int × List (List (Int × Int)) × List (Int × Int) × List (Int × Int) × Unit)) ⊕ ((ByteArray × Unit × Unit × Unit) × ((ByteArray × Unit × Unit × Unit × Int × Int × Int × Int × Unit × Unit × Unit) × (ByteArray × Unit × Unit × Unit × Int × Int × Int × Int × Unit × Unit × Unit) × Unit) × (List Int × List Int × List (List (Int × Int)) × List (Int × Int) × List (Int × Int) × Unit)))) :=
 let x3 : Bool := decide (x.1.2.2.2.1 < (x.1.1.size : Int));
 br x3
 (ck (0 ≤ x.1.2.2.2.1 ∧ x.1.2.2.2.1.toNat < x.1.1.size)
 (let x4 : Int := byteAt x.1.1 x.1.2.2.2.1.toNat;
 let x5 : Int := w64 x4;
 (spec_l5Key x.2.1.1.1 x.2.2.1 x.2.2.2.1 x.2.2.2.2.1 x.2.1.1.2.2.2.2.1 x.2.1.1.2.2.2.2.2.1 x.2.1.1.2.2.2.2.2.2.1 x.2.1.1.2.2.2.2.2.2.2.1 x.2.2.2.2.2.1 x.2.2.2.2.2.2.1 x5).bind fun r6 =>
 sumK r6 (fun y9 =>
 some (.inr (.inl (((), x.1.2.2.2.1, ()), ((x.2.1.1.1, (), (), (), x.2.1.1.2.2.2.2.1, x.2.1.1.2.2.2.2.2.1, x.2.1.1.2.2.2.2.2.2.1, x.2.1.1.2.2.2.2.2.2.2.1, (), (), ()), ()), (x.2.2.1, x.2.2.2.1, x.2.2.2.2.1, x.2.2.2.2.2.1, x.2.2.2.2.2.2.1, ()))))) (fun y10 =>
 let x11 : Int := w64 (x.1.2.2.2.1 + (1 : Int));
 some (.inl ((x.1.1, (), (), x11, ()), ((y10.1.1.1, (), (), (), y10.1.1.2.2.2.2.1, y10.1.1.2.2.2.2.2.1, y10.1.1.2.2.2.2.2.2.1, y10.1.1.2.2.2.2.2.2.2.1, (), (), ()), (x.2.1.2.1.1, (), (), (), x.2.1.2.1.2.2.2.2.1, x.2.1.2.1.2.2.2.2.2.1, x.2.1.2.1.2.2.2.2.2.2.1, x.2.1.2.1.2.2.2.2.2.2.2.1, (), (), ()), ()), (y10.2.2.1, y10.2.2.2.1, y10.2.2.2.2.1, y10.2.2.2.2.2.1, y10.2.2.2.2.2.2.1, ()))))))
 (some (.inr (.inr ((x.1.1, (), (), ()), ((x.2.1.1.1, (), (), (), x.2.1.1.2.2.2.2.1, x.2.1.1.2.2.2.2.2.1, x.2.1.1.2.2.2.2.2.2.1, x.2.1.1.2.2.2.2.2.2.2.1, (), (), ()), (x.2.1.2.1.1, (), (), (), x.2.1.2.1.2.2.2.2.1, x.2.1.2.1.2.2.2.2.2.1, x.2.1.2.1.2.2.2.2.2.2.1, x.2.1.2.1.2.2.2.2.2.2.2.1, (), (), ()), ()), (x.2.2.1, x.2.2.2.1, x.2.2.2.2.1, x.2.2.2.2.2.1, x.2.2.2.2.2.2.1, ())))))
def spec_KeyText_h0 : Sh := ⟨[(1, .c (.str)), (2, .c (.box 0 0)), (4, .c (.box 1 0)), (6, .c (.int .i64))], [(0, .cells [.str, .own 0, .own 1, .own 2, .int .i64, .int .i64, .int .i64, .int .i64, .own 3, .own 4]), (1, .cells [.str, .nil, .nil, .nil, .int .i64, .int .i64, .int .i64, .int .i64, .nil, .nil])], [(0, .i64), (1, .i64), (2, .mats), (3, .mat), (4, .mat)]⟩
def spec_KeyText_r0 : List Sh := [⟨[(4, .c (.box 0 0)), (5, .c (.int .i64))], [(0, .cells [.str, .own 0, .own 1, .own 2, .int .i64, .int .i64, .int .i64, .int .i64, .own 3, .own 4])], [(0, .i64), (1, .i64), (2, .mats), (3, .mat), (4, .mat)]⟩, ⟨[(1, .c (.str)), (2, .c (.box 0 0)), (4, .c (.box 1 0))], [(0, .cells [.str, .own 0, .own 1, .own 2, .int .i64, .int .i64, .int .i64, .int .i64, .own 3, .own 4]), (1, .cells [.str, .nil, .nil, .nil, .int .i64, .int .i64, .int .i64, .int .i64, .nil, .nil])], [(0, .i64), (1, .i64), (2, .mats), (3, .mat), (4, .mat)]⟩]
noncomputable def spec_KeyText_L0 : Lp := ⟨0, [], spec_KeyText_h0, [], [(.ret, []), (.exit 0, [])], spec_KeyText_r0, loopC spec_KeyText_s0⟩
noncomputable def spec_KeyText (a0_0 : ByteArray) (a0_1 : List Int) (a0_2 : List Int) (a0_3 : List (List (Int × Int))) (a0_4 : Int) (a0_5 : Int) (a0_6 : Int) (a0_7 : Int) (a0_8 : List (Int × Int)) (a0_9 : List (Int × Int)) (a1 : ByteArray) : Option (((ByteArray × Unit × Unit × Unit × Int × Int × Int × Int × Unit × Unit × Unit) × Int × Unit) × Unit × (List Int × List Int × List (List (Int × Int)) × List (Int × Int) × List (Int × Int) × Unit)) :=
 (spec_MachineOk a0_0 a0_1 a0_2 a0_3 a0_4 a0_5 a0_6 a0_7 a0_8 a0_9).bind fun r1 =>
 br (!r1.1.1)
 (some (((ByteArray.empty, (), (), (), (0 : Int), (0 : Int), (0 : Int), (0 : Int), (), (), ()), (-1 : Int), ()), (), ([], [], [], [], [], ())))
 ((spec_l5Copy a0_0 a0_1 a0_2 a0_3 a0_4 a0_5 a0_6 a0_7 a0_8 a0_9).bind fun r2 =>
 (loopC spec_KeyText_s0 ((a1, (), (), (0 : Int), ()), ((r2.1.1.1, (), (), (), r2.1.1.2.2.2.2.1, r2.1.1.2.2.2.2.2.1, r2.1.1.2.2.2.2.2.2.1, r2.1.1.2.2.2.2.2.2.2.1, (), (), ()), (ByteArray.empty, (), (), (), (0 : Int), (0 : Int), (0 : Int), (0 : Int), (), (), ()), ()), (r2.2.2.1, r2.2.2.2.1, r2.2.2.2.2.1, r2.2.2.2.2.2.1, r2.2.2.2.2.2.2.1, ()))).bind fun r12 =>
 sumK r12 (fun y15 =>
 some (((y15.2.1.1.1, (), (), (), y15.2.1.1.2.2.2.2.1, y15.2.1.1.2.2.2.2.2.1, y15.2.1.1.2.2.2.2.2.2.1, y15.2.1.1.2.2.2.2.2.2.2.1, (), (), ()), y15.1.2.1, ()), (), (y15.2.2.1, y15.2.2.2.1, y15.2.2.2.2.1, y15.2.2.2.2.2.1, y15.2.2.2.2.2.2.1, ()))) (fun y16 =>
 some (((y16.2.1.1.1, (), (), (), y16.2.1.1.2.2.2.2.1, y16.2.1.1.2.2.2.2.2.1, y16.2.1.1.2.2.2.2.2.2.1, y16.2.1.1.2.2.2.2.2.2.2.1, (), (), ()), (y16.1.1.size : Int), ()), (), (y16.2.2.1, y16.2.2.2.1, y16.2.2.2.2.1, y16.2.2.2.2.2.1, y16.2.2.2.2.2.2.1, ()))))
noncomputable def spec_KeyText_C : Ctr := ⟨73, spec_KeyText_arg, spec_KeyText_res, fun x => spec_KeyText x.1.1.1 x.1.1.2.1 x.1.1.2.2.1 x.1.1.2.2.2.1 x.1.1.2.2.2.2.1 x.1.1.2.2.2.2.2.1 x.1.1.2.2.2.2.2.2.1 x.1.1.2.2.2.2.2.2.2.1 x.1.1.2.2.2.2.2.2.2.2.1 x.1.1.2.2.2.2.2.2.2.2.2.1 x.1.2.1, none⟩
def spec_KeyText_H : Hint := ⟨[], [], [], fun _ => []⟩
noncomputable def spec_KeyText_T : List Ctr := [spec_MachineOk_C, spec_l5Copy_C, spec_l5Key_C]
noncomputable def spec_KeyText_Ls : List Lp := [spec_KeyText_L0]
theorem spec_KeyText_l0 : ∀ x, spec_KeyText_s0 x = stepW E0 spec_KeyText_T spec_KeyText_Ls spec_KeyText_H (loopAt (bodyOf Tryz.f73) 0) 0 spec_KeyText_h0 [] [(.ret, []), (.exit 0, [])] spec_KeyText_r0 x := fun x => by kernel_rfl
theorem spec_KeyText_e : ∀ x, spec_KeyText_C.F x = runBodyW E0 spec_KeyText_T spec_KeyText_Ls spec_KeyText_H 73 Tryz.f73.results.toList (bodyOf Tryz.f73) [(.bx 4 1, 6000000, .i64), (.bx 4 2, 6000001, .i64), (.bx 4 3, 6000002, .mats), (.bx 4 8, 6000003, .mat), (.bx 4 9, 6000004, .mat)] (spec_KeyText_arg.mk' x) spec_KeyText_res := fun x => by kernel_rfl
theorem spec_KeyText_ok : spec_KeyText_C.Ok E0 := fn_ok (T := spec_KeyText_T) (h := spec_KeyText_H) (Ls := spec_KeyText_Ls) E0_mixed (T_cons spec_MachineOk_ok (T_cons spec_l5Copy_ok (T_cons spec_l5Key_ok T_nil))) Tryz.func73 (bodyOf_some (by kernel_rfl)) (by kernel_rfl) (loops_of (ks := [0]) (by kernel_rfl) ⟨(loop_one (h := spec_KeyText_H) (own := []) (head := spec_KeyText_h0) (back := []) (exs := [(.ret, []), (.exit 0, [])]) (res := spec_KeyText_r0) (step := spec_KeyText_s0) (by kernel_rfl) spec_KeyText_l0), trivial⟩) spec_KeyText_e
def spec_l3Spread_arg : Sh := ⟨[(0, .agg [.int .i64, .int .i64, .int .i64]), (1, .c (.rd [] .i64))], [], []⟩
def spec_l3Spread_res : List Sh := [⟨[(0, .c (.int .i64)), (1, .c (.int .i64))], [], []⟩]
noncomputable def spec_l3Spread_s0 (x : (Unit × Int × Int × Int × Unit) × ((Int × Int × Int × Unit) × Unit) × Unit) : Option (((Unit × Int × Int × Int × Unit) × ((Int × Int × Int × Unit) × Unit) × Unit) ⊕ ((Int × Int × Unit) × Unit × Unit)) :=
 let x5 : Bool := decide (x.1.2.1 > (0 : Int));
 br x5
 (let x6 : Int := w64 (x.2.1.1.2.2.1 - x.2.1.1.2.1);
 let x7 : Bool := decide (x.1.2.2.2.1 < x6);
 br x7
 (let x8 : Bool := decide (x.1.2.2.1 ≥ x.1.2.1);
 br x8
 (let x9 : Int := w64 (x.1.2.2.2.1 + (1 : Int));
 let x10 : Int := w64 (x.1.2.2.1 - x.1.2.1);
 some (.inl (((), x.1.2.1, x10, x9, ()), ((x.2.1.1.1, x.2.1.1.2.1, x.2.1.1.2.2.1, ()), ()), ())))
 (some (.inr ((x.1.2.2.1, x.1.2.2.2.1, ()), (), ()))))
 (some (.inr ((x.1.2.2.1, x.1.2.2.2.1, ()), (), ()))))
 (some (.inr ((x.1.2.2.1, x.1.2.2.2.1, ()), (), ())))
def spec_l3Spread_h0 : Sh := ⟨[(2, .c (.box 0 0)), (7, .c (.int .i64)), (8, .c (.int .i64)), (9, .c (.int .i64))], [(0, .cells [.int .i64, .int .i64, .int .i64])], []⟩
def spec_l3Spread_r0 : List Sh := [⟨[(8, .c (.int .i64)), (9, .c (.int .i64))], [], []⟩]
noncomputable def spec_l3Spread_L0 : Lp := ⟨0, [], spec_l3Spread_h0, [], [(.exit 0, [])], spec_l3Spread_r0, loopC spec_l3Spread_s0⟩
noncomputable def spec_l3Spread (a0_0 : Int) (a0_1 : Int) (a0_2 : Int) (a1 : List Int) : Option ((Int × Int × Unit) × Unit × Unit) :=
 (spec_l3Sum a1).bind fun r1 =>
 let x2 : Int := w64 (a0_0 - r1.1.1);
 let x3 : Int := w64 (r1.1.2.1 * a0_1);
 let x4 : Int := w64 (x2 - x3);
 (loopC spec_l3Spread_s0 (((), r1.1.2.1, x4, (0 : Int), ()), ((a0_0, a0_1, a0_2, ()), ()), ())).bind fun r11 =>
 some ((r11.1.2.1, r11.1.1, ()), (), ())
noncomputable def spec_l3Spread_C : Ctr := ⟨153, spec_l3Spread_arg, spec_l3Spread_res, fun x => spec_l3Spread x.1.1.1 x.1.1.2.1 x.1.1.2.2.1 x.1.2.1, none⟩
def spec_l3Spread_H : Hint := ⟨[], [], [], fun _ => []⟩
noncomputable def spec_l3Spread_T : List Ctr := [spec_l3Sum_C]
noncomputable def spec_l3Spread_Ls : List Lp := [spec_l3Spread_L0]
theorem spec_l3Spread_l0 : ∀ x, spec_l3Spread_s0 x = stepW E0 spec_l3Spread_T spec_l3Spread_Ls spec_l3Spread_H (loopAt (bodyOf Tryz.f153) 0) 0 spec_l3Spread_h0 [] [(.exit 0, [])] spec_l3Spread_r0 x := fun x => by kernel_rfl
theorem spec_l3Spread_e : ∀ x, spec_l3Spread_C.F x = runBodyW E0 spec_l3Spread_T spec_l3Spread_Ls spec_l3Spread_H 153 Tryz.f153.results.toList (bodyOf Tryz.f153) [] (spec_l3Spread_arg.mk' x) spec_l3Spread_res := fun x => by kernel_rfl
theorem spec_l3Spread_ok : spec_l3Spread_C.Ok E0 := fn_ok (T := spec_l3Spread_T) (h := spec_l3Spread_H) (Ls := spec_l3Spread_Ls) E0_mixed (T_cons spec_l3Sum_ok T_nil) Tryz.func153 (bodyOf_some (by kernel_rfl)) (by kernel_rfl) (loops_of (ks := [0]) (by kernel_rfl) ⟨(loop_one (h := spec_l3Spread_H) (own := []) (head := spec_l3Spread_h0) (back := []) (exs := [(.exit 0, [])]) (res := spec_l3Spread_r0) (step := spec_l3Spread_s0) (by kernel_rfl) spec_l3Spread_l0), trivial⟩) spec_l3Spread_e
def spec_SpreadLine_arg : Sh := ⟨[(0, .agg [.int .i64, .int .i64, .int .i64]), (1, .c (.rd [] .i64))], [], []⟩
def spec_SpreadLine_res : List Sh := [⟨[(0, .c (.int .i64)), (1, .c (.int .i64)), (2, .c (.bool))], [], []⟩]
noncomputable def spec_SpreadLine (a0_0 : Int) (a0_1 : Int) (a0_2 : Int) (a1 : List Int) : Option ((Int × Int × Bool × Unit) × Unit × Unit) :=
 (spec_MeasureOk a0_0 a0_1 a0_2).bind fun r1 =>
 br (!r1.1.1)
 (some (((0 : Int), (0 : Int), false, ()), (), ()))
 ((spec_l3Fits a0_0 a0_1 a0_2 a1).bind fun r2 =>
 br (!r2.1.1)
 (some (((0 : Int), (0 : Int), false, ()), (), ()))
 ((spec_l3Spread a0_0 a0_1 a0_2 a1).bind fun r3 =>
 some ((r3.1.1, r3.1.2.1, true, ()), (), ())))
noncomputable def spec_SpreadLine_C : Ctr := ⟨139, spec_SpreadLine_arg, spec_SpreadLine_res, fun x => spec_SpreadLine x.1.1.1 x.1.1.2.1 x.1.1.2.2.1 x.1.2.1, none⟩
def spec_SpreadLine_H : Hint := ⟨[], [], [], fun _ => []⟩
noncomputable def spec_SpreadLine_T : List Ctr := [spec_MeasureOk_C, spec_l3Fits_C, spec_l3Spread_C]
noncomputable def spec_SpreadLine_Ls : List Lp := []
theorem spec_SpreadLine_e : ∀ x, spec_SpreadLine_C.F x = runBodyW E0 spec_SpreadLine_T spec_SpreadLine_Ls spec_SpreadLine_H 139 Tryz.f139.results.toList (bodyOf Tryz.f139) [] (spec_SpreadLine_arg.mk' x) spec_SpreadLine_res := fun x => by kernel_rfl
theorem spec_SpreadLine_ok : spec_SpreadLine_C.Ok E0 := fn_ok (T := spec_SpreadLine_T) (h := spec_SpreadLine_H) (Ls := spec_SpreadLine_Ls) E0_mixed (T_cons spec_MeasureOk_ok (T_cons spec_l3Fits_ok (T_cons spec_l3Spread_ok T_nil))) Tryz.func139 (bodyOf_some (by kernel_rfl)) (by kernel_rfl) (loops_of (ks := []) (by kernel_rfl) trivial) spec_SpreadLine_e
def spec_IsFull_arg : Sh := ⟨[(0, .agg [.int .i64, .int .i64, .int .i64]), (1, .c (.rd [] .i64))], [], []⟩
def spec_IsFull_res : List Sh := [⟨[(0, .c (.bool))], [], []⟩]
noncomputable def spec_IsFull (a0_0 : Int) (a0_1 : Int) (a0_2 : Int) (a1 : List Int) : Option ((Bool × Unit) × Unit × Unit) :=
 (spec_SpreadLine a0_0 a0_1 a0_2 a1).bind fun r1 =>
 (spec_l3Sum a1).bind fun r2 =>
 br r1.1.2.2.1
 (let x3 : Bool := r1.1.2.1 == (0 : Int);
 br x3
 (some ((true, ()), (), ()))
 (let x4 : Bool := decide (r1.1.2.1 < r2.1.2.1);
 some ((x4, ()), (), ())))
 (some ((false, ()), (), ()))
noncomputable def spec_IsFull_C : Ctr := ⟨108, spec_IsFull_arg, spec_IsFull_res, fun x => spec_IsFull x.1.1.1 x.1.1.2.1 x.1.1.2.2.1 x.1.2.1, none⟩
def spec_IsFull_H : Hint := ⟨[], [], [], fun _ => []⟩
noncomputable def spec_IsFull_T : List Ctr := [spec_SpreadLine_C, spec_l3Sum_C]
noncomputable def spec_IsFull_Ls : List Lp := []
theorem spec_IsFull_e : ∀ x, spec_IsFull_C.F x = runBodyW E0 spec_IsFull_T spec_IsFull_Ls spec_IsFull_H 108 Tryz.f108.results.toList (bodyOf Tryz.f108) [] (spec_IsFull_arg.mk' x) spec_IsFull_res := fun x => by kernel_rfl
theorem spec_IsFull_ok : spec_IsFull_C.Ok E0 := fn_ok (T := spec_IsFull_T) (h := spec_IsFull_H) (Ls := spec_IsFull_Ls) E0_mixed (T_cons spec_SpreadLine_ok (T_cons spec_l3Sum_ok T_nil)) Tryz.func108 (bodyOf_some (by kernel_rfl)) (by kernel_rfl) (loops_of (ks := []) (by kernel_rfl) trivial) spec_IsFull_e
def spec_l5Text_arg : Sh := ⟨[(0, .agg [.str, .rd [] .i64, .rd [] .i64]), (1, .c (.rd [] .mat))], [], []⟩
def spec_l5Text_res : List Sh := [⟨[(0, .c (.str))], [], []⟩]
noncomputable def spec_l5Text_s0 (x : (Unit × ByteArray × List (Int × Int) × Int × Int × Unit) × ((ByteArray × List Int × List Int × Unit) × Unit) × Unit) : Option (((Unit × ByteArray × List (Int × Int) × Int × Int × Unit) × ((ByteArray × List Int × List Int × Unit) × Unit) × Unit) ⊕ ((ByteArray × Unit) × Unit × Unit)) :=
 let x1 : Bool := decide (x.1.2.2.2.2.1 < x.1.2.2.2.1);
 br x1
 (ck (0 ≤ x.1.2.2.2.2.1)
 (ck (x.1.2.2.2.2.1.toNat < x.1.2.2.1.length)
 (let x2 : Int × Int := x.1.2.2.1.getD x.1.2.2.2.2.1.toNat (0, 0);
 let x3 : Bool := decide (x2.1 < (0 : Int));
 br x3
 (ck (((x.1.2.1.size + (ByteArray.mk #[32]).size : Nat) : Int) ≤ IntKind.i64.max)
 (let x4 : ByteArray := x.1.2.1 ++ (ByteArray.mk #[32]);
 let x5 : Int := w64 (x.1.2.2.2.2.1 + (1 : Int));
 some (.inl (((), x4, x.1.2.2.1, x.1.2.2.2.1, x5, ()), ((x.2.1.1.1, x.2.1.1.2.1, x.2.1.1.2.2.1, ()), ()), ()))))
 (let x6 : Int := w64 (x2.1 + (1 : Int));
 ck (0 ≤ x2.1)
 (ck (0 ≤ x6)
 (ck (x2.1.toNat ≤ x6.toNat ∧ x6.toNat ≤ x.2.1.1.1.size)
 (let x7 : ByteArray := x.2.1.1.1.extract x2.1.toNat x6.toNat;
 ck (((x.1.2.1.size + x7.size : Nat) : Int) ≤ IntKind.i64.max)
 (let x8 : ByteArray := x.1.2.1 ++ x7;
 let x9 : Int := w64 (x.1.2.2.2.2.1 + (1 : Int));
 some (.inl (((), x8, x.1.2.2.1, x.1.2.2.2.1, x9, ()), ((x.2.1.1.1, x.2.1.1.2.1, x.2.1.1.2.2.1, ()), ()), ()))))))))))
 (some (.inr ((x.1.2.1, ()), (), ())))
def spec_l5Text_h0 : Sh := ⟨[(2, .c (.box 0 0)), (5, .c (.str)), (8, .c (.rd [] .mat)), (9, .c (.int .i64)), (10, .c (.int .i64))], [(0, .cells [.str, .rd [] .i64, .rd [] .i64])], []⟩
def spec_l5Text_r0 : List Sh := [⟨[(5, .c (.str))], [], []⟩]
noncomputable def spec_l5Text_L0 : Lp := ⟨0, [], spec_l5Text_h0, [], [(.exit 0, [])], spec_l5Text_r0, loopC spec_l5Text_s0⟩
noncomputable def spec_l5Text (a0_0 : ByteArray) (a0_1 : List Int) (a0_2 : List Int) (a1 : List (Int × Int)) : Option ((ByteArray × Unit) × Unit × Unit) :=
 (loopC spec_l5Text_s0 (((), ByteArray.empty, a1, (a1.length : Int), (0 : Int), ()), ((a0_0, a0_1, a0_2, ()), ()), ())).bind fun r10 =>
 some ((r10.1.1, ()), (), ())
noncomputable def spec_l5Text_C : Ctr := ⟨109, spec_l5Text_arg, spec_l5Text_res, fun x => spec_l5Text x.1.1.1 x.1.1.2.1 x.1.1.2.2.1 x.1.2.1, none⟩
def spec_l5Text_H : Hint := ⟨[], [], [], fun _ => []⟩
noncomputable def spec_l5Text_T : List Ctr := []
noncomputable def spec_l5Text_Ls : List Lp := [spec_l5Text_L0]
theorem spec_l5Text_l0 : ∀ x, spec_l5Text_s0 x = stepW E0 spec_l5Text_T spec_l5Text_Ls spec_l5Text_H (loopAt (bodyOf Tryz.f109) 0) 0 spec_l5Text_h0 [] [(.exit 0, [])] spec_l5Text_r0 x := fun x => by kernel_rfl
theorem spec_l5Text_e : ∀ x, spec_l5Text_C.F x = runBodyW E0 spec_l5Text_T spec_l5Text_Ls spec_l5Text_H 109 Tryz.f109.results.toList (bodyOf Tryz.f109) [] (spec_l5Text_arg.mk' x) spec_l5Text_res := fun x => by kernel_rfl
theorem spec_l5Text_ok : spec_l5Text_C.Ok E0 := fn_ok (T := spec_l5Text_T) (h := spec_l5Text_H) (Ls := spec_l5Text_Ls) E0_mixed T_nil Tryz.func109 (bodyOf_some (by kernel_rfl)) (by kernel_rfl) (loops_of (ks := [0]) (by kernel_rfl) ⟨(loop_one (h := spec_l5Text_H) (own := []) (head := spec_l5Text_h0) (back := []) (exs := [(.exit 0, [])]) (res := spec_l5Text_r0) (step := spec_l5Text_s0) (by kernel_rfl) spec_l5Text_l0), trivial⟩) spec_l5Text_e
def spec_l3Wide_arg : Sh := ⟨[(0, .agg [.int .i64, .int .i64, .int .i64]), (1, .c (.rd [] .i64))], [], []⟩
def spec_l3Wide_res : List Sh := [⟨[(0, .c (.own 0))], [], [(0, .i64)]⟩]
noncomputable def spec_l3Wide_s0 (x : (Unit × Int × Int × Unit × List Int × Int × Int × Unit) × ((Int × Int × Int × Unit) × Unit) × (List Int × Unit)) : Option (((Unit × Int × Int × Unit × List Int × Int × Int × Unit) × ((Int × Int × Int × Unit) × Unit) × (List Int × Unit)) ⊕ ((Unit × Unit) × Unit × (List Int × Unit))) :=
 let x3 : Bool := decide (x.1.2.2.2.2.2.2.1 < x.1.2.2.2.2.2.1);
 br x3
 (ck (0 ≤ x.1.2.2.2.2.2.2.1)
 (ck (x.1.2.2.2.2.2.2.1.toNat < x.1.2.2.2.2.1.length)
 (let x4 : Int := x.1.2.2.2.2.1.getD x.1.2.2.2.2.2.2.1.toNat 0;
 let x5 : Bool := x4 == (0 : Int);
 br x5
 (let x6 : Int := w64 (x.2.1.1.2.1 + x.1.2.1);
 let x7 : Bool := decide (x.1.2.2.1 > (0 : Int));
 br x7
 (let x8 : Int := w64 (x6 + (1 : Int));
 let x9 : Int := w64 (x.1.2.2.1 - (1 : Int));
 ck ((x.2.2.1.length + [x8].length) * 8 ≤ 140737488355328 ∧ (x.2.2.1.length + [x8].length) ≤ 9223372036854775807)
 (let x10 : List Int := x.2.2.1 ++ [x8];
 let x11 : Int := w64 (x.1.2.2.2.2.2.2.1 + (1 : Int));
 some (.inl (((), x.1.2.1, x9, (), x.1.2.2.2.2.1, x.1.2.2.2.2.2.1, x11, ()), ((x.2.1.1.1, x.2.1.1.2.1, x.2.1.1.2.2.1, ()), ()), (x10, ())))))
 (ck ((x.2.2.1.length + [x6].length) * 8 ≤ 140737488355328 ∧ (x.2.2.1.length + [x6].length) ≤ 9223372036854775807)
 (let x12 : List Int := x.2.2.1 ++ [x6];
 let x13 : Int := w64 (x.1.2.2.2.2.2.2.1 + (1 : Int));
 some (.inl (((), x.1.2.1, x.1.2.2.1, (), x.1.2.2.2.2.1, x.1.2.2.2.2.2.1, x13, ()), ((x.2.1.1.1, x.2.1.1.2.1, x.2.1.1.2.2.1, ()), ()), (x12, ()))))))
 (ck ((x.2.2.1.length + [x4].length) * 8 ≤ 140737488355328 ∧ (x.2.2.1.length + [x4].length) ≤ 9223372036854775807)
 (let x14 : List Int := x.2.2.1 ++ [x4];
 let x15 : Int := w64 (x.1.2.2.2.2.2.2.1 + (1 : Int));
 some (.inl (((), x.1.2.1, x.1.2.2.1, (), x.1.2.2.2.2.1, x.1.2.2.2.2.2.1, x15, ()), ((x.2.1.1.1, x.2.1.1.2.1, x.2.1.1.2.2.1, ()), ()), (x14, ()))))))))
 (some (.inr (((), ()), (), (x.2.2.1, ()))))
def spec_l3Wide_h0 : Sh := ⟨[(2, .c (.box 0 0)), (5, .c (.int .i64)), (6, .c (.int .i64)), (7, .c (.own 0)), (21, .c (.rd [] .i64)), (22, .c (.int .i64)), (23, .c (.int .i64))], [(0, .cells [.int .i64, .int .i64, .int .i64])], [(0, .i64)]⟩
def spec_l3Wide_r0 : List Sh := [⟨[(7, .c (.own 0))], [], [(0, .i64)]⟩]
noncomputable def spec_l3Wide_L0 : Lp := ⟨0, [], spec_l3Wide_h0, [], [(.exit 0, [])], spec_l3Wide_r0, loopC spec_l3Wide_s0⟩
noncomputable def spec_l3Wide (a0_0 : Int) (a0_1 : Int) (a0_2 : Int) (a1 : List Int) : Option ((Unit × Unit) × Unit × (List Int × Unit)) :=
 (spec_l3Spread a0_0 a0_1 a0_2 a1).bind fun r1 =>
 (spec_IsFull a0_0 a0_1 a0_2 a1).bind fun r2 =>
 br (!r2.1.1)
 ((loopC spec_l3Wide_s0 (((), r1.1.1, (0 : Int), (), a1, (a1.length : Int), (0 : Int), ()), ((a0_0, a0_1, a0_2, ()), ()), ([], ()))).bind fun r16 =>
 some (((), ()), (), (r16.2.2.1, ())))
 ((loopC spec_l3Wide_s0 (((), r1.1.1, r1.1.2.1, (), a1, (a1.length : Int), (0 : Int), ()), ((a0_0, a0_1, a0_2, ()), ()), ([], ()))).bind fun r17 =>
 some (((), ()), (), (r17.2.2.1, ())))
noncomputable def spec_l3Wide_C : Ctr := ⟨140, spec_l3Wide_arg, spec_l3Wide_res, fun x => spec_l3Wide x.1.1.1 x.1.1.2.1 x.1.1.2.2.1 x.1.2.1, none⟩
def spec_l3Wide_H : Hint := ⟨[], [], [], fun _ => []⟩
noncomputable def spec_l3Wide_T : List Ctr := [spec_l3Spread_C, spec_IsFull_C]
noncomputable def spec_l3Wide_Ls : List Lp := [spec_l3Wide_L0]
theorem spec_l3Wide_l0 : ∀ x, spec_l3Wide_s0 x = stepW E0 spec_l3Wide_T spec_l3Wide_Ls spec_l3Wide_H (loopAt (bodyOf Tryz.f140) 0) 0 spec_l3Wide_h0 [] [(.exit 0, [])] spec_l3Wide_r0 x := fun x => by kernel_rfl
theorem spec_l3Wide_e : ∀ x, spec_l3Wide_C.F x = runBodyW E0 spec_l3Wide_T spec_l3Wide_Ls spec_l3Wide_H 140 Tryz.f140.results.toList (bodyOf Tryz.f140) [] (spec_l3Wide_arg.mk' x) spec_l3Wide_res := fun x => by kernel_rfl
theorem spec_l3Wide_ok : spec_l3Wide_C.Ok E0 := fn_ok (T := spec_l3Wide_T) (h := spec_l3Wide_H) (Ls := spec_l3Wide_Ls) E0_mixed (T_cons spec_l3Spread_ok (T_cons spec_IsFull_ok T_nil)) Tryz.func140 (bodyOf_some (by kernel_rfl)) (by kernel_rfl) (loops_of (ks := [0]) (by kernel_rfl) ⟨(loop_one (h := spec_l3Wide_H) (own := []) (head := spec_l3Wide_h0) (back := []) (exs := [(.exit 0, [])]) (res := spec_l3Wide_r0) (step := spec_l3Wide_s0) (by kernel_rfl) spec_l3Wide_l0), trivial⟩) spec_l3Wide_e
def spec_PlacesOf_arg : Sh := ⟨[(0, .agg [.int .i64, .int .i64, .int .i64]), (1, .c (.rd [] .i64))], [], []⟩
def spec_PlacesOf_res : List Sh := [⟨[(0, .c (.own 0))], [], [(0, .i64)]⟩]
noncomputable def spec_PlacesOf_s0 (x : (Unit × Int × Unit × Int × Int × Unit) × Unit × (List Int × List Int × Unit)) : Option (((Unit × Int × Unit × Int × Int × Unit) × Unit × (List Int × List Int × Unit)) ⊕ ((Unit × Unit) × Unit × (List Int × Unit))) :=
 let x4 : Bool := decide (x.1.2.2.2.2.1 < x.1.2.2.2.1);
 br x4
 (ck (0 ≤ x.1.2.2.2.2.1)
 (ck (x.1.2.2.2.2.1.toNat < x.2.2.2.1.length)
 (ck (x.1.2.2.2.2.1.toNat < x.2.2.2.1.length)
 (let x5 : Int := x.2.2.2.1.getD x.1.2.2.2.2.1.toNat 0;
 ck ((x.2.2.1.length + [x.1.2.1].length) * 8 ≤ 140737488355328 ∧ (x.2.2.1.length + [x.1.2.1].length) ≤ 9223372036854775807)
 (let x6 : List Int := x.2.2.1 ++ [x.1.2.1];
 let x7 : Int := w64 (x.1.2.1 + x5);
 let x8 : Int := w64 (x.1.2.2.2.2.1 + (1 : Int));
 some (.inl (((), x7, (), x.1.2.2.2.1, x8, ()), (), (x6, x.2.2.2.1, ()))))))))
 (some (.inr (((), ()), (), (x.2.2.1, ()))))
def spec_PlacesOf_h0 : Sh := ⟨[(5, .c (.own 0)), (6, .c (.int .i64)), (21, .c (.own 1)), (22, .c (.int .i64)), (23, .c (.int .i64))], [], [(0, .i64), (1, .i64)]⟩
def spec_PlacesOf_r0 : List Sh := [⟨[(5, .c (.own 0))], [], [(0, .i64)]⟩]
noncomputable def spec_PlacesOf_L0 : Lp := ⟨0, [], spec_PlacesOf_h0, [], [(.exit 0, [])], spec_PlacesOf_r0, loopC spec_PlacesOf_s0⟩
noncomputable def spec_PlacesOf (a0_0 : Int) (a0_1 : Int) (a0_2 : Int) (a1 : List Int) : Option ((Unit × Unit) × Unit × (List Int × Unit)) :=
 (spec_MeasureOk a0_0 a0_1 a0_2).bind fun r1 =>
 br (!r1.1.1)
 (some (((), ()), (), ([], ())))
 ((spec_l3Fits a0_0 a0_1 a0_2 a1).bind fun r2 =>
 br (!r2.1.1)
 (some (((), ()), (), ([], ())))
 ((spec_l3Wide a0_0 a0_1 a0_2 a1).bind fun r3 =>
 (loopC spec_PlacesOf_s0 (((), (0 : Int), (), (r3.2.2.1.length : Int), (0 : Int), ()), (), ([], r3.2.2.1, ()))).bind fun r9 =>
 some (((), ()), (), (r9.2.2.1, ()))))
noncomputable def spec_PlacesOf_C : Ctr := ⟨110, spec_PlacesOf_arg, spec_PlacesOf_res, fun x => spec_PlacesOf x.1.1.1 x.1.1.2.1 x.1.1.2.2.1 x.1.2.1, none⟩
def spec_PlacesOf_H : Hint := ⟨[], [], [], fun _ => []⟩
noncomputable def spec_PlacesOf_T : List Ctr := [spec_MeasureOk_C, spec_l3Fits_C, spec_l3Wide_C]
noncomputable def spec_PlacesOf_Ls : List Lp := [spec_PlacesOf_L0]
theorem spec_PlacesOf_l0 : ∀ x, spec_PlacesOf_s0 x = stepW E0 spec_PlacesOf_T spec_PlacesOf_Ls spec_PlacesOf_H (loopAt (bodyOf Tryz.f110) 0) 0 spec_PlacesOf_h0 [] [(.exit 0, [])] spec_PlacesOf_r0 x := fun x => by kernel_rfl
theorem spec_PlacesOf_e : ∀ x, spec_PlacesOf_C.F x = runBodyW E0 spec_PlacesOf_T spec_PlacesOf_Ls spec_PlacesOf_H 110 Tryz.f110.results.toList (bodyOf Tryz.f110) [(.tm 4, 6000000, .i64)] (spec_PlacesOf_arg.mk' x) spec_PlacesOf_res := fun x => by kernel_rfl
theorem spec_PlacesOf_ok : spec_PlacesOf_C.Ok E0 := fn_ok (T := spec_PlacesOf_T) (h := spec_PlacesOf_H) (Ls := spec_PlacesOf_Ls) E0_mixed (T_cons spec_MeasureOk_ok (T_cons spec_l3Fits_ok (T_cons spec_l3Wide_ok T_nil))) Tryz.func110 (bodyOf_some (by kernel_rfl)) (by kernel_rfl) (loops_of (ks := [0]) (by kernel_rfl) ⟨(loop_one (h := spec_PlacesOf_H) (own := []) (head := spec_PlacesOf_h0) (back := []) (exs := [(.exit 0, [])]) (res := spec_PlacesOf_r0) (step := spec_PlacesOf_s0) (by kernel_rfl) spec_PlacesOf_l0), trivial⟩) spec_PlacesOf_e
def spec_CastLine_arg : Sh := ⟨[(0, .agg [.str, .rd [] .i64, .rd [] .i64, .rd [] .mats, .int .i64, .int .i64, .int .i64, .int .i64, .rd [] .mat, .rd [] .mat]), (1, .c (.bool))], [], []⟩
def spec_CastLine_res : List Sh := [⟨[(0, .agg [.str, .own 0, .own 1, .own 2, .int .i64, .int .i64, .int .i64, .int .i64, .nil, .own 3]), (1, .c (.str)), (2, .c (.own 4)), (3, .c (.bool))], [], [(0, .i64), (1, .i64), (2, .mats), (3, .mat), (4, .i64)]⟩]
noncomputable def spec_CastLine_s0 (x : (Unit × Unit × Unit × List (Int × Int) × Int × Int × Unit) × ((ByteArray × List Int × List Int × List (List (Int × Int)) × Int × Int × Int × Int × List (Int × Int) × List (Int × Int) × Unit) × (ByteArray × Unit × Unit × Unit × Int × Int × Int × Int × Unit × Unit × Unit) × (ByteArray × Unit × Unit × Unit × Int × Int × Int × Int × Unit × Unit × Unit) × Unit) × (List Int × List Int × List (List (Int × Int)) × List (Int × Int) × Unit)) : Option (((Unit × Unit × Unit × List (Int × Int) × Int × Int × Unit) × ((ByteArray × List Int × List Int × List (List (Int × Int)) × Int × Int × Int × Int × List (Int × Int) × List (Int × Int) × Unit) × (ByteArray × Unit × Unit × Unit × Int × Int × Int × Int × Unit × Unit × Unit) × (ByteArray × Unit × Unit × Unit × Int × Int × Int × Int × Unit × Unit × Unit) × Unit) × (List Int × List Int × List (List (Int × Int)) × List (Int × Int) × Unit)) ⊕ ((Unit × Unit × Unit × Unit) × ((ByteArray × List Int × List Int × List (List (Int × Int)) × Int × Int × Int × Int × List (Int × Int) × List (Int × Int) × Unit) × (ByteArray × Unit × Unit × Unit × Int × Int × Int × Int × Unit × Unit × Unit) × (ByteArray × Unit × Unit × Unit × Int × Int × Int × Int × Unit × Unit × Unit) × Unit) × (List Int × List Int × List (List (Int × Int)) × List (Int × Int) × Unit))) :=
 let x6 : Bool := decide (x.1.2.2.2.2.2.1 < x.1.2.2.2.2.1);
 br x6
 (ck (0 ≤ x.1.2.2.2.2.2.1)
 (ck (x.1.2.2.2.2.2.1.toNat < x.1.2.2.2.1.length)
 (let x7 : Int × Int := x.1.2.2.2.1.getD x.1.2.2.2.2.2.1.toNat (0, 0);
 let x8 : Bool := decide (x7.1 < (0 : Int));
 br x8
 (let x9 : Int := w64 (x.2.1.2.2.1.2.2.2.2.1 + (1 : Int));
 let x10 : Int := w64 (x.1.2.2.2.2.2.1 + (1 : Int));
 some (.inl (((), (), (), x.1.2.2.2.1, x.1.2.2.2.2.1, x10, ()), ((x.2.1.1.1, x.2.1.1.2.1, x.2.1.1.2.2.1, x.2.1.1.2.2.2.1, x.2.1.1.2.2.2.2.1, x.2.1.1.2.2.2.2.2.1, x.2.1.1.2.2.2.2.2.2.1, x.2.1.1.2.2.2.2.2.2.2.1, x.2.1.1.2.2.2.2.2.2.2.2.1, x.2.1.1.2.2.2.2.2.2.2.2.2.1, ()), (x.2.1.2.1.1, (), (), (), x.2.1.2.1.2.2.2.2.1, x.2.1.2.1.2.2.2.2.2.1, x.2.1.2.1.2.2.2.2.2.2.1, x.2.1.2.1.2.2.2.2.2.2.2.1, (), (), ()), (x.2.1.2.2.1.1, (), (), (), x9, x.2.1.2.2.1.2.2.2.2.2.1, x.2.1.2.2.1.2.2.2.2.2.2.1, x.2.1.2.2.1.2.2.2.2.2.2.2.1, (), (), ()), ()), (x.2.2.1, x.2.2.2.1, x.2.2.2.2.1, x.2.2.2.2.2.1, ()))))
 (ck ((x.2.2.2.2.2.1.length + [(x7.1, x7.2)].length) * 16 ≤ 140737488355328 ∧ (x.2.2.2.2.2.1.length + [(x7.1, x7.2)].length) ≤ 9223372036854775807)
 (let x11 : List (Int × Int) := x.2.2.2.2.2.1 ++ [(x7.1, x7.2)];
 let x12 : Int := w64 (x.1.2.2.2.2.2.1 + (1 : Int));
 some (.inl (((), (), (), x.1.2.2.2.1, x.1.2.2.2.2.1, x12, ()), ((x.2.1.1.1, x.2.1.1.2.1, x.2.1.1.2.2.1, x.2.1.1.2.2.2.1, x.2.1.1.2.2.2.2.1, x.2.1.1.2.2.2.2.2.1, x.2.1.1.2.2.2.2.2.2.1, x.2.1.1.2.2.2.2.2.2.2.1, x.2.1.1.2.2.2.2.2.2.2.2.1, x.2.1.1.2.2.2.2.2.2.2.2.2.1, ()), (x.2.1.2.1.1, (), (), (), x.2.1.2.1.2.2.2.2.1, x.2.1.2.1.2.2.2.2.2.1, x.2.1.2.1.2.2.2.2.2.2.1, x.2.1.2.1.2.2.2.2.2.2.2.1, (), (), ()), (x.2.1.2.2.1.1, (), (), (), x.2.1.2.2.1.2.2.2.2.1, x.2.1.2.2.1.2.2.2.2.2.1, x.2.1.2.2.1.2.2.2.2.2.2.1, x.2.1.2.2.1.2.2.2.2.2.2.2.1, (), (), ()), ()), (x.2.2.1, x.2.2.2.1, x.2.2.2.2.1, x11, ()))))))))
 (some (.inr (((), (), (), ()), ((x.2.1.1.1, x.2.1.1.2.1, x.2.1.1.2.2.1, x.2.1.1.2.2.2.1, x.2.1.1.2.2.2.2.1, x.2.1.1.2.2.2.2.2.1, x.2.1.1.2.2.2.2.2.2.1, x.2.1.1.2.2.2.2.2.2.2.1, x.2.1.1.2.2.2.2.2.2.2.2.1, x.2.1.1.2.2.2.2.2.2.2.2.2.1, ()), (x.2.1.2.1.1, (), (), (), x.2.1.2.1.2.2.2.2.1, x.2.1.2.1.2.2.2.2.2.1, x.2.1.2.1.2.2.2.2.2.2.1, x.2.1.2.1.2.2.2.2.2.2.2.1, (), (), ()), (x.2.1.2.2.1.1, (), (), (), x.2.1.2.2.1.2.2.2.2.1, x.2.1.2.2.1.2.2.2.2.2.1, x.2.1.2.2.1.2.2.2.2.2.2.1, x.2.1.2.2.1.2.2.2.2.2.2.2.1, (), (), ()), ()), (x.2.2.1, x.2.2.2.1, x.2.2.2.2.1, x.2.2.2.2.2.1, ()))))
def spec_CastLine_h0 : Sh := ⟨[(2, .c (.box 0 0)), (4, .c (.box 1 0)), (8, .c (.box 2 0)), (40, .c (.rd [] .mat)), (41, .c (.int .i64)), (42, .c (.int .i64))], [(0, .cells [.str, .rd [] .i64, .rd [] .i64, .rd [] .mats, .int .i64, .int .i64, .int .i64, .int .i64, .rd [] .mat, .rd [] .mat]), (1, .cells [.str, .nil, .nil, .nil, .int .i64, .int .i64, .int .i64, .int .i64, .nil, .nil]), (2, .cells [.str, .own 0, .own 1, .own 2, .int .i64, .int .i64, .int .i64, .int .i64, .nil, .own 3])], [(0, .i64), (1, .i64), (2, .mats), (3, .mat)]⟩
def spec_CastLine_r0 : List Sh := [⟨[(2, .c (.box 0 0)), (4, .c (.box 1 0)), (8, .c (.box 2 0))], [(0, .cells [.str, .rd [] .i64, .rd [] .i64, .rd [] .mats, .int .i64, .int .i64, .int .i64, .int .i64, .rd [] .mat, .rd [] .mat]), (1, .cells [.str, .nil, .nil, .nil, .int .i64, .int .i64, .int .i64, .int .i64, .nil, .nil]), (2, .cells [.str, .own 0, .own 1, .own 2, .int .i64, .int .i64, .int .i64, .int .i64, .nil, .own 3])], [(0, .i64), (1, .i64), (2, .mats), (3, .mat)]⟩]
noncomputable def spec_CastLine_L0 : Lp := ⟨0, [], spec_CastLine_h0, [], [(.exit 0, [])], spec_CastLine_r0, loopC spec_CastLine_s0⟩
noncomputable def spec_CastLine (a0_0 : ByteArray) (a0_1 : List Int) (a0_2 : List Int) (a0_3 : List (List (Int × Int))) (a0_4 : Int) (a0_5 : Int) (a0_6 : Int) (a0_7 : Int) (a0_8 : List (Int × Int)) (a0_9 : List (Int × Int)) (a1 : Bool) : Option (((ByteArray × Unit × Unit × Unit × Int × Int × Int × Int × Unit × Unit × Unit) × ByteArray × Unit × Bool × Unit) × Unit × (List Int × List Int × List (List (Int × Int)) × List (Int × Int) × List Int × Unit)) :=
 (spec_MachineOk a0_0 a0_1 a0_2 a0_3 a0_4 a0_5 a0_6 a0_7 a0_8 a0_9).bind fun r1 =>
 br (!r1.1.1)
 (some (((ByteArray.empty, (), (), (), (0 : Int), (0 : Int), (0 : Int), (0 : Int), (), (), ()), ByteArray.empty, (), false, ()), (), ([], [], [], [], [], ())))
 (let x2 : Bool := (a0_8.length : Int) == (0 : Int);
 br x2
 (some (((ByteArray.empty, (), (), (), (0 : Int), (0 : Int), (0 : Int), (0 : Int), (), (), ()), ByteArray.empty, (), false, ()), (), ([], [], [], [], [], ())))
 (br (!a1)
 ((spec_l5Items a0_0 a0_1 a0_2 a0_8).bind fun r3 =>
 (spec_IsFull a0_5 a0_6 a0_7 r3.2.2.1).bind fun r4 =>
 br (!r4.1.1)
 (some (((ByteArray.empty, (), (), (), (0 : Int), (0 : Int), (0 : Int), (0 : Int), (), (), ()), ByteArray.empty, (), false, ()), (), ([], [], [], [], [], ())))
 ((spec_l5Copy a0_0 a0_1 a0_2 a0_3 a0_4 a0_5 a0_6 a0_7 a0_8 a0_9).bind fun r5 =>
 (loopC spec_CastLine_s0 (((), (), (), a0_8, (a0_8.length : Int), (0 : Int), ()), ((a0_0, a0_1, a0_2, a0_3, a0_4, a0_5, a0_6, a0_7, a0_8, a0_9, ()), (ByteArray.empty, (), (), (), (0 : Int), (0 : Int), (0 : Int), (0 : Int), (), (), ()), (r5.1.1.1, (), (), (), r5.1.1.2.2.2.2.1, r5.1.1.2.2.2.2.2.1, r5.1.1.2.2.2.2.2.2.1, r5.1.1.2.2.2.2.2.2.2.1, (), (), ()), ()), (r5.2.2.1, r5.2.2.2.1, r5.2.2.2.2.1, r5.2.2.2.2.2.2.1, ()))).bind fun r13 =>
 (spec_MachineOk r13.2.1.2.2.1.1 r13.2.2.1 r13.2.2.2.1 r13.2.2.2.2.1 r13.2.1.2.2.1.2.2.2.2.1 r13.2.1.2.2.1.2.2.2.2.2.1 r13.2.1.2.2.1.2.2.2.2.2.2.1 r13.2.1.2.2.1.2.2.2.2.2.2.2.1 [] r13.2.2.2.2.2.1).bind fun r14 =>
 br (!r14.1.1)
 (some (((ByteArray.empty, (), (), (), (0 : Int), (0 : Int), (0 : Int), (0 : Int), (), (), ()), ByteArray.empty, (), false, ()), (), ([], [], [], [], [], ())))
 ((spec_l5Text r13.2.1.1.1 r13.2.1.1.2.1 r13.2.1.1.2.2.1 r13.2.1.1.2.2.2.2.2.2.2.2.1).bind fun r15 =>
 (spec_l5Items r13.2.1.1.1 r13.2.1.1.2.1 r13.2.1.1.2.2.1 r13.2.1.1.2.2.2.2.2.2.2.2.1).bind fun r16 =>
 (spec_PlacesOf r13.2.1.1.2.2.2.2.2.1 r13.2.1.1.2.2.2.2.2.2.1 r13.2.1.1.2.2.2.2.2.2.2.1 r16.2.2.1).bind fun r17 =>
 some (((r13.2.1.2.2.1.1, (), (), (), r13.2.1.2.2.1.2.2.2.2.1, r13.2.1.2.2.1.2.2.2.2.2.1, r13.2.1.2.2.1.2.2.2.2.2.2.1, r13.2.1.2.2.1.2.2.2.2.2.2.2.1, (), (), ()), r15.1.1, (), true, ()), (), (r13.2.2.1, r13.2.2.2.1, r13.2.2.2.2.1, r13.2.2.2.2.2.1, r17.2.2.1, ())))))
 ((spec_l5Copy a0_0 a0_1 a0_2 a0_3 a0_4 a0_5 a0_6 a0_7 a0_8 a0_9).bind fun r18 =>
 (loopC spec_CastLine_s0 (((), (), (), a0_8, (a0_8.length : Int), (0 : Int), ()), ((a0_0, a0_1, a0_2, a0_3, a0_4, a0_5, a0_6, a0_7, a0_8, a0_9, ()), (ByteArray.empty, (), (), (), (0 : Int), (0 : Int), (0 : Int), (0 : Int), (), (), ()), (r18.1.1.1, (), (), (), r18.1.1.2.2.2.2.1, r18.1.1.2.2.2.2.2.1, r18.1.1.2.2.2.2.2.2.1, r18.1.1.2.2.2.2.2.2.2.1, (), (), ()), ()), (r18.2.2.1, r18.2.2.2.1, r18.2.2.2.2.1, r18.2.2.2.2.2.2.1, ()))).bind fun r19 =>
 (spec_MachineOk r19.2.1.2.2.1.1 r19.2.2.1 r19.2.2.2.1 r19.2.2.2.2.1 r19.2.1.2.2.1.2.2.2.2.1 r19.2.1.2.2.1.2.2.2.2.2.1 r19.2.1.2.2.1.2.2.2.2.2.2.1 r19.2.1.2.2.1.2.2.2.2.2.2.2.1 [] r19.2.2.2.2.2.1).bind fun r20 =>
 br (!r20.1.1)
 (some (((ByteArray.empty, (), (), (), (0 : Int), (0 : Int), (0 : Int), (0 : Int), (), (), ()), ByteArray.empty, (), false, ()), (), ([], [], [], [], [], ())))
 ((spec_l5Text r19.2.1.1.1 r19.2.1.1.2.1 r19.2.1.1.2.2.1 r19.2.1.1.2.2.2.2.2.2.2.2.1).bind fun r21 =>
 (spec_l5Items r19.2.1.1.1 r19.2.1.1.2.1 r19.2.1.1.2.2.1 r19.2.1.1.2.2.2.2.2.2.2.2.1).bind fun r22 =>
 (spec_PlacesOf r19.2.1.1.2.2.2.2.2.1 r19.2.1.1.2.2.2.2.2.2.1 r19.2.1.1.2.2.2.2.2.2.2.1 r22.2.2.1).bind fun r23 =>
 some (((r19.2.1.2.2.1.1, (), (), (), r19.2.1.2.2.1.2.2.2.2.1, r19.2.1.2.2.1.2.2.2.2.2.1, r19.2.1.2.2.1.2.2.2.2.2.2.1, r19.2.1.2.2.1.2.2.2.2.2.2.2.1, (), (), ()), r21.1.1, (), true, ()), (), (r19.2.2.1, r19.2.2.2.1, r19.2.2.2.2.1, r19.2.2.2.2.2.1, r23.2.2.1, ()))))))
noncomputable def spec_CastLine_C : Ctr := ⟨74, spec_CastLine_arg, spec_CastLine_res, fun x => spec_CastLine x.1.1.1 x.1.1.2.1 x.1.1.2.2.1 x.1.1.2.2.2.1 x.1.1.2.2.2.2.1 x.1.1.2.2.2.2.2.1 x.1.1.2.2.2.2.2.2.1 x.1.1.2.2.2.2.2.2.2.1 x.1.1.2.2.2.2.2.2.2.2.1 x.1.1.2.2.2.2.2.2.2.2.2.1 x.1.2.1, none⟩
def spec_CastLine_H : Hint := ⟨[], [], [], fun _ => []⟩
noncomputable def spec_CastLine_T : List Ctr := [spec_MachineOk_C, spec_l5Items_C, spec_IsFull_C, spec_l5Copy_C, spec_l5Text_C, spec_PlacesOf_C]
noncomputable def spec_CastLine_Ls : List Lp := [spec_CastLine_L0]
theorem spec_CastLine_l0 : ∀ x, spec_CastLine_s0 x = stepW E0 spec_CastLine_T spec_CastLine_Ls spec_CastLine_H (loopAt (bodyOf Tryz.f74) 0) 0 spec_CastLine_h0 [] [(.exit 0, [])] spec_CastLine_r0 x := fun x => by kernel_rfl
theorem spec_CastLine_e : ∀ x, spec_CastLine_C.F x = runBodyW E0 spec_CastLine_T spec_CastLine_Ls spec_CastLine_H 74 Tryz.f74.results.toList (bodyOf Tryz.f74) [(.bx 4 1, 6000000, .i64), (.bx 4 2, 6000001, .i64), (.bx 4 3, 6000002, .mats), (.bx 4 9, 6000003, .mat), (.tm 6, 6000004, .i64)] (spec_CastLine_arg.mk' x) spec_CastLine_res := fun x => by kernel_rfl
theorem spec_CastLine_ok : spec_CastLine_C.Ok E0 := fn_ok (T := spec_CastLine_T) (h := spec_CastLine_H) (Ls := spec_CastLine_Ls) E0_mixed (T_cons spec_MachineOk_ok (T_cons spec_l5Items_ok (T_cons spec_IsFull_ok (T_cons spec_l5Copy_ok (T_cons spec_l5Text_ok (T_cons spec_PlacesOf_ok T_nil)))))) Tryz.func74 (bodyOf_some (by kernel_rfl)) (by kernel_rfl) (loops_of (ks := [0]) (by kernel_rfl) ⟨(loop_one (h := spec_CastLine_H) (own := []) (head := spec_CastLine_h0) (back := []) (exs := [(.exit 0, [])]) (res := spec_CastLine_r0) (step := spec_CastLine_s0) (by kernel_rfl) spec_CastLine_l0), trivial⟩) spec_CastLine_e
def spec_DropMatrix_arg : Sh := ⟨[(0, .agg [.str, .rd [] .i64, .rd [] .i64]), (1, .c (.rd [] .mats)), (2, .agg [.int .i64, .int .i64])], [], []⟩
def spec_DropMatrix_res : List Sh := [⟨[(0, .c (.own 0)), (1, .c (.int .i64)), (2, .c (.bool))], [], [(0, .mats)]⟩]
noncomputable def spec_DropMatrix (a0_0 : ByteArray) (a0_1 : List Int) (a0_2 : List Int) (a1 : List (List (Int × Int))) (a2_0 : Int) (a2_1 : Int) : Option ((Unit × Int × Bool × Unit) × Unit × (List (List (Int × Int)) × Unit)) :=
 (spec_MagazineOk a0_0 a0_1 a0_2 a1).bind fun r1 =>
 br (!r1.1.1)
 (some (((), (0 : Int), false, ()), (), ([], ())))
 ((spec_l2Matrix a0_0 a0_1 a0_2 a2_0 a2_1).bind fun r2 =>
 br (!r2.1.1)
 (some (((), (0 : Int), false, ()), (), ([], ())))
 ((spec_l1Fall a0_2 a2_1).bind fun r3 =>
 ck (0 ≤ r3.1.1)
 (ck (r3.1.1.toNat < a1.length)
 (let x4 : List (Int × Int) := a1.getD r3.1.1.toNat [];
 let x5 : Bool := (x4.length : Int) == (20 : Int);
 br x5
 (some (((), (0 : Int), false, ()), (), ([], ())))
 ((spec_l2Copy a1).bind fun r6 =>
 ck (0 ≤ r3.1.1)
 (ck (r3.1.1.toNat < r6.2.2.1.length)
 (ck (r3.1.1.toNat < r6.2.2.1.length)
 (ck (r3.1.1.toNat < r6.2.2.1.length)
 (ck (r3.1.1.toNat < r6.2.2.1.length)
 (let x7 : List (Int × Int) := r6.2.2.1.getD r3.1.1.toNat [];
 ck ((x7.length + [(a2_0, a2_1)].length) * 16 ≤ 140737488355328 ∧ (x7.length + [(a2_0, a2_1)].length) ≤ 9223372036854775807)
 (let x8 : List (Int × Int) := x7 ++ [(a2_0, a2_1)];
 ck (0 ≤ r3.1.1)
 (ck (r3.1.1.toNat < r6.2.2.1.length)
 (ck (r3.1.1.toNat = r3.1.1.toNat ∧ r3.1.1.toNat < r6.2.2.1.length)
 (let x9 : List (List (Int × Int)) := r6.2.2.1.set r3.1.1.toNat x8;
 some (((), r3.1.1, true, ()), (), (x9, ()))))))))))))))))
noncomputable def spec_DropMatrix_C : Ctr := ⟨111, spec_DropMatrix_arg, spec_DropMatrix_res, fun x => spec_DropMatrix x.1.1.1 x.1.1.2.1 x.1.1.2.2.1 x.1.2.1 x.1.2.2.1.1 x.1.2.2.1.2.1, none⟩
def spec_DropMatrix_H : Hint := ⟨[], [], [], fun _ => []⟩
noncomputable def spec_DropMatrix_T : List Ctr := [spec_MagazineOk_C, spec_l2Matrix_C, spec_l1Fall_C, spec_l2Copy_C]
noncomputable def spec_DropMatrix_Ls : List Lp := []
theorem spec_DropMatrix_e : ∀ x, spec_DropMatrix_C.F x = runBodyW E0 spec_DropMatrix_T spec_DropMatrix_Ls spec_DropMatrix_H 111 Tryz.f111.results.toList (bodyOf Tryz.f111) [(.tm 6, 6000000, .mats)] (spec_DropMatrix_arg.mk' x) spec_DropMatrix_res := fun x => by kernel_rfl
theorem spec_DropMatrix_ok : spec_DropMatrix_C.Ok E0 := fn_ok (T := spec_DropMatrix_T) (h := spec_DropMatrix_H) (Ls := spec_DropMatrix_Ls) E0_mixed (T_cons spec_MagazineOk_ok (T_cons spec_l2Matrix_ok (T_cons spec_l1Fall_ok (T_cons spec_l2Copy_ok T_nil)))) Tryz.func111 (bodyOf_some (by kernel_rfl)) (by kernel_rfl) (loops_of (ks := []) (by kernel_rfl) trivial) spec_DropMatrix_e
def spec_DropWaiting_arg : Sh := ⟨[(0, .agg [.str, .rd [] .i64, .rd [] .i64, .rd [] .mats, .int .i64, .int .i64, .int .i64, .int .i64, .rd [] .mat, .rd [] .mat]), (1, .c (.int .i64))], [], []⟩
def spec_DropWaiting_res : List Sh := [⟨[(0, .agg [.str, .own 0, .own 1, .own 2, .int .i64, .int .i64, .int .i64, .int .i64, .own 3, .own 4]), (1, .c (.int .i64))], [], [(0, .i64), (1, .i64), (2, .mats), (3, .mat), (4, .mat)]⟩]
noncomputable def spec_DropWaiting_s0 (x : (Int × Unit × Unit × Unit × List (Int × Int) × Int × Int × Unit) × ((ByteArray × List Int × List Int × List (List (Int × Int)) × Int × Int × Int × Int × List (Int × Int) × List (Int × Int) × Unit) × (ByteArray × Unit × Unit × Unit × Int × Int × Int × Int × Unit × Unit × Unit) × (ByteArray × Unit × Unit × Unit × Int × Int × Int × Int × Unit × Unit × Unit) × Unit) × (List Int × List Int × List (List (Int × Int)) × List (Int × Int) × List (Int × Int) × Unit)) : Option (((Int × Unit × Unit × Unit × List (Int × Int) × Int × Int × Unit) × ((ByteArray × List Int × List Int × List (List (Int × Int)) × Int × Int × Int × Int × List (Int × Int) × List (Int × Int) × Unit) × (ByteArray × Unit × Unit × Unit × Int × Int × Int × Int × Unit × Unit × Unit) × (ByteArray × Unit × Unit × Unit × Int × Int × Int × Int × Unit × Unit × Unit) × Unit) × (List Int × List Int × List (List (Int × Int)) × List (Int × Int) × List (Int × Int) × Unit)) ⊕ (((Unit × Int × Unit) × ((ByteArray × Unit × Unit × Unit × Int × Int × Int × Int × Unit × Unit × Unit) × Unit) × (List Int × List Int × List (List (Int × Int)) × List (Int × Int) × List (Int × Int) × Unit)) ⊕ ((Unit × Unit × Unit × Unit) × ((ByteArray × List Int × List Int × List (List (Int × Int)) × Int × Int × Int × Int × List (Int × Int) × List (Int × Int) × Unit) × (ByteArray × Unit × Unit × Unit × Int × Int × Int × Int × Unit × Unit × Unit) × (ByteArray × Unit × Unit × Unit × Int × Int × Int × Int × Unit × Unit × Unit) × Unit) × (List Int × List Int × List (List (Int × Int)) × List (Int × Int) × List (Int × Int) × Unit)))) :=
 let x4 : Bool := decide (x.1.2.2.2.2.2.2.1 < x.1.2.2.2.2.2.1);
 br x4
 (ck (0 ≤ x.1.2.2.2.2.2.2.1)
 (ck (x.1.2.2.2.2.2.2.1.toNat < x.1.2.2.2.2.1.length)
 (let x5 : Int × Int := x.1.2.2.2.2.1.getD x.1.2.2.2.2.2.2.1.toNat (0, 0);
 let x6 : Bool := x.1.2.2.2.2.2.2.1 == x.1.1;
 br x6
 (some (.inr (.inl (((), x.1.2.2.2.2.2.2.1, ()), ((x.2.1.2.2.1.1, (), (), (), x.2.1.2.2.1.2.2.2.2.1, x.2.1.2.2.1.2.2.2.2.2.1, x.2.1.2.2.1.2.2.2.2.2.2.1, x.2.1.2.2.1.2.2.2.2.2.2.2.1, (), (), ()), ()), (x.2.2.1, x.2.2.2.1, x.2.2.2.2.1, x.2.2.2.2.2.1, x.2.2.2.2.2.2.1, ())))))
 ((spec_DropMatrix x.2.1.2.2.1.1 x.2.2.1 x.2.2.2.1 x.2.2.2.2.1 x5.1 x5.2).bind fun r7 =>
 br (!r7.1.2.2.1)
 (some (.inr (.inl (((), x.1.2.2.2.2.2.2.1, ()), ((x.2.1.2.2.1.1, (), (), (), x.2.1.2.2.1.2.2.2.2.1, x.2.1.2.2.1.2.2.2.2.2.1, x.2.1.2.2.1.2.2.2.2.2.2.1, x.2.1.2.2.1.2.2.2.2.2.2.2.1, (), (), ()), ()), (x.2.2.1, x.2.2.2.1, x.2.2.2.2.1, x.2.2.2.2.2.1, x.2.2.2.2.2.2.1, ())))))
 (ck (1 ≤ x.2.2.2.2.2.2.1.length ∧ x.2.2.2.2.2.2.1.length ≤ x.2.2.2.2.2.2.1.length)
 (let x8 : List (Int × Int) := cut x.2.2.2.2.2.2.1 1 x.2.2.2.2.2.2.1.length;
 let x9 : Int := w64 (x.1.2.2.2.2.2.2.1 + (1 : Int));
 some (.inl ((x.1.1, (), (), (), x.1.2.2.2.2.1, x.1.2.2.2.2.2.1, x9, ()), ((x.2.1.1.1, x.2.1.1.2.1, x.2.1.1.2.2.1, x.2.1.1.2.2.2.1, x.2.1.1.2.2.2.2.1, x.2.1.1.2.2.2.2.2.1, x.2.1.1.2.2.2.2.2.2.1, x.2.1.1.2.2.2.2.2.2.2.1, x.2.1.1.2.2.2.2.2.2.2.2.1, x.2.1.1.2.2.2.2.2.2.2.2.2.1, ()), (x.2.1.2.1.1, (), (), (), x.2.1.2.1.2.2.2.2.1, x.2.1.2.1.2.2.2.2.2.1, x.2.1.2.1.2.2.2.2.2.2.1, x.2.1.2.1.2.2.2.2.2.2.2.1, (), (), ()), (x.2.1.2.2.1.1, (), (), (), x.2.1.2.2.1.2.2.2.2.1, x.2.1.2.2.1.2.2.2.2.2.1, x.2.1.2.2.1.2.2.2.2.2.2.1, x.2.1.2.2.1.2.2.2.2.2.2.2.1, (), (), ()), ()), (x.2.2.1, x.2.2.2.1, r7.2.2.1, x.2.2.2.2.2.1, x8, ())))))))))
 (some (.inr (.inr (((), (), (), ()), ((x.2.1.1.1, x.2.1.1.2.1, x.2.1.1.2.2.1, x.2.1.1.2.2.2.1, x.2.1.1.2.2.2.2.1, x.2.1.1.2.2.2.2.2.1, x.2.1.1.2.2.2.2.2.2.1, x.2.1.1.2.2.2.2.2.2.2.1, x.2.1.1.2.2.2.2.2.2.2.2.1, x.2.1.1.2.2.2.2.2.2.2.2.2.1, ()), (x.2.1.2.1.1, (), (), (), x.2.1.2.1.2.2.2.2.1, x.2.1.2.1.2.2.2.2.2.1, x.2.1.2.1.2.2.2.2.2.2.1, x.2.1.2.1.2.2.2.2.2.2.2.1, (), (), ()), (x.2.1.2.2.1.1, (), (), (), x.2.1.2.2.1.2.2.2.2.1, x.2.1.2.2.1.2.2.2.2.2.1, x.2.1.2.2.1.2.2.2.2.2.2.1, x.2.1.2.2.1.2.2.2.2.2.2.2.1, (), (), ()), ()), (x.2.2.1, x.2.2.2.1, x.2.2.2.2.1, x.2.2.2.2.2.1, x.2.2.2.2.2.2.1, ())))))
def spec_DropWaiting_h0 : Sh := ⟨[(1, .c (.int .i64)), (2, .c (.box 0 0)), (4, .c (.box 1 0)), (6, .c (.box 2 0)), (23, .c (.rd [] .mat)), (24, .c (.int .i64)), (25, .c (.int .i64))], [(0, .cells [.str, .rd [] .i64, .rd [] .i64, .rd [] .mats, .int .i64, .int .i64, .int .i64, .int .i64, .rd [] .mat, .rd [] .mat]), (1, .cells [.str, .nil, .nil, .nil, .int .i64, .int .i64, .int .i64, .int .i64, .nil, .nil]), (2, .cells [.str, .own 0, .own 1, .own 2, .int .i64, .int .i64, .int .i64, .int .i64, .own 3, .own 4])], [(0, .i64), (1, .i64), (2, .mats), (3, .mat), (4, .mat)]⟩
def spec_DropWaiting_r0 : List Sh := [⟨[(4, .c (.box 0 0)), (5, .c (.int .i64))], [(0, .cells [.str, .own 0, .own 1, .own 2, .int .i64, .int .i64, .int .i64, .int .i64, .own 3, .own 4])], [(0, .i64), (1, .i64), (2, .mats), (3, .mat), (4, .mat)]⟩, ⟨[(2, .c (.box 0 0)), (4, .c (.box 1 0)), (6, .c (.box 2 0))], [(0, .cells [.str, .rd [] .i64, .rd [] .i64, .rd [] .mats, .int .i64, .int .i64, .int .i64, .int .i64, .rd [] .mat, .rd [] .mat]), (1, .cells [.str, .nil, .nil, .nil, .int .i64, .int .i64, .int .i64, .int .i64, .nil, .nil]), (2, .cells [.str, .own 0, .own 1, .own 2, .int .i64, .int .i64, .int .i64, .int .i64, .own 3, .own 4])], [(0, .i64), (1, .i64), (2, .mats), (3, .mat), (4, .mat)]⟩]
noncomputable def spec_DropWaiting_L0 : Lp := ⟨0, [], spec_DropWaiting_h0, [], [(.ret, []), (.exit 0, [])], spec_DropWaiting_r0, loopC spec_DropWaiting_s0⟩
noncomputable def spec_DropWaiting (a0_0 : ByteArray) (a0_1 : List Int) (a0_2 : List Int) (a0_3 : List (List (Int × Int))) (a0_4 : Int) (a0_5 : Int) (a0_6 : Int) (a0_7 : Int) (a0_8 : List (Int × Int)) (a0_9 : List (Int × Int)) (a1 : Int) : Option (((ByteArray × Unit × Unit × Unit × Int × Int × Int × Int × Unit × Unit × Unit) × Int × Unit) × Unit × (List Int × List Int × List (List (Int × Int)) × List (Int × Int) × List (Int × Int) × Unit)) :=
 (spec_MachineOk a0_0 a0_1 a0_2 a0_3 a0_4 a0_5 a0_6 a0_7 a0_8 a0_9).bind fun r1 =>
 br (!r1.1.1)
 (some (((ByteArray.empty, (), (), (), (0 : Int), (0 : Int), (0 : Int), (0 : Int), (), (), ()), (-1 : Int), ()), (), ([], [], [], [], [], ())))
 (let x2 : Bool := decide (a1 < (0 : Int));
 br x2
 (some (((ByteArray.empty, (), (), (), (0 : Int), (0 : Int), (0 : Int), (0 : Int), (), (), ()), (-1 : Int), ()), (), ([], [], [], [], [], ())))
 ((spec_l5Copy a0_0 a0_1 a0_2 a0_3 a0_4 a0_5 a0_6 a0_7 a0_8 a0_9).bind fun r3 =>
 (loopC spec_DropWaiting_s0 ((a1, (), (), (), a0_9, (a0_9.length : Int), (0 : Int), ()), ((a0_0, a0_1, a0_2, a0_3, a0_4, a0_5, a0_6, a0_7, a0_8, a0_9, ()), (ByteArray.empty, (), (), (), (0 : Int), (0 : Int), (0 : Int), (0 : Int), (), (), ()), (r3.1.1.1, (), (), (), r3.1.1.2.2.2.2.1, r3.1.1.2.2.2.2.2.1, r3.1.1.2.2.2.2.2.2.1, r3.1.1.2.2.2.2.2.2.2.1, (), (), ()), ()), (r3.2.2.1, r3.2.2.2.1, r3.2.2.2.2.1, r3.2.2.2.2.2.1, r3.2.2.2.2.2.2.1, ()))).bind fun r10 =>
 sumK r10 (fun y13 =>
 some (((y13.2.1.1.1, (), (), (), y13.2.1.1.2.2.2.2.1, y13.2.1.1.2.2.2.2.2.1, y13.2.1.1.2.2.2.2.2.2.1, y13.2.1.1.2.2.2.2.2.2.2.1, (), (), ()), y13.1.2.1, ()), (), (y13.2.2.1, y13.2.2.2.1, y13.2.2.2.2.1, y13.2.2.2.2.2.1, y13.2.2.2.2.2.2.1, ()))) (fun y14 =>
 some (((y14.2.1.2.2.1.1, (), (), (), y14.2.1.2.2.1.2.2.2.2.1, y14.2.1.2.2.1.2.2.2.2.2.1, y14.2.1.2.2.1.2.2.2.2.2.2.1, y14.2.1.2.2.1.2.2.2.2.2.2.2.1, (), (), ()), (y14.2.1.1.2.2.2.2.2.2.2.2.2.1.length : Int), ()), (), (y14.2.2.1, y14.2.2.2.1, y14.2.2.2.2.1, y14.2.2.2.2.2.1, y14.2.2.2.2.2.2.1, ())))))
noncomputable def spec_DropWaiting_C : Ctr := ⟨75, spec_DropWaiting_arg, spec_DropWaiting_res, fun x => spec_DropWaiting x.1.1.1 x.1.1.2.1 x.1.1.2.2.1 x.1.1.2.2.2.1 x.1.1.2.2.2.2.1 x.1.1.2.2.2.2.2.1 x.1.1.2.2.2.2.2.2.1 x.1.1.2.2.2.2.2.2.2.1 x.1.1.2.2.2.2.2.2.2.2.1 x.1.1.2.2.2.2.2.2.2.2.2.1 x.1.2.1, none⟩
def spec_DropWaiting_H : Hint := ⟨[53], [], [], fun _ => []⟩
noncomputable def spec_DropWaiting_T : List Ctr := [spec_MachineOk_C, spec_l5Copy_C, spec_DropMatrix_C]
noncomputable def spec_DropWaiting_Ls : List Lp := [spec_DropWaiting_L0]
theorem spec_DropWaiting_l0 : ∀ x, spec_DropWaiting_s0 x = stepW E0 spec_DropWaiting_T spec_DropWaiting_Ls spec_DropWaiting_H (loopAt (bodyOf Tryz.f75) 0) 0 spec_DropWaiting_h0 [] [(.ret, []), (.exit 0, [])] spec_DropWaiting_r0 x := fun x => by kernel_rfl
theorem spec_DropWaiting_e : ∀ x, spec_DropWaiting_C.F x = runBodyW E0 spec_DropWaiting_T spec_DropWaiting_Ls spec_DropWaiting_H 75 Tryz.f75.results.toList (bodyOf Tryz.f75) [(.bx 4 1, 6000000, .i64), (.bx 4 2, 6000001, .i64), (.bx 4 3, 6000002, .mats), (.bx 4 8, 6000003, .mat), (.bx 4 9, 6000004, .mat)] (spec_DropWaiting_arg.mk' x) spec_DropWaiting_res := fun x => by kernel_rfl
theorem spec_DropWaiting_ok : spec_DropWaiting_C.Ok E0 := fn_ok (T := spec_DropWaiting_T) (h := spec_DropWaiting_H) (Ls := spec_DropWaiting_Ls) E0_mixed (T_cons spec_MachineOk_ok (T_cons spec_l5Copy_ok (T_cons spec_DropMatrix_ok T_nil))) Tryz.func75 (bodyOf_some (by kernel_rfl)) (by kernel_rfl) (loops_of (ks := [0]) (by kernel_rfl) ⟨(loop_one (h := spec_DropWaiting_H) (own := []) (head := spec_DropWaiting_h0) (back := []) (exs := [(.ret, []), (.exit 0, [])]) (res := spec_DropWaiting_r0) (step := spec_DropWaiting_s0) (by kernel_rfl) spec_DropWaiting_l0), trivial⟩) spec_DropWaiting_e
def spec_SetLines_arg : Sh := ⟨[(0, .agg [.str, .rd [] .i64, .rd [] .i64, .rd [] .mats, .int .i64, .int .i64, .int .i64, .int .i64, .rd [] .mat, .rd [] .mat]), (1, .c (.rd [] .str))], [], []⟩
def spec_SetLines_res : List Sh := [⟨[(0, .agg [.str, .own 0, .own 1, .own 2, .int .i64, .int .i64, .int .i64, .int .i64, .own 3, .own 4]), (1, .c (.own 5)), (2, .c (.bool))], [], [(0, .i64), (1, .i64), (2, .mats), (3, .mat), (4, .mat), (5, .str)]⟩]
noncomputable def spec_SetLines_s0 (x : (Unit × Unit × Unit × List ByteArray × Int × Int × Unit) × ((ByteArray × Unit × Unit × Unit × Int × Int × Int × Int × Unit × Unit × Unit) × (ByteArray × Unit × Unit × Unit × Int × Int × Int × Int × Unit × Unit × Unit) × Unit) × (List ByteArray × List Int × List Int × List (List (Int × Int)) × List (Int × Int) × List (Int × Int) × Unit)) : Option (((Unit × Unit × Unit × List ByteArray × Int × Int × Unit) × ((ByteArray × Unit × Unit × Unit × Int × Int × Int × Int × Unit × Unit × Unit) × (ByteArray × Unit × Unit × Unit × Int × Int × Int × Int × Unit × Unit × Unit) × Unit) × (List ByteArray × List Int × List Int × List (List (Int × Int)) × List (Int × Int) × List (Int × Int) × Unit)) ⊕ (((Unit × Unit × Bool × Unit) × ((ByteArray × Unit × Unit × Unit × Int × Int × Int × Int × Unit × Unit × Unit) × Unit) × Unit) ⊕ ((Unit × Unit × Unit × Unit) × ((ByteArray × Unit × Unit × Unit × Int × Int × Int × Int × Unit × Unit × Unit) × (ByteArray × Unit × Unit × Unit × Int × Int × Int × Int × Unit × Unit × Unit) × Unit) × (List ByteArray × List Int × List Int × List (List (Int × Int)) × List (Int × Int) × List (Int × Int) × Unit)))) :=
 let x3 : Bool := decide (x.1.2.2.2.2.2.1 < x.1.2.2.2.2.1);
 br x3
 (ck (0 ≤ x.1.2.2.2.2.2.1)
 (ck (x.1.2.2.2.2.2.1.toNat < x.1.2.2.2.1.length)
 (let x4 : ByteArray := x.1.2.2.2.1.getD x.1.2.2.2.2.2.1.toNat ByteArray.empty;
 (spec_KeyText x.2.1.1.1 x.2.2.2.1 x.2.2.2.2.1 x.2.2.2.2.2.1 x.2.1.1.2.2.2.2.1 x.2.1.1.2.2.2.2.2.1 x.2.1.1.2.2.2.2.2.2.1 x.2.1.1.2.2.2.2.2.2.2.1 x.2.2.2.2.2.2.1 x.2.2.2.2.2.2.2.1 x4).bind fun r5 =>
 (spec_CastLine r5.1.1.1 r5.2.2.1 r5.2.2.2.1 r5.2.2.2.2.1 r5.1.1.2.2.2.2.1 r5.1.1.2.2.2.2.2.1 r5.1.1.2.2.2.2.2.2.1 r5.1.1.2.2.2.2.2.2.2.1 r5.2.2.2.2.2.1 r5.2.2.2.2.2.2.1 true).bind fun r6 =>
 let x7 : Bool := decide (r5.1.2.1 < (x4.size : Int));
 br x7
 (some (.inr (.inl (((), (), false, ()), ((ByteArray.empty, (), (), (), (0 : Int), (0 : Int), (0 : Int), (0 : Int), (), (), ()), ()), ()))))
 (br (!r6.1.2.2.2.1)
 (some (.inr (.inl (((), (), false, ()), ((ByteArray.empty, (), (), (), (0 : Int), (0 : Int), (0 : Int), (0 : Int), (), (), ()), ()), ()))))
 ((spec_DropWaiting r6.1.1.1 r6.2.2.1 r6.2.2.2.1 r6.2.2.2.2.1 r6.1.1.2.2.2.2.1 r6.1.1.2.2.2.2.2.1 r6.1.1.2.2.2.2.2.2.1 r6.1.1.2.2.2.2.2.2.2.1 [] r6.2.2.2.2.2.1 (240 : Int)).bind fun r8 =>
 ck ((x.2.2.1.length + [r6.1.2.1].length) * 16 ≤ 140737488355328 ∧ (x.2.2.1.length + [r6.1.2.1].length) ≤ 9223372036854775807)
 (let x9 : List ByteArray := x.2.2.1 ++ [r6.1.2.1];
 let x10 : Int := w64 (x.1.2.2.2.2.2.1 + (1 : Int));
 some (.inl (((), (), (), x.1.2.2.2.1, x.1.2.2.2.2.1, x10, ()), ((r8.1.1.1, (), (), (), r8.1.1.2.2.2.2.1, r8.1.1.2.2.2.2.2.1, r8.1.1.2.2.2.2.2.2.1, r8.1.1.2.2.2.2.2.2.2.1, (), (), ()), (x.2.1.2.1.1, (), (), (), x.2.1.2.1.2.2.2.2.1, x.2.1.2.1.2.2.2.2.2.1, x.2.1.2.1.2.2.2.2.2.2.1, x.2.1.2.1.2.2.2.2.2.2.2.1, (), (), ()), ()), (x9, r8.2.2.1, r8.2.2.2.1, r8.2.2.2.2.1, r8.2.2.2.2.2.1, r8.2.2.2.2.2.2.1, ())))))))))
 (some (.inr (.inr (((), (), (), ()), ((x.2.1.1.1, (), (), (), x.2.1.1.2.2.2.2.1, x.2.1.1.2.2.2.2.2.1, x.2.1.1.2.2.2.2.2.2.1, x.2.1.1.2.2.2.2.2.2.2.1, (), (), ()), (x.2.1.2.1.1, (), (), (), x.2.1.2.1.2.2.2.2.1, x.2.1.2.1.2.2.2.2.2.1, x.2.1.2.1.2.2.2.2.2.2.1, x.2.1.2.1.2.2.2.2.2.2.2.1, (), (), ()), ()), (x.2.2.1, x.2.2.2.1, x.2.2.2.2.1, x.2.2.2.2.2.1, x.2.2.2.2.2.2.1, x.2.2.2.2.2.2.2.1, ())))))
def spec_SetLines_h0 : Sh := ⟨[(2, .c (.box 0 0)), (4, .c (.box 1 0)), (7, .c (.own 0)), (23, .c (.rd [] .str)), (24, .c (.int .i64)), (25, .c (.int .i64))], [(0, .cells [.str, .own 1, .own 2, .own 3, .int .i64, .int .i64, .int .i64, .int .i64, .own 4, .own 5]), (1, .cells [.str, .nil, .nil, .nil, .int .i64, .int .i64, .int .i64, .int .i64, .nil, .nil])], [(0, .str), (1, .i64), (2, .i64), (3, .mats), (4, .mat), (5, .mat)]⟩
def spec_SetLines_r0 : List Sh := [⟨[(4, .c (.box 0 0)), (5, .c (.nil)), (6, .c (.bool))], [(0, .cells [.str, .nil, .nil, .nil, .int .i64, .int .i64, .int .i64, .int .i64, .nil, .nil])], []⟩, ⟨[(2, .c (.box 0 0)), (4, .c (.box 1 0)), (7, .c (.own 0))], [(0, .cells [.str, .own 1, .own 2, .own 3, .int .i64, .int .i64, .int .i64, .int .i64, .own 4, .own 5]), (1, .cells [.str, .nil, .nil, .nil, .int .i64, .int .i64, .int .i64, .int .i64, .nil, .nil])], [(0, .str), (1, .i64), (2, .i64), (3, .mats), (4, .mat), (5, .mat)]⟩]
noncomputable def spec_SetLines_L0 : Lp := ⟨0, [], spec_SetLines_h0, [], [(.ret, []), (.exit 0, [])], spec_SetLines_r0, loopC spec_SetLines_s0⟩
noncomputable def spec_SetLines (a0_0 : ByteArray) (a0_1 : List Int) (a0_2 : List Int) (a0_3 : List (List (Int × Int))) (a0_4 : Int) (a0_5 : Int) (a0_6 : Int) (a0_7 : Int) (a0_8 : List (Int × Int)) (a0_9 : List (Int × Int)) (a1 : List ByteArray) : Option (((ByteArray × Unit × Unit × Unit × Int × Int × Int × Int × Unit × Unit × Unit) × Unit × Bool × Unit) × Unit × (List Int × List Int × List (List (Int × Int)) × List (Int × Int) × List (Int × Int) × List ByteArray × Unit)) :=
 (spec_MachineOk a0_0 a0_1 a0_2 a0_3 a0_4 a0_5 a0_6 a0_7 a0_8 a0_9).bind fun r1 =>
 br (!r1.1.1)
 (some (((ByteArray.empty, (), (), (), (0 : Int), (0 : Int), (0 : Int), (0 : Int), (), (), ()), (), false, ()), (), ([], [], [], [], [], [], ())))
 ((spec_l5Copy a0_0 a0_1 a0_2 a0_3 a0_4 a0_5 a0_6 a0_7 a0_8 a0_9).bind fun r2 =>
 (loopC spec_SetLines_s0 (((), (), (), a1, (a1.length : Int), (0 : Int), ()), ((r2.1.1.1, (), (), (), r2.1.1.2.2.2.2.1, r2.1.1.2.2.2.2.2.1, r2.1.1.2.2.2.2.2.2.1, r2.1.1.2.2.2.2.2.2.2.1, (), (), ()), (ByteArray.empty, (), (), (), (0 : Int), (0 : Int), (0 : Int), (0 : Int), (), (), ()), ()), ([], r2.2.2.1, r2.2.2.2.1, r2.2.2.2.2.1, r2.2.2.2.2.2.1, r2.2.2.2.2.2.2.1, ()))).bind fun r11 =>
 sumK r11 (fun y14 =>
 some (((y14.2.1.1.1, (), (), (), y14.2.1.1.2.2.2.2.1, y14.2.1.1.2.2.2.2.2.1, y14.2.1.1.2.2.2.2.2.2.1, y14.2.1.1.2.2.2.2.2.2.2.1, (), (), ()), (), y14.1.2.2.1, ()), (), ([], [], [], [], [], [], ()))) (fun y15 =>
 some (((y15.2.1.1.1, (), (), (), y15.2.1.1.2.2.2.2.1, y15.2.1.1.2.2.2.2.2.1, y15.2.1.1.2.2.2.2.2.2.1, y15.2.1.1.2.2.2.2.2.2.2.1, (), (), ()), (), true, ()), (), (y15.2.2.2.1, y15.2.2.2.2.1, y15.2.2.2.2.2.1, y15.2.2.2.2.2.2.1, y15.2.2.2.2.2.2.2.1, y15.2.2.1, ()))))
noncomputable def spec_SetLines_C : Ctr := ⟨31, spec_SetLines_arg, spec_SetLines_res, fun x => spec_SetLines x.1.1.1 x.1.1.2.1 x.1.1.2.2.1 x.1.1.2.2.2.1 x.1.1.2.2.2.2.1 x.1.1.2.2.2.2.2.1 x.1.1.2.2.2.2.2.2.1 x.1.1.2.2.2.2.2.2.2.1 x.1.1.2.2.2.2.2.2.2.2.1 x.1.1.2.2.2.2.2.2.2.2.2.1 x.1.2.1, none⟩
def spec_SetLines_H : Hint := ⟨[], [], [], fun _ => []⟩
noncomputable def spec_SetLines_T : List Ctr := [spec_MachineOk_C, spec_l5Copy_C, spec_KeyText_C, spec_CastLine_C, spec_DropWaiting_C]
noncomputable def spec_SetLines_Ls : List Lp := [spec_SetLines_L0]
theorem spec_SetLines_l0 : ∀ x, spec_SetLines_s0 x = stepW E0 spec_SetLines_T spec_SetLines_Ls spec_SetLines_H (loopAt (bodyOf Tryz.f31) 0) 0 spec_SetLines_h0 [] [(.ret, []), (.exit 0, [])] spec_SetLines_r0 x := fun x => by kernel_rfl
theorem spec_SetLines_e : ∀ x, spec_SetLines_C.F x = runBodyW E0 spec_SetLines_T spec_SetLines_Ls spec_SetLines_H 31 Tryz.f31.results.toList (bodyOf Tryz.f31) [(.bx 4 1, 6000000, .i64), (.bx 4 2, 6000001, .i64), (.bx 4 3, 6000002, .mats), (.bx 4 8, 6000003, .mat), (.bx 4 9, 6000004, .mat), (.tm 5, 6000005, .str)] (spec_SetLines_arg.mk' x) spec_SetLines_res := fun x => by kernel_rfl
theorem spec_SetLines_ok : spec_SetLines_C.Ok E0 := fn_ok (T := spec_SetLines_T) (h := spec_SetLines_H) (Ls := spec_SetLines_Ls) E0_mixed (T_cons spec_MachineOk_ok (T_cons spec_l5Copy_ok (T_cons spec_KeyText_ok (T_cons spec_CastLine_ok (T_cons spec_DropWaiting_ok T_nil))))) Tryz.func31 (bodyOf_some (by kernel_rfl)) (by kernel_rfl) (loops_of (ks := [0]) (by kernel_rfl) ⟨(loop_one (h := spec_SetLines_H) (own := []) (head := spec_SetLines_h0) (back := []) (exs := [(.ret, []), (.exit 0, [])]) (res := spec_SetLines_r0) (step := spec_SetLines_s0) (by kernel_rfl) spec_SetLines_l0), trivial⟩) spec_SetLines_e
def spec_CastGalley_arg : Sh := ⟨[(0, .agg [.str, .rd [] .i64, .rd [] .i64, .rd [] .mats, .int .i64, .int .i64, .int .i64, .int .i64, .rd [] .mat, .rd [] .mat]), (1, .c (.rd [] .str))], [], []⟩
def spec_CastGalley_res : List Sh := [⟨[(0, .agg [.str, .own 0, .own 1, .own 2, .int .i64, .int .i64, .int .i64, .int .i64, .own 3, .own 4]), (1, .c (.own 5)), (2, .c (.bool))], [], [(0, .i64), (1, .i64), (2, .mats), (3, .mat), (4, .mat), (5, .i64)]⟩]
noncomputable def spec_CastGalley_s0 (x : (List ByteArray × Unit × Unit × Unit × Unit × Int × Int × Unit) × ((ByteArray × Unit × Unit × Unit × Int × Int × Int × Int × Unit × Unit × Unit) × (ByteArray × Unit × Unit × Unit × Int × Int × Int × Int × Unit × Unit × Unit) × Unit) × (List Int × List ByteArray × List Int × List Int × List (List (Int × Int)) × List (Int × Int) × List (Int × Int) × Unit)) : Option (((List ByteArray × Unit × Unit × Unit × Unit × Int × Int × Unit) × ((ByteArray × Unit × Unit × Unit × Int × Int × Int × Int × Unit × Unit × Unit) × (ByteArray × Unit × Unit × Unit × Int × Int × Int × Int × Unit × Unit × Unit) × Unit) × (List Int × List ByteArray × List Int × List Int × List (List (Int × Int)) × List (Int × Int) × List (Int × Int) × Unit)) ⊕ ((Unit × Unit × Unit × Unit) × ((ByteArray × Unit × Unit × Unit × Int × Int × Int × Int × Unit × Unit × Unit) × (ByteArray × Unit × Unit × Unit × Int × Int × Int × Int × Unit × Unit × Unit) × Unit) × (List Int × List Int × List Int × List (List (Int × Int)) × List (Int × Int) × List (Int × Int) × Unit))) :=
 let x5 : Bool := decide (x.1.2.2.2.2.2.2.1 < x.1.2.2.2.2.2.1);
 br x5
 (ck (0 ≤ x.1.2.2.2.2.2.2.1)
 (ck (x.1.2.2.2.2.2.2.1.toNat < x.2.2.2.1.length)
 (ck (x.1.2.2.2.2.2.2.1.toNat < x.2.2.2.1.length)
 (let x6 : ByteArray := x.2.2.2.1.getD x.1.2.2.2.2.2.2.1.toNat ByteArray.empty;
 ck (0 ≤ x.1.2.2.2.2.2.2.1)
 (ck (x.1.2.2.2.2.2.2.1.toNat < x.1.1.length)
 (let x7 : ByteArray := x.1.1.getD x.1.2.2.2.2.2.2.1.toNat ByteArray.empty;
 let x8 : Bool := !strEq x6 x7;
 br x8
 (ck ((x.2.2.1.length + [x.1.2.2.2.2.2.2.1].length) * 8 ≤ 140737488355328 ∧ (x.2.2.1.length + [x.1.2.2.2.2.2.2.1].length) ≤ 9223372036854775807)
 (let x9 : List Int := x.2.2.1 ++ [x.1.2.2.2.2.2.2.1];
 let x10 : Int := w64 (x.1.2.2.2.2.2.2.1 + (1 : Int));
 some (.inl ((x.1.1, (), (), (), (), x.1.2.2.2.2.2.1, x10, ()), ((x.2.1.1.1, (), (), (), x.2.1.1.2.2.2.2.1, x.2.1.1.2.2.2.2.2.1, x.2.1.1.2.2.2.2.2.2.1, x.2.1.1.2.2.2.2.2.2.2.1, (), (), ()), (x.2.1.2.1.1, (), (), (), x.2.1.2.1.2.2.2.2.1, x.2.1.2.1.2.2.2.2.2.1, x.2.1.2.1.2.2.2.2.2.2.1, x.2.1.2.1.2.2.2.2.2.2.2.1, (), (), ()), ()), (x9, x.2.2.2.1, x.2.2.2.2.1, x.2.2.2.2.2.1, x.2.2.2.2.2.2.1, x.2.2.2.2.2.2.2.1, x.2.2.2.2.2.2.2.2.1, ())))))
 (let x11 : Int := w64 (x.1.2.2.2.2.2.2.1 + (1 : Int));
 some (.inl ((x.1.1, (), (), (), (), x.1.2.2.2.2.2.1, x11, ()), ((x.2.1.1.1, (), (), (), x.2.1.1.2.2.2.2.1, x.2.1.1.2.2.2.2.2.1, x.2.1.1.2.2.2.2.2.2.1, x.2.1.1.2.2.2.2.2.2.2.1, (), (), ()), (x.2.1.2.1.1, (), (), (), x.2.1.2.1.2.2.2.2.1, x.2.1.2.1.2.2.2.2.2.1, x.2.1.2.1.2.2.2.2.2.2.1, x.2.1.2.1.2.2.2.2.2.2.2.1, (), (), ()), ()), (x.2.2.1, x.2.2.2.1, x.2.2.2.2.1, x.2.2.2.2.2.1, x.2.2.2.2.2.2.1, x.2.2.2.2.2.2.2.1, x.2.2.2.2.2.2.2.2.1, ()))))))))))
 (some (.inr (((), (), (), ()), ((x.2.1.1.1, (), (), (), x.2.1.1.2.2.2.2.1, x.2.1.1.2.2.2.2.2.1, x.2.1.1.2.2.2.2.2.2.1, x.2.1.1.2.2.2.2.2.2.2.1, (), (), ()), (x.2.1.2.1.1, (), (), (), x.2.1.2.1.2.2.2.2.1, x.2.1.2.1.2.2.2.2.2.1, x.2.1.2.1.2.2.2.2.2.2.1, x.2.1.2.1.2.2.2.2.2.2.2.1, (), (), ()), ()), (x.2.2.1, x.2.2.2.2.1, x.2.2.2.2.2.1, x.2.2.2.2.2.2.1, x.2.2.2.2.2.2.2.1, x.2.2.2.2.2.2.2.2.1, ()))))
def spec_CastGalley_h0 : Sh := ⟨[(1, .c (.rd [] .str)), (4, .c (.box 0 0)), (7, .c (.box 1 0)), (10, .c (.own 0)), (43, .c (.own 1)), (44, .c (.int .i64)), (45, .c (.int .i64))], [(0, .cells [.str, .nil, .nil, .nil, .int .i64, .int .i64, .int .i64, .int .i64, .nil, .nil]), (1, .cells [.str, .own 2, .own 3, .own 4, .int .i64, .int .i64, .int .i64, .int .i64, .own 5, .own 6])], [(0, .i64), (1, .str), (2, .i64), (3, .i64), (4, .mats), (5, .mat), (6, .mat)]⟩
def spec_CastGalley_r0 : List Sh := [⟨[(4, .c (.box 0 0)), (7, .c (.box 1 0)), (10, .c (.own 0))], [(0, .cells [.str, .nil, .nil, .nil, .int .i64, .int .i64, .int .i64, .int .i64, .nil, .nil]), (1, .cells [.str, .own 1, .own 2, .own 3, .int .i64, .int .i64, .int .i64, .int .i64, .own 4, .own 5])], [(0, .i64), (1, .i64), (2, .i64), (3, .mats), (4, .mat), (5, .mat)]⟩]
noncomputable def spec_CastGalley_L0 : Lp := ⟨0, [], spec_CastGalley_h0, [], [(.exit 0, [])], spec_CastGalley_r0, loopC spec_CastGalley_s0⟩
noncomputable def spec_CastGalley (a0_0 : ByteArray) (a0_1 : List Int) (a0_2 : List Int) (a0_3 : List (List (Int × Int))) (a0_4 : Int) (a0_5 : Int) (a0_6 : Int) (a0_7 : Int) (a0_8 : List (Int × Int)) (a0_9 : List (Int × Int)) (a1 : List ByteArray) : Option (((ByteArray × Unit × Unit × Unit × Int × Int × Int × Int × Unit × Unit × Unit) × Unit × Bool × Unit) × Unit × (List Int × List Int × List (List (Int × Int)) × List (Int × Int) × List (Int × Int) × List Int × Unit)) :=
 (spec_MachineOk a0_0 a0_1 a0_2 a0_3 a0_4 a0_5 a0_6 a0_7 a0_8 a0_9).bind fun r1 =>
 br (!r1.1.1)
 (some (((ByteArray.empty, (), (), (), (0 : Int), (0 : Int), (0 : Int), (0 : Int), (), (), ()), (), false, ()), (), ([], [], [], [], [], [], ())))
 (let x2 : Bool := decide ((a0_8.length : Int) > (0 : Int));
 br x2
 (some (((ByteArray.empty, (), (), (), (0 : Int), (0 : Int), (0 : Int), (0 : Int), (), (), ()), (), false, ()), (), ([], [], [], [], [], [], ())))
 ((spec_GalleyOk a0_0 a0_1 a0_2 a0_5 a0_6 a0_7 a1).bind fun r3 =>
 br (!r3.1.1)
 (some (((ByteArray.empty, (), (), (), (0 : Int), (0 : Int), (0 : Int), (0 : Int), (), (), ()), (), false, ()), (), ([], [], [], [], [], [], ())))
 ((spec_SetLines a0_0 a0_1 a0_2 a0_3 a0_4 a0_5 a0_6 a0_7 a0_8 a0_9 a1).bind fun r4 =>
 br (!r4.1.2.2.1)
 (some (((ByteArray.empty, (), (), (), (0 : Int), (0 : Int), (0 : Int), (0 : Int), (), (), ()), (), false, ()), (), ([], [], [], [], [], [], ())))
 ((loopC spec_CastGalley_s0 ((a1, (), (), (), (), (r4.2.2.2.2.2.2.2.1.length : Int), (0 : Int), ()), ((ByteArray.empty, (), (), (), (0 : Int), (0 : Int), (0 : Int), (0 : Int), (), (), ()), (r4.1.1.1, (), (), (), r4.1.1.2.2.2.2.1, r4.1.1.2.2.2.2.2.1, r4.1.1.2.2.2.2.2.2.1, r4.1.1.2.2.2.2.2.2.2.1, (), (), ()), ()), ([], r4.2.2.2.2.2.2.2.1, r4.2.2.1, r4.2.2.2.1, r4.2.2.2.2.1, r4.2.2.2.2.2.1, r4.2.2.2.2.2.2.1, ()))).bind fun r12 =>
 some (((r12.2.1.2.1.1, (), (), (), r12.2.1.2.1.2.2.2.2.1, r12.2.1.2.1.2.2.2.2.2.1, r12.2.1.2.1.2.2.2.2.2.2.1, r12.2.1.2.1.2.2.2.2.2.2.2.1, (), (), ()), (), true, ()), (), (r12.2.2.2.1, r12.2.2.2.2.1, r12.2.2.2.2.2.1, r12.2.2.2.2.2.2.1, r12.2.2.2.2.2.2.2.1, r12.2.2.1, ()))))))
noncomputable def spec_CastGalley_C : Ctr := ⟨12, spec_CastGalley_arg, spec_CastGalley_res, fun x => spec_CastGalley x.1.1.1 x.1.1.2.1 x.1.1.2.2.1 x.1.1.2.2.2.1 x.1.1.2.2.2.2.1 x.1.1.2.2.2.2.2.1 x.1.1.2.2.2.2.2.2.1 x.1.1.2.2.2.2.2.2.2.1 x.1.1.2.2.2.2.2.2.2.2.1 x.1.1.2.2.2.2.2.2.2.2.2.1 x.1.2.1, none⟩
def spec_CastGalley_H : Hint := ⟨[], [], [], fun _ => []⟩
noncomputable def spec_CastGalley_T : List Ctr := [spec_MachineOk_C, spec_GalleyOk_C, spec_SetLines_C]
noncomputable def spec_CastGalley_Ls : List Lp := [spec_CastGalley_L0]
theorem spec_CastGalley_l0 : ∀ x, spec_CastGalley_s0 x = stepW E0 spec_CastGalley_T spec_CastGalley_Ls spec_CastGalley_H (loopAt (bodyOf Tryz.f12) 0) 0 spec_CastGalley_h0 [] [(.exit 0, [])] spec_CastGalley_r0 x := fun x => by kernel_rfl
theorem spec_CastGalley_e : ∀ x, spec_CastGalley_C.F x = runBodyW E0 spec_CastGalley_T spec_CastGalley_Ls spec_CastGalley_H 12 Tryz.f12.results.toList (bodyOf Tryz.f12) [(.bx 4 1, 6000000, .i64), (.bx 4 2, 6000001, .i64), (.bx 4 3, 6000002, .mats), (.bx 4 8, 6000003, .mat), (.bx 4 9, 6000004, .mat), (.tm 5, 6000005, .i64)] (spec_CastGalley_arg.mk' x) spec_CastGalley_res := fun x => by kernel_rfl
theorem spec_CastGalley_ok : spec_CastGalley_C.Ok E0 := fn_ok (T := spec_CastGalley_T) (h := spec_CastGalley_H) (Ls := spec_CastGalley_Ls) E0_mixed (T_cons spec_MachineOk_ok (T_cons spec_GalleyOk_ok (T_cons spec_SetLines_ok T_nil))) Tryz.func12 (bodyOf_some (by kernel_rfl)) (by kernel_rfl) (loops_of (ks := [0]) (by kernel_rfl) ⟨(loop_one (h := spec_CastGalley_H) (own := []) (head := spec_CastGalley_h0) (back := []) (exs := [(.exit 0, [])]) (res := spec_CastGalley_r0) (step := spec_CastGalley_s0) (by kernel_rfl) spec_CastGalley_l0), trivial⟩) spec_CastGalley_e
def impl_between_1_arg : Sh := ⟨[(0, .c (.int .i64)), (1, .c (.rad [] [.int .i64])), (2, .c (.rad [] [.int .i64]))], [], []⟩
def impl_between_1_res : List Sh := [⟨[(0, .c (.bool))], [], []⟩]
noncomputable def impl_between_1 (a0 : Int) (a1_0 : Int) (a2_0 : Int) : Option ((Bool × Unit) × Unit × Unit) :=
 let x1 : Bool := decide (a0 < a1_0);
 br x1
 (some ((true, ()), (), ()))
 (let x2 : Bool := decide (a0 > a2_0);
 some ((x2, ()), (), ()))
noncomputable def impl_between_1_C : Ctr := ⟨146, impl_between_1_arg, impl_between_1_res, fun x => impl_between_1 x.1.1 x.1.2.1.1 x.1.2.2.1.1, none⟩
def impl_between_1_H : Hint := ⟨[], [], [], fun _ => []⟩
noncomputable def impl_between_1_T : List Ctr := []
noncomputable def impl_between_1_Ls : List Lp := []
theorem impl_between_1_e : ∀ x, impl_between_1_C.F x = runBodyW E0 impl_between_1_T impl_between_1_Ls impl_between_1_H 146 Tryz.f146.results.toList (bodyOf Tryz.f146) [] (impl_between_1_arg.mk' x) impl_between_1_res := fun x => by kernel_rfl
theorem impl_between_1_ok : impl_between_1_C.Ok E0 := fn_ok (T := impl_between_1_T) (h := impl_between_1_H) (Ls := impl_between_1_Ls) E0_mixed T_nil Tryz.func146 (bodyOf_some (by kernel_rfl)) (by kernel_rfl) (loops_of (ks := []) (by kernel_rfl) trivial) impl_between_1_e
def IndexFunc_int_impl_between_1_arg : Sh := ⟨[(0, .c (.rd [] .i64)), (1, .c (.fnr 146 [[.int .i64], [.int .i64]]))], [], []⟩
def IndexFunc_int_impl_between_1_res : List Sh := [⟨[(0, .c (.int .i64))], [], []⟩]
noncomputable def IndexFunc_int_impl_between_1_s0 (x : (List Int × ((Int × Unit) × (Int × Unit) × Unit) × Int × Int × Unit) × Unit × Unit) : Option (((List Int × ((Int × Unit) × (Int × Unit) × Unit) × Int × Int × Unit) × Unit × Unit) ⊕ (((Int × Unit) × Unit × Unit) ⊕ (Unit × Unit × Unit))) :=
 let x1 : Bool := decide (x.1.2.2.2.1 < x.1.2.2.1);
 br x1
 (ck (0 ≤ x.1.2.2.2.1)
 (ck (x.1.2.2.2.1.toNat < x.1.1.length)
 (let x2 : Int := x.1.1.getD x.1.2.2.2.1.toNat 0;
 (impl_between_1 x2 x.1.2.1.1.1 x.1.2.1.2.1.1).bind fun r3 =>
 br r3.1.1
 (some (.inr (.inl ((x.1.2.2.2.1, ()), (), ()))))
 (let x4 : Int := w64 (x.1.2.2.2.1 + (1 : Int));
 some (.inl ((x.1.1, ((x.1.2.1.1.1, ()), (x.1.2.1.2.1.1, ()), ()), x.1.2.2.1, x4, ()), (), ()))))))
 (some (.inr (.inr ((), (), ()))))
def IndexFunc_int_impl_between_1_h0 : Sh := ⟨[(0, .c (.rd [] .i64)), (1, .c (.fnr 146 [[.int .i64], [.int .i64]])), (7, .c (.int .i64)), (8, .c (.int .i64))], [], []⟩
def IndexFunc_int_impl_between_1_r0 : List Sh := [⟨[(4, .c (.int .i64))], [], []⟩, ⟨[], [], []⟩]
noncomputable def IndexFunc_int_impl_between_1_L0 : Lp := ⟨0, [], IndexFunc_int_impl_between_1_h0, [], [(.ret, []), (.exit 0, [])], IndexFunc_int_impl_between_1_r0, loopC IndexFunc_int_impl_between_1_s0⟩
noncomputable def IndexFunc_int_impl_between_1 (a0 : List Int) (a1_0_0 : Int) (a1_1_0 : Int) : Option ((Int × Unit) × Unit × Unit) :=
 (loopC IndexFunc_int_impl_between_1_s0 ((a0, ((a1_0_0, ()), (a1_1_0, ()), ()), (a0.length : Int), (0 : Int), ()), (), ())).bind fun r5 =>
 sumK r5 (fun y8 =>
 some ((y8.1.1, ()), (), ())) (fun y9 =>
 some (((-1 : Int), ()), (), ()))
noncomputable def IndexFunc_int_impl_between_1_C : Ctr := ⟨154, IndexFunc_int_impl_between_1_arg, IndexFunc_int_impl_between_1_res, fun x => IndexFunc_int_impl_between_1 x.1.1 x.1.2.1.1.1 x.1.2.1.2.1.1, none⟩
def IndexFunc_int_impl_between_1_H : Hint := ⟨[], [], [], fun _ => []⟩
noncomputable def IndexFunc_int_impl_between_1_T : List Ctr := [impl_between_1_C]
noncomputable def IndexFunc_int_impl_between_1_Ls : List Lp := [IndexFunc_int_impl_between_1_L0]
theorem IndexFunc_int_impl_between_1_l0 : ∀ x, IndexFunc_int_impl_between_1_s0 x = stepW E0 IndexFunc_int_impl_between_1_T IndexFunc_int_impl_between_1_Ls IndexFunc_int_impl_between_1_H (loopAt (bodyOf Tryz.f154) 0) 0 IndexFunc_int_impl_between_1_h0 [] [(.ret, []), (.exit 0, [])] IndexFunc_int_impl_between_1_r0 x := fun x => by kernel_rfl
theorem IndexFunc_int_impl_between_1_e : ∀ x, IndexFunc_int_impl_between_1_C.F x = runBodyW E0 IndexFunc_int_impl_between_1_T IndexFunc_int_impl_between_1_Ls IndexFunc_int_impl_between_1_H 154 Tryz.f154.results.toList (bodyOf Tryz.f154) [] (IndexFunc_int_impl_between_1_arg.mk' x) IndexFunc_int_impl_between_1_res := fun x => by kernel_rfl
theorem IndexFunc_int_impl_between_1_ok : IndexFunc_int_impl_between_1_C.Ok E0 := fn_ok (T := IndexFunc_int_impl_between_1_T) (h := IndexFunc_int_impl_between_1_H) (Ls := IndexFunc_int_impl_between_1_Ls) E0_mixed (T_cons impl_between_1_ok T_nil) Tryz.func154 (bodyOf_some (by kernel_rfl)) (by kernel_rfl) (loops_of (ks := [0]) (by kernel_rfl) ⟨(loop_one (h := IndexFunc_int_impl_between_1_H) (own := []) (head := IndexFunc_int_impl_between_1_h0) (back := []) (exs := [(.ret, []), (.exit 0, [])]) (res := IndexFunc_int_impl_between_1_r0) (step := IndexFunc_int_impl_between_1_s0) (by kernel_rfl) IndexFunc_int_impl_between_1_l0), trivial⟩) IndexFunc_int_impl_between_1_e
def ContainsFunc_int_impl_between_1_arg : Sh := ⟨[(0, .c (.rd [] .i64)), (1, .c (.fnr 146 [[.int .i64], [.int .i64]]))], [], []⟩
def ContainsFunc_int_impl_between_1_res : List Sh := [⟨[(0, .c (.bool))], [], []⟩]
noncomputable def ContainsFunc_int_impl_between_1 (a0 : List Int) (a1_0_0 : Int) (a1_1_0 : Int) : Option ((Bool × Unit) × Unit × Unit) :=
 (IndexFunc_int_impl_between_1 a0 a1_0_0 a1_1_0).bind fun r1 =>
 let x2 : Bool := decide (r1.1.1 ≥ (0 : Int));
 some ((x2, ()), (), ())
noncomputable def ContainsFunc_int_impl_between_1_C : Ctr := ⟨145, ContainsFunc_int_impl_between_1_arg, ContainsFunc_int_impl_between_1_res, fun x => ContainsFunc_int_impl_between_1 x.1.1 x.1.2.1.1.1 x.1.2.1.2.1.1, none⟩
def ContainsFunc_int_impl_between_1_H : Hint := ⟨[], [], [], fun _ => []⟩
noncomputable def ContainsFunc_int_impl_between_1_T : List Ctr := [IndexFunc_int_impl_between_1_C]
noncomputable def ContainsFunc_int_impl_between_1_Ls : List Lp := []
theorem ContainsFunc_int_impl_between_1_e : ∀ x, ContainsFunc_int_impl_between_1_C.F x = runBodyW E0 ContainsFunc_int_impl_between_1_T ContainsFunc_int_impl_between_1_Ls ContainsFunc_int_impl_between_1_H 145 Tryz.f145.results.toList (bodyOf Tryz.f145) [] (ContainsFunc_int_impl_between_1_arg.mk' x) ContainsFunc_int_impl_between_1_res := fun x => by kernel_rfl
theorem ContainsFunc_int_impl_between_1_ok : ContainsFunc_int_impl_between_1_C.Ok E0 := fn_ok (T := ContainsFunc_int_impl_between_1_T) (h := ContainsFunc_int_impl_between_1_H) (Ls := ContainsFunc_int_impl_between_1_Ls) E0_mixed (T_cons IndexFunc_int_impl_between_1_ok T_nil) Tryz.func145 (bodyOf_some (by kernel_rfl)) (by kernel_rfl) (loops_of (ks := []) (by kernel_rfl) trivial) ContainsFunc_int_impl_between_1_e
def impl_between_arg : Sh := ⟨[(0, .c (.rd [] .i64)), (1, .c (.int .i64)), (2, .c (.int .i64))], [], []⟩
def impl_between_res : List Sh := [⟨[(0, .c (.bool))], [], []⟩]
noncomputable def impl_between (a0 : List Int) (a1 : Int) (a2 : Int) : Option ((Bool × Unit) × Unit × Unit) :=
 (ContainsFunc_int_impl_between_1 a0 a1 a2).bind fun r1 =>
 some ((!r1.1.1, ()), (), ())
noncomputable def impl_between_C : Ctr := ⟨125, impl_between_arg, impl_between_res, fun x => impl_between x.1.1 x.1.2.1 x.1.2.2.1, none⟩
def impl_between_H : Hint := ⟨[], [], [], fun _ => []⟩
noncomputable def impl_between_T : List Ctr := [ContainsFunc_int_impl_between_1_C]
noncomputable def impl_between_Ls : List Lp := []
theorem impl_between_e : ∀ x, impl_between_C.F x = runBodyW E0 impl_between_T impl_between_Ls impl_between_H 125 Tryz.f125.results.toList (bodyOf Tryz.f125) [] (impl_between_arg.mk' x) impl_between_res := fun x => by kernel_rfl
theorem impl_between_ok : impl_between_C.Ok E0 := fn_ok (T := impl_between_T) (h := impl_between_H) (Ls := impl_between_Ls) E0_mixed (T_cons ContainsFunc_int_impl_between_1_ok T_nil) Tryz.func125 (bodyOf_some (by kernel_rfl)) (by kernel_rfl) (loops_of (ks := []) (by kernel_rfl) trivial) impl_between_e
def impl_isSet_arg : Sh := ⟨[(0, .c (.int .i64))], [], []⟩
def impl_isSet_res : List Sh := [⟨[(0, .c (.bool))], [], []⟩]
noncomputable def impl_isSet (a0 : Int) : Option ((Bool × Unit) × Unit × Unit) :=
 let x1 : Bool := decide (a0 ≥ (0 : Int));
 br x1
 (let x2 : Bool := decide (a0 ≤ (127 : Int));
 some ((x2, ()), (), ()))
 (some ((false, ()), (), ()))
noncomputable def impl_isSet_C : Ctr := ⟨94, impl_isSet_arg, impl_isSet_res, fun x => impl_isSet x.1.1, none⟩
def impl_isSet_H : Hint := ⟨[], [], [], fun _ => []⟩
noncomputable def impl_isSet_T : List Ctr := []
noncomputable def impl_isSet_Ls : List Lp := []
theorem impl_isSet_e : ∀ x, impl_isSet_C.F x = runBodyW E0 impl_isSet_T impl_isSet_Ls impl_isSet_H 94 Tryz.f94.results.toList (bodyOf Tryz.f94) [] (impl_isSet_arg.mk' x) impl_isSet_res := fun x => by kernel_rfl
theorem impl_isSet_ok : impl_isSet_C.Ok E0 := fn_ok (T := impl_isSet_T) (h := impl_isSet_H) (Ls := impl_isSet_Ls) E0_mixed T_nil Tryz.func94 (bodyOf_some (by kernel_rfl)) (by kernel_rfl) (loops_of (ks := []) (by kernel_rfl) trivial) impl_isSet_e
def impl_IsBar_1_arg : Sh := ⟨[(0, .c (.int .i64))], [], []⟩
def impl_IsBar_1_res : List Sh := [⟨[(0, .c (.bool))], [], []⟩]
noncomputable def impl_IsBar_1 (a0 : Int) : Option ((Bool × Unit) × Unit × Unit) :=
 (impl_isSet a0).bind fun r1 =>
 some ((!r1.1.1, ()), (), ())
noncomputable def impl_IsBar_1_C : Ctr := ⟨155, impl_IsBar_1_arg, impl_IsBar_1_res, fun x => impl_IsBar_1 x.1.1, none⟩
def impl_IsBar_1_H : Hint := ⟨[], [], [], fun _ => []⟩
noncomputable def impl_IsBar_1_T : List Ctr := [impl_isSet_C]
noncomputable def impl_IsBar_1_Ls : List Lp := []
theorem impl_IsBar_1_e : ∀ x, impl_IsBar_1_C.F x = runBodyW E0 impl_IsBar_1_T impl_IsBar_1_Ls impl_IsBar_1_H 155 Tryz.f155.results.toList (bodyOf Tryz.f155) [] (impl_IsBar_1_arg.mk' x) impl_IsBar_1_res := fun x => by kernel_rfl
theorem impl_IsBar_1_ok : impl_IsBar_1_C.Ok E0 := fn_ok (T := impl_IsBar_1_T) (h := impl_IsBar_1_H) (Ls := impl_IsBar_1_Ls) E0_mixed (T_cons impl_isSet_ok T_nil) Tryz.func155 (bodyOf_some (by kernel_rfl)) (by kernel_rfl) (loops_of (ks := []) (by kernel_rfl) trivial) impl_IsBar_1_e
def IndexFunc_int_impl_IsBar_1_arg : Sh := ⟨[(0, .c (.rd [] .i64)), (1, .c (.fnr 155 []))], [], []⟩
def IndexFunc_int_impl_IsBar_1_res : List Sh := [⟨[(0, .c (.int .i64))], [], []⟩]
noncomputable def IndexFunc_int_impl_IsBar_1_s0 (x : (List Int × Unit × Int × Int × Unit) × Unit × Unit) : Option (((List Int × Unit × Int × Int × Unit) × Unit × Unit) ⊕ (((Int × Unit) × Unit × Unit) ⊕ (Unit × Unit × Unit))) :=
 let x1 : Bool := decide (x.1.2.2.2.1 < x.1.2.2.1);
 br x1
 (ck (0 ≤ x.1.2.2.2.1)
 (ck (x.1.2.2.2.1.toNat < x.1.1.length)
 (let x2 : Int := x.1.1.getD x.1.2.2.2.1.toNat 0;
 (impl_IsBar_1 x2).bind fun r3 =>
 br r3.1.1
 (some (.inr (.inl ((x.1.2.2.2.1, ()), (), ()))))
 (let x4 : Int := w64 (x.1.2.2.2.1 + (1 : Int));
 some (.inl ((x.1.1, (), x.1.2.2.1, x4, ()), (), ()))))))
 (some (.inr (.inr ((), (), ()))))
def IndexFunc_int_impl_IsBar_1_h0 : Sh := ⟨[(0, .c (.rd [] .i64)), (1, .c (.fnr 155 [])), (7, .c (.int .i64)), (8, .c (.int .i64))], [], []⟩
def IndexFunc_int_impl_IsBar_1_r0 : List Sh := [⟨[(4, .c (.int .i64))], [], []⟩, ⟨[], [], []⟩]
noncomputable def IndexFunc_int_impl_IsBar_1_L0 : Lp := ⟨0, [], IndexFunc_int_impl_IsBar_1_h0, [], [(.ret, []), (.exit 0, [])], IndexFunc_int_impl_IsBar_1_r0, loopC IndexFunc_int_impl_IsBar_1_s0⟩
noncomputable def IndexFunc_int_impl_IsBar_1 (a0 : List Int) : Option ((Int × Unit) × Unit × Unit) :=
 (loopC IndexFunc_int_impl_IsBar_1_s0 ((a0, (), (a0.length : Int), (0 : Int), ()), (), ())).bind fun r5 =>
 sumK r5 (fun y8 =>
 some ((y8.1.1, ()), (), ())) (fun y9 =>
 some (((-1 : Int), ()), (), ()))
noncomputable def IndexFunc_int_impl_IsBar_1_C : Ctr := ⟨154, IndexFunc_int_impl_IsBar_1_arg, IndexFunc_int_impl_IsBar_1_res, fun x => IndexFunc_int_impl_IsBar_1 x.1.1, none⟩
def IndexFunc_int_impl_IsBar_1_H : Hint := ⟨[], [], [], fun _ => []⟩
noncomputable def IndexFunc_int_impl_IsBar_1_T : List Ctr := [impl_IsBar_1_C]
noncomputable def IndexFunc_int_impl_IsBar_1_Ls : List Lp := [IndexFunc_int_impl_IsBar_1_L0]
theorem IndexFunc_int_impl_IsBar_1_l0 : ∀ x, IndexFunc_int_impl_IsBar_1_s0 x = stepW E0 IndexFunc_int_impl_IsBar_1_T IndexFunc_int_impl_IsBar_1_Ls IndexFunc_int_impl_IsBar_1_H (loopAt (bodyOf Tryz.f154) 0) 0 IndexFunc_int_impl_IsBar_1_h0 [] [(.ret, []), (.exit 0, [])] IndexFunc_int_impl_IsBar_1_r0 x := fun x => by kernel_rfl
theorem IndexFunc_int_impl_IsBar_1_e : ∀ x, IndexFunc_int_impl_IsBar_1_C.F x = runBodyW E0 IndexFunc_int_impl_IsBar_1_T IndexFunc_int_impl_IsBar_1_Ls IndexFunc_int_impl_IsBar_1_H 154 Tryz.f154.results.toList (bodyOf Tryz.f154) [] (IndexFunc_int_impl_IsBar_1_arg.mk' x) IndexFunc_int_impl_IsBar_1_res := fun x => by kernel_rfl
theorem IndexFunc_int_impl_IsBar_1_ok : IndexFunc_int_impl_IsBar_1_C.Ok E0 := fn_ok (T := IndexFunc_int_impl_IsBar_1_T) (h := IndexFunc_int_impl_IsBar_1_H) (Ls := IndexFunc_int_impl_IsBar_1_Ls) E0_mixed (T_cons impl_IsBar_1_ok T_nil) Tryz.func154 (bodyOf_some (by kernel_rfl)) (by kernel_rfl) (loops_of (ks := [0]) (by kernel_rfl) ⟨(loop_one (h := IndexFunc_int_impl_IsBar_1_H) (own := []) (head := IndexFunc_int_impl_IsBar_1_h0) (back := []) (exs := [(.ret, []), (.exit 0, [])]) (res := IndexFunc_int_impl_IsBar_1_r0) (step := IndexFunc_int_impl_IsBar_1_s0) (by kernel_rfl) IndexFunc_int_impl_IsBar_1_l0), trivial⟩) IndexFunc_int_impl_IsBar_1_e
def ContainsFunc_int_impl_IsBar_1_arg : Sh := ⟨[(0, .c (.rd [] .i64)), (1, .c (.fnr 155 []))], [], []⟩
def ContainsFunc_int_impl_IsBar_1_res : List Sh := [⟨[(0, .c (.bool))], [], []⟩]
noncomputable def ContainsFunc_int_impl_IsBar_1 (a0 : List Int) : Option ((Bool × Unit) × Unit × Unit) :=
 (IndexFunc_int_impl_IsBar_1 a0).bind fun r1 =>
 let x2 : Bool := decide (r1.1.1 ≥ (0 : Int));
 some ((x2, ()), (), ())
noncomputable def ContainsFunc_int_impl_IsBar_1_C : Ctr := ⟨145, ContainsFunc_int_impl_IsBar_1_arg, ContainsFunc_int_impl_IsBar_1_res, fun x => ContainsFunc_int_impl_IsBar_1 x.1.1, none⟩
def ContainsFunc_int_impl_IsBar_1_H : Hint := ⟨[], [], [], fun _ => []⟩
noncomputable def ContainsFunc_int_impl_IsBar_1_T : List Ctr := [IndexFunc_int_impl_IsBar_1_C]
noncomputable def ContainsFunc_int_impl_IsBar_1_Ls : List Lp := []
theorem ContainsFunc_int_impl_IsBar_1_e : ∀ x, ContainsFunc_int_impl_IsBar_1_C.F x = runBodyW E0 ContainsFunc_int_impl_IsBar_1_T ContainsFunc_int_impl_IsBar_1_Ls ContainsFunc_int_impl_IsBar_1_H 145 Tryz.f145.results.toList (bodyOf Tryz.f145) [] (ContainsFunc_int_impl_IsBar_1_arg.mk' x) ContainsFunc_int_impl_IsBar_1_res := fun x => by kernel_rfl
theorem ContainsFunc_int_impl_IsBar_1_ok : ContainsFunc_int_impl_IsBar_1_C.Ok E0 := fn_ok (T := ContainsFunc_int_impl_IsBar_1_T) (h := ContainsFunc_int_impl_IsBar_1_H) (Ls := ContainsFunc_int_impl_IsBar_1_Ls) E0_mixed (T_cons IndexFunc_int_impl_IsBar_1_ok T_nil) Tryz.func145 (bodyOf_some (by kernel_rfl)) (by kernel_rfl) (loops_of (ks := []) (by kernel_rfl) trivial) ContainsFunc_int_impl_IsBar_1_e
def impl_IsBar_arg : Sh := ⟨[(0, .c (.rd [] .i64))], [], []⟩
def impl_IsBar_res : List Sh := [⟨[(0, .c (.bool))], [], []⟩]
noncomputable def impl_IsBar (a0 : List Int) : Option ((Bool × Unit) × Unit × Unit) :=
 let x1 : Bool := decide ((a0.length : Int) ≥ (1 : Int));
 br x1
 (let x2 : Bool := decide ((a0.length : Int) ≤ (40 : Int));
 br x2
 ((ContainsFunc_int_impl_IsBar_1 a0).bind fun r3 =>
 some ((!r3.1.1, ()), (), ()))
 (some ((false, ()), (), ())))
 (some ((false, ()), (), ()))
noncomputable def impl_IsBar_C : Ctr := ⟨147, impl_IsBar_arg, impl_IsBar_res, fun x => impl_IsBar x.1.1, none⟩
def impl_IsBar_H : Hint := ⟨[], [], [], fun _ => []⟩
noncomputable def impl_IsBar_T : List Ctr := [ContainsFunc_int_impl_IsBar_1_C]
noncomputable def impl_IsBar_Ls : List Lp := []
theorem impl_IsBar_e : ∀ x, impl_IsBar_C.F x = runBodyW E0 impl_IsBar_T impl_IsBar_Ls impl_IsBar_H 147 Tryz.f147.results.toList (bodyOf Tryz.f147) [] (impl_IsBar_arg.mk' x) impl_IsBar_res := fun x => by kernel_rfl
theorem impl_IsBar_ok : impl_IsBar_C.Ok E0 := fn_ok (T := impl_IsBar_T) (h := impl_IsBar_H) (Ls := impl_IsBar_Ls) E0_mixed (T_cons ContainsFunc_int_impl_IsBar_1_ok T_nil) Tryz.func147 (bodyOf_some (by kernel_rfl)) (by kernel_rfl) (loops_of (ks := []) (by kernel_rfl) trivial) impl_IsBar_e
def impl_part_arg : Sh := ⟨[(0, .c (.int .i64)), (1, .c (.int .i64))], [], []⟩
def impl_part_res : List Sh := [⟨[(0, .c (.bool))], [], []⟩]
noncomputable def impl_part (a0 : Int) (a1 : Int) : Option ((Bool × Unit) × Unit × Unit) :=
 let x1 : Int := bAndNot .i64 a0 a1;
 let x2 : Bool := x1 == (0 : Int);
 some ((x2, ()), (), ())
noncomputable def impl_part_C : Ctr := ⟨95, impl_part_arg, impl_part_res, fun x => impl_part x.1.1 x.1.2.1, none⟩
def impl_part_H : Hint := ⟨[], [], [], fun _ => []⟩
noncomputable def impl_part_T : List Ctr := []
noncomputable def impl_part_Ls : List Lp := []
theorem impl_part_e : ∀ x, impl_part_C.F x = runBodyW E0 impl_part_T impl_part_Ls impl_part_H 95 Tryz.f95.results.toList (bodyOf Tryz.f95) [] (impl_part_arg.mk' x) impl_part_res := fun x => by kernel_rfl
theorem impl_part_ok : impl_part_C.Ok E0 := fn_ok (T := impl_part_T) (h := impl_part_H) (Ls := impl_part_Ls) E0_mixed T_nil Tryz.func95 (bodyOf_some (by kernel_rfl)) (by kernel_rfl) (loops_of (ks := []) (by kernel_rfl) trivial) impl_part_e
def impl_fall_arg : Sh := ⟨[(0, .c (.rd [] .i64)), (1, .c (.int .i64))], [], []⟩
def impl_fall_res : List Sh := [⟨[(0, .c (.int .i64))], [], []⟩]
noncomputable def impl_fall_s0 (x : (List Int × Int × List Int × Int × Int × Unit) × Unit × Unit) : Option (((List Int × Int × List Int × Int × Int × Unit) × Unit × Unit) ⊕ (((Int × Unit) × Unit × Unit) ⊕ ((List Int × Unit) × Unit × Unit))) :=
 let x1 : Bool := decide (x.1.2.2.2.2.1 < x.1.2.2.2.1);
 br x1
 (ck (0 ≤ x.1.2.2.2.2.1)
 (ck (x.1.2.2.2.2.1.toNat < x.1.2.2.1.length)
 (let x2 : Int := x.1.2.2.1.getD x.1.2.2.2.2.1.toNat 0;
 (impl_part x.1.2.1 x2).bind fun r3 =>
 br r3.1.1
 (some (.inr (.inl ((x.1.2.2.2.2.1, ()), (), ()))))
 (let x4 : Int := w64 (x.1.2.2.2.2.1 + (1 : Int));
 some (.inl ((x.1.1, x.1.2.1, x.1.2.2.1, x.1.2.2.2.1, x4, ()), (), ()))))))
 (some (.inr (.inr ((x.1.1, ()), (), ()))))
def impl_fall_h0 : Sh := ⟨[(0, .c (.rd [] .i64)), (1, .c (.int .i64)), (7, .c (.rd [] .i64)), (8, .c (.int .i64)), (9, .c (.int .i64))], [], []⟩
def impl_fall_r0 : List Sh := [⟨[(4, .c (.int .i64))], [], []⟩, ⟨[(0, .c (.rd [] .i64))], [], []⟩]
noncomputable def impl_fall_L0 : Lp := ⟨0, [], impl_fall_h0, [], [(.ret, []), (.exit 0, [])], impl_fall_r0, loopC impl_fall_s0⟩
noncomputable def impl_fall (a0 : List Int) (a1 : Int) : Option ((Int × Unit) × Unit × Unit) :=
 (loopC impl_fall_s0 ((a0, a1, a0, (a0.length : Int), (0 : Int), ()), (), ())).bind fun r5 =>
 sumK r5 (fun y8 =>
 some ((y8.1.1, ()), (), ())) (fun y9 =>
 some (((y9.1.1.length : Int), ()), (), ()))
noncomputable def impl_fall_C : Ctr := ⟨143, impl_fall_arg, impl_fall_res, fun x => impl_fall x.1.1 x.1.2.1, none⟩
def impl_fall_H : Hint := ⟨[], [], [], fun _ => []⟩
noncomputable def impl_fall_T : List Ctr := [impl_part_C]
noncomputable def impl_fall_Ls : List Lp := [impl_fall_L0]
theorem impl_fall_l0 : ∀ x, impl_fall_s0 x = stepW E0 impl_fall_T impl_fall_Ls impl_fall_H (loopAt (bodyOf Tryz.f143) 0) 0 impl_fall_h0 [] [(.ret, []), (.exit 0, [])] impl_fall_r0 x := fun x => by kernel_rfl
theorem impl_fall_e : ∀ x, impl_fall_C.F x = runBodyW E0 impl_fall_T impl_fall_Ls impl_fall_H 143 Tryz.f143.results.toList (bodyOf Tryz.f143) [] (impl_fall_arg.mk' x) impl_fall_res := fun x => by kernel_rfl
theorem impl_fall_ok : impl_fall_C.Ok E0 := fn_ok (T := impl_fall_T) (h := impl_fall_H) (Ls := impl_fall_Ls) E0_mixed (T_cons impl_part_ok T_nil) Tryz.func143 (bodyOf_some (by kernel_rfl)) (by kernel_rfl) (loops_of (ks := [0]) (by kernel_rfl) ⟨(loop_one (h := impl_fall_H) (own := []) (head := impl_fall_h0) (back := []) (exs := [(.ret, []), (.exit 0, [])]) (res := impl_fall_r0) (step := impl_fall_s0) (by kernel_rfl) impl_fall_l0), trivial⟩) impl_fall_e
def impl_SortsAll_arg : Sh := ⟨[(0, .c (.rd [] .i64))], [], []⟩
def impl_SortsAll_res : List Sh := [⟨[(0, .c (.bool))], [], []⟩]
noncomputable def impl_SortsAll_s0 (x : (List Int × List Int × Int × Int × Unit) × Unit × Unit) : Option (((List Int × List Int × Int × Int × Unit) × Unit × Unit) ⊕ (((Bool × Unit) × Unit × Unit) ⊕ (Unit × Unit × Unit))) :=
 let x2 : Bool := decide (x.1.2.2.2.1 < x.1.2.2.1);
 br x2
 (ck (0 ≤ x.1.2.2.2.1)
 (ck (x.1.2.2.2.1.toNat < x.1.2.1.length)
 (let x3 : Int := x.1.2.1.getD x.1.2.2.2.1.toNat 0;
 (impl_fall x.1.1 x3).bind fun r4 =>
 let x5 : Bool := r4.1.1 != x.1.2.2.2.1;
 br x5
 (some (.inr (.inl ((false, ()), (), ()))))
 (let x6 : Int := w64 (x.1.2.2.2.1 + (1 : Int));
 some (.inl ((x.1.1, x.1.2.1, x.1.2.2.1, x6, ()), (), ()))))))
 (some (.inr (.inr ((), (), ()))))
def impl_SortsAll_h0 : Sh := ⟨[(0, .c (.rd [] .i64)), (8, .c (.rd [] .i64)), (9, .c (.int .i64)), (10, .c (.int .i64))], [], []⟩
def impl_SortsAll_r0 : List Sh := [⟨[(2, .c (.bool))], [], []⟩, ⟨[], [], []⟩]
noncomputable def impl_SortsAll_L0 : Lp := ⟨0, [], impl_SortsAll_h0, [], [(.ret, []), (.exit 0, [])], impl_SortsAll_r0, loopC impl_SortsAll_s0⟩
noncomputable def impl_SortsAll (a0 : List Int) : Option ((Bool × Unit) × Unit × Unit) :=
 (impl_IsBar a0).bind fun r1 =>
 br (!r1.1.1)
 (some ((false, ()), (), ()))
 ((loopC impl_SortsAll_s0 ((a0, a0, (a0.length : Int), (0 : Int), ()), (), ())).bind fun r7 =>
 sumK r7 (fun y10 =>
 some ((y10.1.1, ()), (), ())) (fun y11 =>
 some ((true, ()), (), ())))
noncomputable def impl_SortsAll_C : Ctr := ⟨126, impl_SortsAll_arg, impl_SortsAll_res, fun x => impl_SortsAll x.1.1, none⟩
def impl_SortsAll_H : Hint := ⟨[], [], [], fun _ => []⟩
noncomputable def impl_SortsAll_T : List Ctr := [impl_IsBar_C, impl_fall_C]
noncomputable def impl_SortsAll_Ls : List Lp := [impl_SortsAll_L0]
theorem impl_SortsAll_l0 : ∀ x, impl_SortsAll_s0 x = stepW E0 impl_SortsAll_T impl_SortsAll_Ls impl_SortsAll_H (loopAt (bodyOf Tryz.f126) 0) 0 impl_SortsAll_h0 [] [(.ret, []), (.exit 0, [])] impl_SortsAll_r0 x := fun x => by kernel_rfl
theorem impl_SortsAll_e : ∀ x, impl_SortsAll_C.F x = runBodyW E0 impl_SortsAll_T impl_SortsAll_Ls impl_SortsAll_H 126 Tryz.f126.results.toList (bodyOf Tryz.f126) [] (impl_SortsAll_arg.mk' x) impl_SortsAll_res := fun x => by kernel_rfl
theorem impl_SortsAll_ok : impl_SortsAll_C.Ok E0 := fn_ok (T := impl_SortsAll_T) (h := impl_SortsAll_H) (Ls := impl_SortsAll_Ls) E0_mixed (T_cons impl_IsBar_ok (T_cons impl_fall_ok T_nil)) Tryz.func126 (bodyOf_some (by kernel_rfl)) (by kernel_rfl) (loops_of (ks := [0]) (by kernel_rfl) ⟨(loop_one (h := impl_SortsAll_H) (own := []) (head := impl_SortsAll_h0) (back := []) (exs := [(.ret, []), (.exit 0, [])]) (res := impl_SortsAll_r0) (step := impl_SortsAll_s0) (by kernel_rfl) impl_SortsAll_l0), trivial⟩) impl_SortsAll_e
def impl_FontOk_arg : Sh := ⟨[(0, .agg [.str, .rd [] .i64, .rd [] .i64])], [], []⟩
def impl_FontOk_res : List Sh := [⟨[(0, .c (.bool))], [], []⟩]
noncomputable def impl_FontOk_s0 (x : (Unit × Unit × Int × Int × Unit) × ((ByteArray × List Int × List Int × Unit) × List Bool × Unit) × Unit) : Option (((Unit × Unit × Int × Int × Unit) × ((ByteArray × List Int × List Int × Unit) × List Bool × Unit) × Unit) ⊕ (((Bool × Unit) × Unit × Unit) ⊕ ((Unit × Unit) × ((ByteArray × List Int × List Int × Unit) × Unit) × Unit))) :=
 let x5 : Bool := decide (x.1.2.2.2.1 < x.1.2.2.1);
 br x5
 (ck (0 ≤ x.1.2.2.2.1 ∧ x.1.2.2.2.1.toNat < x.2.1.1.1.size)
 (let x6 : Int := byteAt x.2.1.1.1 x.1.2.2.2.1.toNat;
 let x7 : Bool := decide (x6 < (33 : Int));
 br x7
 (some (.inr (.inl ((false, ()), (), ()))))
 (let x8 : Bool := decide (x6 > (126 : Int));
 br x8
 (some (.inr (.inl ((false, ()), (), ()))))
 (ck (0 ≤ x6)
 (ck (x6.toNat < 256)
 (ck (x6.toNat < x.2.1.2.1.length)
 (let x9 : Bool := x.2.1.2.1.getD x6.toNat false;
 br x9
 (some (.inr (.inl ((false, ()), (), ()))))
 (ck (0 ≤ x6)
 (ck (x6.toNat < 256)
 (ck (x6.toNat < x.2.1.2.1.length)
 (let x10 : List Bool := x.2.1.2.1.set x6.toNat true;
 let x11 : Int := w64 (x.1.2.2.2.1 + (1 : Int));
 some (.inl (((), (), x.1.2.2.1, x11, ()), ((x.2.1.1.1, x.2.1.1.2.1, x.2.1.1.2.2.1, ()), x10, ()), ())))))))))))))
 (some (.inr (.inr (((), ()), ((x.2.1.1.1, x.2.1.1.2.1, x.2.1.1.2.2.1, ()), ()), ()))))
def impl_FontOk_h0 : Sh := ⟨[(1, .c (.box 0 0)), (3, .c (.box 1 0)), (36, .c (.int .i64)), (37, .c (.int .i64))], [(0, .cells [.str, .rd [] .i64, .rd [] .i64]), (1, .arr)], []⟩
def impl_FontOk_r0 : List Sh := [⟨[(2, .c (.bool))], [], []⟩, ⟨[(1, .c (.box 0 0))], [(0, .cells [.str, .rd [] .i64, .rd [] .i64])], []⟩]
noncomputable def impl_FontOk_L0 : Lp := ⟨0, [], impl_FontOk_h0, [], [(.ret, []), (.exit 0, [])], impl_FontOk_r0, loopC impl_FontOk_s0⟩
noncomputable def impl_FontOk (a0_0 : ByteArray) (a0_1 : List Int) (a0_2 : List Int) : Option ((Bool × Unit) × Unit × Unit) :=
 let x1 : Bool := decide ((a0_0.size : Int) < (1 : Int));
 br x1
 (some ((false, ()), (), ()))
 (let x2 : Bool := decide ((a0_0.size : Int) > (40 : Int));
 br x2
 (some ((false, ()), (), ()))
 (let x3 : Bool := (a0_1.length : Int) != (a0_0.size : Int);
 br x3
 (some ((false, ()), (), ()))
 (let x4 : Bool := (a0_2.length : Int) != (a0_0.size : Int);
 br x4
 (some ((false, ()), (), ()))
 ((loopC impl_FontOk_s0 (((), (), (a0_0.size : Int), (0 : Int), ()), ((a0_0, a0_1, a0_2, ()), (List.replicate 256 false), ()), ())).bind fun r12 =>
 sumK r12 (fun y15 =>
 some ((y15.1.1, ()), (), ())) (fun y16 =>
 (impl_between y16.2.1.1.2.1 (1 : Int) (60 : Int)).bind fun r17 =>
 br r17.1.1
 ((impl_SortsAll y16.2.1.1.2.2.1).bind fun r18 =>
 some ((r18.1.1, ()), (), ()))
 (some ((false, ()), (), ())))))))
noncomputable def impl_FontOk_C : Ctr := ⟨91, impl_FontOk_arg, impl_FontOk_res, fun x => impl_FontOk x.1.1.1 x.1.1.2.1 x.1.1.2.2.1, none⟩
def impl_FontOk_H : Hint := ⟨[], [], [], fun _ => []⟩
noncomputable def impl_FontOk_T : List Ctr := [impl_between_C, impl_SortsAll_C]
noncomputable def impl_FontOk_Ls : List Lp := [impl_FontOk_L0]
theorem impl_FontOk_l0 : ∀ x, impl_FontOk_s0 x = stepW E0 impl_FontOk_T impl_FontOk_Ls impl_FontOk_H (loopAt (bodyOf Tryz.f91) 0) 0 impl_FontOk_h0 [] [(.ret, []), (.exit 0, [])] impl_FontOk_r0 x := fun x => by kernel_rfl
theorem impl_FontOk_e : ∀ x, impl_FontOk_C.F x = runBodyW E0 impl_FontOk_T impl_FontOk_Ls impl_FontOk_H 91 Tryz.f91.results.toList (bodyOf Tryz.f91) [] (impl_FontOk_arg.mk' x) impl_FontOk_res := fun x => by kernel_rfl
theorem impl_FontOk_ok : impl_FontOk_C.Ok E0 := fn_ok (T := impl_FontOk_T) (h := impl_FontOk_H) (Ls := impl_FontOk_Ls) E0_mixed (T_cons impl_between_ok (T_cons impl_SortsAll_ok T_nil)) Tryz.func91 (bodyOf_some (by kernel_rfl)) (by kernel_rfl) (loops_of (ks := [0]) (by kernel_rfl) ⟨(loop_one (h := impl_FontOk_H) (own := []) (head := impl_FontOk_h0) (back := []) (exs := [(.ret, []), (.exit 0, [])]) (res := impl_FontOk_r0) (step := impl_FontOk_s0) (by kernel_rfl) impl_FontOk_l0), trivial⟩) impl_FontOk_e
def impl_ofFont_arg : Sh := ⟨[(0, .agg [.str, .rd [] .i64, .rd [] .i64]), (1, .agg [.int .i64, .int .i64])], [], []⟩
def impl_ofFont_res : List Sh := [⟨[(0, .c (.bool))], [], []⟩]
noncomputable def impl_ofFont (a0_0 : ByteArray) (a0_1 : List Int) (a0_2 : List Int) (a1_0 : Int) (a1_1 : Int) : Option ((Bool × Unit) × Unit × Unit) :=
 let x1 : Bool := decide (a1_0 ≥ (0 : Int));
 br x1
 (let x2 : Bool := decide (a1_0 < (a0_0.size : Int));
 br x2
 ((impl_isSet a1_1).bind fun r3 =>
 br r3.1.1
 (ck (0 ≤ a1_0)
 (ck (a1_0.toNat < a0_2.length)
 (let x4 : Int := a0_2.getD a1_0.toNat 0;
 (impl_part a1_1 x4).bind fun r5 =>
 some ((r5.1.1, ()), (), ()))))
 (some ((false, ()), (), ())))
 (some ((false, ()), (), ())))
 (some ((false, ()), (), ()))
noncomputable def impl_ofFont_C : Ctr := ⟨63, impl_ofFont_arg, impl_ofFont_res, fun x => impl_ofFont x.1.1.1 x.1.1.2.1 x.1.1.2.2.1 x.1.2.1.1 x.1.2.1.2.1, none⟩
def impl_ofFont_H : Hint := ⟨[], [], [], fun _ => []⟩
noncomputable def impl_ofFont_T : List Ctr := [impl_isSet_C, impl_part_C]
noncomputable def impl_ofFont_Ls : List Lp := []
theorem impl_ofFont_e : ∀ x, impl_ofFont_C.F x = runBodyW E0 impl_ofFont_T impl_ofFont_Ls impl_ofFont_H 63 Tryz.f63.results.toList (bodyOf Tryz.f63) [] (impl_ofFont_arg.mk' x) impl_ofFont_res := fun x => by kernel_rfl
theorem impl_ofFont_ok : impl_ofFont_C.Ok E0 := fn_ok (T := impl_ofFont_T) (h := impl_ofFont_H) (Ls := impl_ofFont_Ls) E0_mixed (T_cons impl_isSet_ok (T_cons impl_part_ok T_nil)) Tryz.func63 (bodyOf_some (by kernel_rfl)) (by kernel_rfl) (loops_of (ks := []) (by kernel_rfl) trivial) impl_ofFont_e
def impl_allOf_1_arg : Sh := ⟨[(0, .agg [.int .i64, .int .i64]), (1, .c (.rad [] [.str, .s .i64, .s .i64]))], [], []⟩
def impl_allOf_1_res : List Sh := [⟨[(0, .c (.bool))], [], []⟩]
noncomputable def impl_allOf_1 (a0_0 : Int) (a0_1 : Int) (a1_0 : ByteArray) (a1_1 : List Int) (a1_2 : List Int) : Option ((Bool × Unit) × Unit × Unit) :=
 (impl_ofFont a1_0 a1_1 a1_2 a0_0 a0_1).bind fun r1 =>
 some ((!r1.1.1, ()), (), ())
noncomputable def impl_allOf_1_C : Ctr := ⟨92, impl_allOf_1_arg, impl_allOf_1_res, fun x => impl_allOf_1 x.1.1.1 x.1.1.2.1 x.1.2.1.1 x.1.2.1.2.1 x.1.2.1.2.2.1, none⟩
def impl_allOf_1_H : Hint := ⟨[], [], [], fun _ => []⟩
noncomputable def impl_allOf_1_T : List Ctr := [impl_ofFont_C]
noncomputable def impl_allOf_1_Ls : List Lp := []
theorem impl_allOf_1_e : ∀ x, impl_allOf_1_C.F x = runBodyW E0 impl_allOf_1_T impl_allOf_1_Ls impl_allOf_1_H 92 Tryz.f92.results.toList (bodyOf Tryz.f92) [] (impl_allOf_1_arg.mk' x) impl_allOf_1_res := fun x => by kernel_rfl
theorem impl_allOf_1_ok : impl_allOf_1_C.Ok E0 := fn_ok (T := impl_allOf_1_T) (h := impl_allOf_1_H) (Ls := impl_allOf_1_Ls) E0_mixed (T_cons impl_ofFont_ok T_nil) Tryz.func92 (bodyOf_some (by kernel_rfl)) (by kernel_rfl) (loops_of (ks := []) (by kernel_rfl) trivial) impl_allOf_1_e
def IndexFunc_Matrix_impl_allOf_1_arg : Sh := ⟨[(0, .c (.rd [] .mat)), (1, .c (.fnr 92 [[.str, .s .i64, .s .i64]]))], [], []⟩
def IndexFunc_Matrix_impl_allOf_1_res : List Sh := [⟨[(0, .c (.int .i64))], [], []⟩]
noncomputable def IndexFunc_Matrix_impl_allOf_1_s0 (x : (List (Int × Int) × ((ByteArray × List Int × List Int × Unit) × Unit) × Int × Int × Unit) × Unit × Unit) : Option (((List (Int × Int) × ((ByteArray × List Int × List Int × Unit) × Unit) × Int × Int × Unit) × Unit × Unit) ⊕ (((Int × Unit) × Unit × Unit) ⊕ (Unit × Unit × Unit))) :=
 let x1 : Bool := decide (x.1.2.2.2.1 < x.1.2.2.1);
 br x1
 (ck (0 ≤ x.1.2.2.2.1)
 (ck (x.1.2.2.2.1.toNat < x.1.1.length)
 (let x2 : Int × Int := x.1.1.getD x.1.2.2.2.1.toNat (0, 0);
 (impl_allOf_1 x2.1 x2.2 x.1.2.1.1.1 x.1.2.1.1.2.1 x.1.2.1.1.2.2.1).bind fun r3 =>
 br r3.1.1
 (some (.inr (.inl ((x.1.2.2.2.1, ()), (), ()))))
 (let x4 : Int := w64 (x.1.2.2.2.1 + (1 : Int));
 some (.inl ((x.1.1, ((x.1.2.1.1.1, x.1.2.1.1.2.1, x.1.2.1.1.2.2.1, ()), ()), x.1.2.2.1, x4, ()), (), ()))))))
 (some (.inr (.inr ((), (), ()))))
def IndexFunc_Matrix_impl_allOf_1_h0 : Sh := ⟨[(0, .c (.rd [] .mat)), (1, .c (.fnr 92 [[.str, .s .i64, .s .i64]])), (7, .c (.int .i64)), (8, .c (.int .i64))], [], []⟩
def IndexFunc_Matrix_impl_allOf_1_r0 : List Sh := [⟨[(4, .c (.int .i64))], [], []⟩, ⟨[], [], []⟩]
noncomputable def IndexFunc_Matrix_impl_allOf_1_L0 : Lp := ⟨0, [], IndexFunc_Matrix_impl_allOf_1_h0, [], [(.ret, []), (.exit 0, [])], IndexFunc_Matrix_impl_allOf_1_r0, loopC IndexFunc_Matrix_impl_allOf_1_s0⟩
noncomputable def IndexFunc_Matrix_impl_allOf_1 (a0 : List (Int × Int)) (a1_0_0 : ByteArray) (a1_0_1 : List Int) (a1_0_2 : List Int) : Option ((Int × Unit) × Unit × Unit) :=
 (loopC IndexFunc_Matrix_impl_allOf_1_s0 ((a0, ((a1_0_0, a1_0_1, a1_0_2, ()), ()), (a0.length : Int), (0 : Int), ()), (), ())).bind fun r5 =>
 sumK r5 (fun y8 =>
 some ((y8.1.1, ()), (), ())) (fun y9 =>
 some (((-1 : Int), ()), (), ()))
noncomputable def IndexFunc_Matrix_impl_allOf_1_C : Ctr := ⟨93, IndexFunc_Matrix_impl_allOf_1_arg, IndexFunc_Matrix_impl_allOf_1_res, fun x => IndexFunc_Matrix_impl_allOf_1 x.1.1 x.1.2.1.1.1 x.1.2.1.1.2.1 x.1.2.1.1.2.2.1, none⟩
def IndexFunc_Matrix_impl_allOf_1_H : Hint := ⟨[], [], [], fun _ => []⟩
noncomputable def IndexFunc_Matrix_impl_allOf_1_T : List Ctr := [impl_allOf_1_C]
noncomputable def IndexFunc_Matrix_impl_allOf_1_Ls : List Lp := [IndexFunc_Matrix_impl_allOf_1_L0]
theorem IndexFunc_Matrix_impl_allOf_1_l0 : ∀ x, IndexFunc_Matrix_impl_allOf_1_s0 x = stepW E0 IndexFunc_Matrix_impl_allOf_1_T IndexFunc_Matrix_impl_allOf_1_Ls IndexFunc_Matrix_impl_allOf_1_H (loopAt (bodyOf Tryz.f93) 0) 0 IndexFunc_Matrix_impl_allOf_1_h0 [] [(.ret, []), (.exit 0, [])] IndexFunc_Matrix_impl_allOf_1_r0 x := fun x => by kernel_rfl
theorem IndexFunc_Matrix_impl_allOf_1_e : ∀ x, IndexFunc_Matrix_impl_allOf_1_C.F x = runBodyW E0 IndexFunc_Matrix_impl_allOf_1_T IndexFunc_Matrix_impl_allOf_1_Ls IndexFunc_Matrix_impl_allOf_1_H 93 Tryz.f93.results.toList (bodyOf Tryz.f93) [] (IndexFunc_Matrix_impl_allOf_1_arg.mk' x) IndexFunc_Matrix_impl_allOf_1_res := fun x => by kernel_rfl
theorem IndexFunc_Matrix_impl_allOf_1_ok : IndexFunc_Matrix_impl_allOf_1_C.Ok E0 := fn_ok (T := IndexFunc_Matrix_impl_allOf_1_T) (h := IndexFunc_Matrix_impl_allOf_1_H) (Ls := IndexFunc_Matrix_impl_allOf_1_Ls) E0_mixed (T_cons impl_allOf_1_ok T_nil) Tryz.func93 (bodyOf_some (by kernel_rfl)) (by kernel_rfl) (loops_of (ks := [0]) (by kernel_rfl) ⟨(loop_one (h := IndexFunc_Matrix_impl_allOf_1_H) (own := []) (head := IndexFunc_Matrix_impl_allOf_1_h0) (back := []) (exs := [(.ret, []), (.exit 0, [])]) (res := IndexFunc_Matrix_impl_allOf_1_r0) (step := IndexFunc_Matrix_impl_allOf_1_s0) (by kernel_rfl) IndexFunc_Matrix_impl_allOf_1_l0), trivial⟩) IndexFunc_Matrix_impl_allOf_1_e
def ContainsFunc_Matrix_impl_allOf_1_arg : Sh := ⟨[(0, .c (.rd [] .mat)), (1, .c (.fnr 92 [[.str, .s .i64, .s .i64]]))], [], []⟩
def ContainsFunc_Matrix_impl_allOf_1_res : List Sh := [⟨[(0, .c (.bool))], [], []⟩]
noncomputable def ContainsFunc_Matrix_impl_allOf_1 (a0 : List (Int × Int)) (a1_0_0 : ByteArray) (a1_0_1 : List Int) (a1_0_2 : List Int) : Option ((Bool × Unit) × Unit × Unit) :=
 (IndexFunc_Matrix_impl_allOf_1 a0 a1_0_0 a1_0_1 a1_0_2).bind fun r1 =>
 let x2 : Bool := decide (r1.1.1 ≥ (0 : Int));
 some ((x2, ()), (), ())
noncomputable def ContainsFunc_Matrix_impl_allOf_1_C : Ctr := ⟨60, ContainsFunc_Matrix_impl_allOf_1_arg, ContainsFunc_Matrix_impl_allOf_1_res, fun x => ContainsFunc_Matrix_impl_allOf_1 x.1.1 x.1.2.1.1.1 x.1.2.1.1.2.1 x.1.2.1.1.2.2.1, none⟩
def ContainsFunc_Matrix_impl_allOf_1_H : Hint := ⟨[], [], [], fun _ => []⟩
noncomputable def ContainsFunc_Matrix_impl_allOf_1_T : List Ctr := [IndexFunc_Matrix_impl_allOf_1_C]
noncomputable def ContainsFunc_Matrix_impl_allOf_1_Ls : List Lp := []
theorem ContainsFunc_Matrix_impl_allOf_1_e : ∀ x, ContainsFunc_Matrix_impl_allOf_1_C.F x = runBodyW E0 ContainsFunc_Matrix_impl_allOf_1_T ContainsFunc_Matrix_impl_allOf_1_Ls ContainsFunc_Matrix_impl_allOf_1_H 60 Tryz.f60.results.toList (bodyOf Tryz.f60) [] (ContainsFunc_Matrix_impl_allOf_1_arg.mk' x) ContainsFunc_Matrix_impl_allOf_1_res := fun x => by kernel_rfl
theorem ContainsFunc_Matrix_impl_allOf_1_ok : ContainsFunc_Matrix_impl_allOf_1_C.Ok E0 := fn_ok (T := ContainsFunc_Matrix_impl_allOf_1_T) (h := ContainsFunc_Matrix_impl_allOf_1_H) (Ls := ContainsFunc_Matrix_impl_allOf_1_Ls) E0_mixed (T_cons IndexFunc_Matrix_impl_allOf_1_ok T_nil) Tryz.func60 (bodyOf_some (by kernel_rfl)) (by kernel_rfl) (loops_of (ks := []) (by kernel_rfl) trivial) ContainsFunc_Matrix_impl_allOf_1_e
def impl_allOf_arg : Sh := ⟨[(0, .agg [.str, .rd [] .i64, .rd [] .i64]), (1, .c (.rd [] .mat))], [], []⟩
def impl_allOf_res : List Sh := [⟨[(0, .c (.bool))], [], []⟩]
noncomputable def impl_allOf (a0_0 : ByteArray) (a0_1 : List Int) (a0_2 : List Int) (a1 : List (Int × Int)) : Option ((Bool × Unit) × Unit × Unit) :=
 (ContainsFunc_Matrix_impl_allOf_1 a1 a0_0 a0_1 a0_2).bind fun r1 =>
 some ((!r1.1.1, ()), (), ())
noncomputable def impl_allOf_C : Ctr := ⟨59, impl_allOf_arg, impl_allOf_res, fun x => impl_allOf x.1.1.1 x.1.1.2.1 x.1.1.2.2.1 x.1.2.1, none⟩
def impl_allOf_H : Hint := ⟨[], [], [], fun _ => []⟩
noncomputable def impl_allOf_T : List Ctr := [ContainsFunc_Matrix_impl_allOf_1_C]
noncomputable def impl_allOf_Ls : List Lp := []
theorem impl_allOf_e : ∀ x, impl_allOf_C.F x = runBodyW E0 impl_allOf_T impl_allOf_Ls impl_allOf_H 59 Tryz.f59.results.toList (bodyOf Tryz.f59) [] (impl_allOf_arg.mk' x) impl_allOf_res := fun x => by kernel_rfl
theorem impl_allOf_ok : impl_allOf_C.Ok E0 := fn_ok (T := impl_allOf_T) (h := impl_allOf_H) (Ls := impl_allOf_Ls) E0_mixed (T_cons ContainsFunc_Matrix_impl_allOf_1_ok T_nil) Tryz.func59 (bodyOf_some (by kernel_rfl)) (by kernel_rfl) (loops_of (ks := []) (by kernel_rfl) trivial) impl_allOf_e
def impl_MagazineOk_arg : Sh := ⟨[(0, .agg [.str, .rd [] .i64, .rd [] .i64]), (1, .c (.rd [] .mats))], [], []⟩
def impl_MagazineOk_res : List Sh := [⟨[(0, .c (.bool))], [], []⟩]
noncomputable def impl_MagazineOk_s0 (x : (Unit × List (List (Int × Int)) × Int × Int × Unit) × ((ByteArray × List Int × List Int × Unit) × Unit) × Unit) : Option (((Unit × List (List (Int × Int)) × Int × Int × Unit) × ((ByteArray × List Int × List Int × Unit) × Unit) × Unit) ⊕ (((Bool × Unit) × Unit × Unit) ⊕ (Unit × Unit × Unit))) :=
 let x3 : Bool := decide (x.1.2.2.2.1 < x.1.2.2.1);
 br x3
 (ck (0 ≤ x.1.2.2.2.1)
 (ck (x.1.2.2.2.1.toNat < x.1.2.1.length)
 (let x4 : List (Int × Int) := x.1.2.1.getD x.1.2.2.2.1.toNat [];
 let x5 : Bool := decide ((x4.length : Int) > (20 : Int));
 br x5
 (some (.inr (.inl ((false, ()), (), ()))))
 ((impl_allOf x.2.1.1.1 x.2.1.1.2.1 x.2.1.1.2.2.1 x4).bind fun r6 =>
 br (!r6.1.1)
 (some (.inr (.inl ((false, ()), (), ()))))
 (let x7 : Int := w64 (x.1.2.2.2.1 + (1 : Int));
 some (.inl (((), x.1.2.1, x.1.2.2.1, x7, ()), ((x.2.1.1.1, x.2.1.1.2.1, x.2.1.1.2.2.1, ()), ()), ())))))))
 (some (.inr (.inr ((), (), ()))))
def impl_MagazineOk_h0 : Sh := ⟨[(2, .c (.box 0 0)), (18, .c (.rd [] .mats)), (19, .c (.int .i64)), (20, .c (.int .i64))], [(0, .cells [.str, .rd [] .i64, .rd [] .i64])], []⟩
def impl_MagazineOk_r0 : List Sh := [⟨[(4, .c (.bool))], [], []⟩, ⟨[], [], []⟩]
noncomputable def impl_MagazineOk_L0 : Lp := ⟨0, [], impl_MagazineOk_h0, [], [(.ret, []), (.exit 0, [])], impl_MagazineOk_r0, loopC impl_MagazineOk_s0⟩
noncomputable def impl_MagazineOk (a0_0 : ByteArray) (a0_1 : List Int) (a0_2 : List Int) (a1 : List (List (Int × Int))) : Option ((Bool × Unit) × Unit × Unit) :=
 (impl_FontOk a0_0 a0_1 a0_2).bind fun r1 =>
 br (!r1.1.1)
 (some ((false, ()), (), ()))
 (let x2 : Bool := (a1.length : Int) != (a0_0.size : Int);
 br x2
 (some ((false, ()), (), ()))
 ((loopC impl_MagazineOk_s0 (((), a1, (a1.length : Int), (0 : Int), ()), ((a0_0, a0_1, a0_2, ()), ()), ())).bind fun r8 =>
 sumK r8 (fun y11 =>
 some ((y11.1.1, ()), (), ())) (fun y12 =>
 some ((true, ()), (), ()))))
noncomputable def impl_MagazineOk_C : Ctr := ⟨58, impl_MagazineOk_arg, impl_MagazineOk_res, fun x => impl_MagazineOk x.1.1.1 x.1.1.2.1 x.1.1.2.2.1 x.1.2.1, none⟩
def impl_MagazineOk_H : Hint := ⟨[], [], [], fun _ => []⟩
noncomputable def impl_MagazineOk_T : List Ctr := [impl_FontOk_C, impl_allOf_C]
noncomputable def impl_MagazineOk_Ls : List Lp := [impl_MagazineOk_L0]
theorem impl_MagazineOk_l0 : ∀ x, impl_MagazineOk_s0 x = stepW E0 impl_MagazineOk_T impl_MagazineOk_Ls impl_MagazineOk_H (loopAt (bodyOf Tryz.f58) 0) 0 impl_MagazineOk_h0 [] [(.ret, []), (.exit 0, [])] impl_MagazineOk_r0 x := fun x => by kernel_rfl
theorem impl_MagazineOk_e : ∀ x, impl_MagazineOk_C.F x = runBodyW E0 impl_MagazineOk_T impl_MagazineOk_Ls impl_MagazineOk_H 58 Tryz.f58.results.toList (bodyOf Tryz.f58) [] (impl_MagazineOk_arg.mk' x) impl_MagazineOk_res := fun x => by kernel_rfl
theorem impl_MagazineOk_ok : impl_MagazineOk_C.Ok E0 := fn_ok (T := impl_MagazineOk_T) (h := impl_MagazineOk_H) (Ls := impl_MagazineOk_Ls) E0_mixed (T_cons impl_FontOk_ok (T_cons impl_allOf_ok T_nil)) Tryz.func58 (bodyOf_some (by kernel_rfl)) (by kernel_rfl) (loops_of (ks := [0]) (by kernel_rfl) ⟨(loop_one (h := impl_MagazineOk_H) (own := []) (head := impl_MagazineOk_h0) (back := []) (exs := [(.ret, []), (.exit 0, [])]) (res := impl_MagazineOk_r0) (step := impl_MagazineOk_s0) (by kernel_rfl) impl_MagazineOk_l0), trivial⟩) impl_MagazineOk_e
def impl_isBand_arg : Sh := ⟨[(0, .agg [.int .i64, .int .i64])], [], []⟩
def impl_isBand_res : List Sh := [⟨[(0, .c (.bool))], [], []⟩]
noncomputable def impl_isBand (a0_0 : Int) (a0_1 : Int) : Option ((Bool × Unit) × Unit × Unit) :=
 let x1 : Bool := eqInts [a0_0, a0_1] [(-1 : Int), (0 : Int)];
 some ((x1, ()), (), ())
noncomputable def impl_isBand_C : Ctr := ⟨62, impl_isBand_arg, impl_isBand_res, fun x => impl_isBand x.1.1.1 x.1.1.2.1, none⟩
def impl_isBand_H : Hint := ⟨[], [], [], fun _ => []⟩
noncomputable def impl_isBand_T : List Ctr := []
noncomputable def impl_isBand_Ls : List Lp := []
theorem impl_isBand_e : ∀ x, impl_isBand_C.F x = runBodyW E0 impl_isBand_T impl_isBand_Ls impl_isBand_H 62 Tryz.f62.results.toList (bodyOf Tryz.f62) [] (impl_isBand_arg.mk' x) impl_isBand_res := fun x => by kernel_rfl
theorem impl_isBand_ok : impl_isBand_C.Ok E0 := fn_ok (T := impl_isBand_T) (h := impl_isBand_H) (Ls := impl_isBand_Ls) E0_mixed T_nil Tryz.func62 (bodyOf_some (by kernel_rfl)) (by kernel_rfl) (loops_of (ks := []) (by kernel_rfl) trivial) impl_isBand_e
def impl_MachineOk_1_arg : Sh := ⟨[(0, .agg [.int .i64, .int .i64]), (1, .c (.rad [] [.str, .s .i64, .s .i64, .u, .int .i64, .int .i64, .int .i64, .int .i64, .s .mat, .s .mat]))], [], []⟩
def impl_MachineOk_1_res : List Sh := [⟨[(0, .c (.bool))], [], []⟩]
noncomputable def impl_MachineOk_1 (a0_0 : Int) (a0_1 : Int) (a1_0 : ByteArray) (a1_1 : List Int) (a1_2 : List Int) (a1_4 : Int) (a1_5 : Int) (a1_6 : Int) (a1_7 : Int) (a1_8 : List (Int × Int)) (a1_9 : List (Int × Int)) : Option ((Bool × Unit) × Unit × Unit) :=
 (impl_isBand a0_0 a0_1).bind fun r1 =>
 br (!r1.1.1)
 ((impl_ofFont a1_0 a1_1 a1_2 a0_0 a0_1).bind fun r2 =>
 some ((!r2.1.1, ()), (), ()))
 (some ((false, ()), (), ()))
noncomputable def impl_MachineOk_1_C : Ctr := ⟨61, impl_MachineOk_1_arg, impl_MachineOk_1_res, fun x => impl_MachineOk_1 x.1.1.1 x.1.1.2.1 x.1.2.1.1 x.1.2.1.2.1 x.1.2.1.2.2.1 x.1.2.1.2.2.2.2.1 x.1.2.1.2.2.2.2.2.1 x.1.2.1.2.2.2.2.2.2.1 x.1.2.1.2.2.2.2.2.2.2.1 x.1.2.1.2.2.2.2.2.2.2.2.1 x.1.2.1.2.2.2.2.2.2.2.2.2.1, none⟩
def impl_MachineOk_1_H : Hint := ⟨[], [], [], fun _ => []⟩
noncomputable def impl_MachineOk_1_T : List Ctr := [impl_isBand_C, impl_ofFont_C]
noncomputable def impl_MachineOk_1_Ls : List Lp := []
theorem impl_MachineOk_1_e : ∀ x, impl_MachineOk_1_C.F x = runBodyW E0 impl_MachineOk_1_T impl_MachineOk_1_Ls impl_MachineOk_1_H 61 Tryz.f61.results.toList (bodyOf Tryz.f61) [] (impl_MachineOk_1_arg.mk' x) impl_MachineOk_1_res := fun x => by kernel_rfl
theorem impl_MachineOk_1_ok : impl_MachineOk_1_C.Ok E0 := fn_ok (T := impl_MachineOk_1_T) (h := impl_MachineOk_1_H) (Ls := impl_MachineOk_1_Ls) E0_mixed (T_cons impl_isBand_ok (T_cons impl_ofFont_ok T_nil)) Tryz.func61 (bodyOf_some (by kernel_rfl)) (by kernel_rfl) (loops_of (ks := []) (by kernel_rfl) trivial) impl_MachineOk_1_e
def IndexFunc_Matrix_impl_MachineOk_1_arg : Sh := ⟨[(0, .c (.rd [] .mat)), (1, .c (.fnr 61 [[.str, .s .i64, .s .i64, .u, .int .i64, .int .i64, .int .i64, .int .i64, .s .mat, .s .mat]]))], [], []⟩
def IndexFunc_Matrix_impl_MachineOk_1_res : List Sh := [⟨[(0, .c (.int .i64))], [], []⟩]
noncomputable def IndexFunc_Matrix_impl_MachineOk_1_s0 (x : (List (Int × Int) × ((ByteArray × List Int × List Int × Unit × Int × Int × Int × Int × List (Int × Int) × List (Int × Int) × Unit) × Unit) × Int × Int × Unit) × Unit × Unit) : Option (((List (Int × Int) × ((ByteArray × List Int × List Int × Unit × Int × Int × Int × Int × List (Int × Int) × List (Int × Int) × Unit) × Unit) × Int × Int × Unit) × Unit × Unit) ⊕ (((Int × Unit) × Unit × Unit) ⊕ (Unit × Unit × Unit))) :=
 let x1 : Bool := decide (x.1.2.2.2.1 < x.1.2.2.1);
 br x1
 (ck (0 ≤ x.1.2.2.2.1)
 (ck (x.1.2.2.2.1.toNat < x.1.1.length)
 (let x2 : Int × Int := x.1.1.getD x.1.2.2.2.1.toNat (0, 0);
 (impl_MachineOk_1 x2.1 x2.2 x.1.2.1.1.1 x.1.2.1.1.2.1 x.1.2.1.1.2.2.1 x.1.2.1.1.2.2.2.2.1 x.1.2.1.1.2.2.2.2.2.1 x.1.2.1.1.2.2.2.2.2.2.1 x.1.2.1.1.2.2.2.2.2.2.2.1 x.1.2.1.1.2.2.2.2.2.2.2.2.1 x.1.2.1.1.2.2.2.2.2.2.2.2.2.1).bind fun r3 =>
 br r3.1.1
 (some (.inr (.inl ((x.1.2.2.2.1, ()), (), ()))))
 (let x4 : Int := w64 (x.1.2.2.2.1 + (1 : Int));
 some (.inl ((x.1.1, ((x.1.2.1.1.1, x.1.2.1.1.2.1, x.1.2.1.1.2.2.1, (), x.1.2.1.1.2.2.2.2.1, x.1.2.1.1.2.2.2.2.2.1, x.1.2.1.1.2.2.2.2.2.2.1, x.1.2.1.1.2.2.2.2.2.2.2.1, x.1.2.1.1.2.2.2.2.2.2.2.2.1, x.1.2.1.1.2.2.2.2.2.2.2.2.2.1, ()), ()), x.1.2.2.1, x4, ()), (), ()))))))
 (some (.inr (.inr ((), (), ()))))
def IndexFunc_Matrix_impl_MachineOk_1_h0 : Sh := ⟨[(0, .c (.rd [] .mat)), (1, .c (.fnr 61 [[.str, .s .i64, .s .i64, .u, .int .i64, .int .i64, .int .i64, .int .i64, .s .mat, .s .mat]])), (7, .c (.int .i64)), (8, .c (.int .i64))], [], []⟩
def IndexFunc_Matrix_impl_MachineOk_1_r0 : List Sh := [⟨[(4, .c (.int .i64))], [], []⟩, ⟨[], [], []⟩]
noncomputable def IndexFunc_Matrix_impl_MachineOk_1_L0 : Lp := ⟨0, [], IndexFunc_Matrix_impl_MachineOk_1_h0, [], [(.ret, []), (.exit 0, [])], IndexFunc_Matrix_impl_MachineOk_1_r0, loopC IndexFunc_Matrix_impl_MachineOk_1_s0⟩
noncomputable def IndexFunc_Matrix_impl_MachineOk_1 (a0 : List (Int × Int)) (a1_0_0 : ByteArray) (a1_0_1 : List Int) (a1_0_2 : List Int) (a1_0_4 : Int) (a1_0_5 : Int) (a1_0_6 : Int) (a1_0_7 : Int) (a1_0_8 : List (Int × Int)) (a1_0_9 : List (Int × Int)) : Option ((Int × Unit) × Unit × Unit) :=
 (loopC IndexFunc_Matrix_impl_MachineOk_1_s0 ((a0, ((a1_0_0, a1_0_1, a1_0_2, (), a1_0_4, a1_0_5, a1_0_6, a1_0_7, a1_0_8, a1_0_9, ()), ()), (a0.length : Int), (0 : Int), ()), (), ())).bind fun r5 =>
 sumK r5 (fun y8 =>
 some ((y8.1.1, ()), (), ())) (fun y9 =>
 some (((-1 : Int), ()), (), ()))
noncomputable def IndexFunc_Matrix_impl_MachineOk_1_C : Ctr := ⟨93, IndexFunc_Matrix_impl_MachineOk_1_arg, IndexFunc_Matrix_impl_MachineOk_1_res, fun x => IndexFunc_Matrix_impl_MachineOk_1 x.1.1 x.1.2.1.1.1 x.1.2.1.1.2.1 x.1.2.1.1.2.2.1 x.1.2.1.1.2.2.2.2.1 x.1.2.1.1.2.2.2.2.2.1 x.1.2.1.1.2.2.2.2.2.2.1 x.1.2.1.1.2.2.2.2.2.2.2.1 x.1.2.1.1.2.2.2.2.2.2.2.2.1 x.1.2.1.1.2.2.2.2.2.2.2.2.2.1, none⟩
def IndexFunc_Matrix_impl_MachineOk_1_H : Hint := ⟨[], [], [], fun _ => []⟩
noncomputable def IndexFunc_Matrix_impl_MachineOk_1_T : List Ctr := [impl_MachineOk_1_C]
noncomputable def IndexFunc_Matrix_impl_MachineOk_1_Ls : List Lp := [IndexFunc_Matrix_impl_MachineOk_1_L0]
theorem IndexFunc_Matrix_impl_MachineOk_1_l0 : ∀ x, IndexFunc_Matrix_impl_MachineOk_1_s0 x = stepW E0 IndexFunc_Matrix_impl_MachineOk_1_T IndexFunc_Matrix_impl_MachineOk_1_Ls IndexFunc_Matrix_impl_MachineOk_1_H (loopAt (bodyOf Tryz.f93) 0) 0 IndexFunc_Matrix_impl_MachineOk_1_h0 [] [(.ret, []), (.exit 0, [])] IndexFunc_Matrix_impl_MachineOk_1_r0 x := fun x => by kernel_rfl
theorem IndexFunc_Matrix_impl_MachineOk_1_e : ∀ x, IndexFunc_Matrix_impl_MachineOk_1_C.F x = runBodyW E0 IndexFunc_Matrix_impl_MachineOk_1_T IndexFunc_Matrix_impl_MachineOk_1_Ls IndexFunc_Matrix_impl_MachineOk_1_H 93 Tryz.f93.results.toList (bodyOf Tryz.f93) [] (IndexFunc_Matrix_impl_MachineOk_1_arg.mk' x) IndexFunc_Matrix_impl_MachineOk_1_res := fun x => by kernel_rfl
theorem IndexFunc_Matrix_impl_MachineOk_1_ok : IndexFunc_Matrix_impl_MachineOk_1_C.Ok E0 := fn_ok (T := IndexFunc_Matrix_impl_MachineOk_1_T) (h := IndexFunc_Matrix_impl_MachineOk_1_H) (Ls := IndexFunc_Matrix_impl_MachineOk_1_Ls) E0_mixed (T_cons impl_MachineOk_1_ok T_nil) Tryz.func93 (bodyOf_some (by kernel_rfl)) (by kernel_rfl) (loops_of (ks := [0]) (by kernel_rfl) ⟨(loop_one (h := IndexFunc_Matrix_impl_MachineOk_1_H) (own := []) (head := IndexFunc_Matrix_impl_MachineOk_1_h0) (back := []) (exs := [(.ret, []), (.exit 0, [])]) (res := IndexFunc_Matrix_impl_MachineOk_1_r0) (step := IndexFunc_Matrix_impl_MachineOk_1_s0) (by kernel_rfl) IndexFunc_Matrix_impl_MachineOk_1_l0), trivial⟩) IndexFunc_Matrix_impl_MachineOk_1_e
def ContainsFunc_Matrix_impl_MachineOk_1_arg : Sh := ⟨[(0, .c (.rd [] .mat)), (1, .c (.fnr 61 [[.str, .s .i64, .s .i64, .u, .int .i64, .int .i64, .int .i64, .int .i64, .s .mat, .s .mat]]))], [], []⟩
def ContainsFunc_Matrix_impl_MachineOk_1_res : List Sh := [⟨[(0, .c (.bool))], [], []⟩]
noncomputable def ContainsFunc_Matrix_impl_MachineOk_1 (a0 : List (Int × Int)) (a1_0_0 : ByteArray) (a1_0_1 : List Int) (a1_0_2 : List Int) (a1_0_4 : Int) (a1_0_5 : Int) (a1_0_6 : Int) (a1_0_7 : Int) (a1_0_8 : List (Int × Int)) (a1_0_9 : List (Int × Int)) : Option ((Bool × Unit) × Unit × Unit) :=
 (IndexFunc_Matrix_impl_MachineOk_1 a0 a1_0_0 a1_0_1 a1_0_2 a1_0_4 a1_0_5 a1_0_6 a1_0_7 a1_0_8 a1_0_9).bind fun r1 =>
 let x2 : Bool := decide (r1.1.1 ≥ (0 : Int));
 some ((x2, ()), (), ())
noncomputable def ContainsFunc_Matrix_impl_MachineOk_1_C : Ctr := ⟨60, ContainsFunc_Matrix_impl_MachineOk_1_arg, ContainsFunc_Matrix_impl_MachineOk_1_res, fun x => ContainsFunc_Matrix_impl_MachineOk_1 x.1.1 x.1.2.1.1.1 x.1.2.1.1.2.1 x.1.2.1.1.2.2.1 x.1.2.1.1.2.2.2.2.1 x.1.2.1.1.2.2.2.2.2.1 x.1.2.1.1.2.2.2.2.2.2.1 x.1.2.1.1.2.2.2.2.2.2.2.1 x.1.2.1.1.2.2.2.2.2.2.2.2.1 x.1.2.1.1.2.2.2.2.2.2.2.2.2.1, none⟩
def ContainsFunc_Matrix_impl_MachineOk_1_H : Hint := ⟨[], [], [], fun _ => []⟩
noncomputable def ContainsFunc_Matrix_impl_MachineOk_1_T : List Ctr := [IndexFunc_Matrix_impl_MachineOk_1_C]
noncomputable def ContainsFunc_Matrix_impl_MachineOk_1_Ls : List Lp := []
theorem ContainsFunc_Matrix_impl_MachineOk_1_e : ∀ x, ContainsFunc_Matrix_impl_MachineOk_1_C.F x = runBodyW E0 ContainsFunc_Matrix_impl_MachineOk_1_T ContainsFunc_Matrix_impl_MachineOk_1_Ls ContainsFunc_Matrix_impl_MachineOk_1_H 60 Tryz.f60.results.toList (bodyOf Tryz.f60) [] (ContainsFunc_Matrix_impl_MachineOk_1_arg.mk' x) ContainsFunc_Matrix_impl_MachineOk_1_res := fun x => by kernel_rfl
theorem ContainsFunc_Matrix_impl_MachineOk_1_ok : ContainsFunc_Matrix_impl_MachineOk_1_C.Ok E0 := fn_ok (T := ContainsFunc_Matrix_impl_MachineOk_1_T) (h := ContainsFunc_Matrix_impl_MachineOk_1_H) (Ls := ContainsFunc_Matrix_impl_MachineOk_1_Ls) E0_mixed (T_cons IndexFunc_Matrix_impl_MachineOk_1_ok T_nil) Tryz.func60 (bodyOf_some (by kernel_rfl)) (by kernel_rfl) (loops_of (ks := []) (by kernel_rfl) trivial) ContainsFunc_Matrix_impl_MachineOk_1_e
end Go.Tree
