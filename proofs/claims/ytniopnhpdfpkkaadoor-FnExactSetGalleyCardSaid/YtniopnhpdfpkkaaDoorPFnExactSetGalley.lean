/- What each function that the law FnExactSetGalley reaches computes, as a plain function, and the proof that the program's code computes it. No condition but the function's own answer. -/
import Derived.Test.YtniopnhpdfpkkaaDoorK8
import Derived.Shelf.Strings.Split
import Derived.Shelf.SlicesE.DeleteFunc
import Derived.Lib.Hide
import Derived.WalkKit
import Derived.Shelf.Strings.OnBuilder
import Derived.Lib.Join
import Derived.Test.YtniopnhpdfpkkaaDoorProg
import Derived.KernelRfl
namespace Go.Tree
open Go Go.Proofs
set_option linter.unusedVariables false
set_option maxRecDepth 100000
noncomputable def E0 : Env := { P := Tryd.prog, hint := fun _ => ⟨[], [], [], fun _ => []⟩, mode := fun f => ([0, 0, 0, 0, 0, 0, 0, 0, 0, 0, 0, 0, 2, 2, 0, 0, 0, 0, 0, 0, 0, 0, 0, 0, 0, 0, 0, 0, 0, 0, 2, 0, 0, 0, 0, 0, 0, 0, 0, 0, 0, 0, 0, 0, 0, 0, 0, 0, 0, 0, 0, 0, 0, 0, 0, 0, 0, 0, 0, 0, 0, 0, 0, 0, 0, 0, 0, 0, 0, 0, 0, 0, 0, 0, 0, 0, 0, 0, 0, 0, 0, 0, 0, 0, 0, 0, 0, 0, 0, 0, 0, 0, 0, 0, 0, 0, 0, 0, 0, 0, 0, 0, 0, 0, 0, 0, 0, 0, 0, 0, 0, 0, 0, 0, 0, 0, 0, 0, 0, 0, 0, 0, 0, 0] : List Nat).getD f 0, nres := fun f => ([0, 0, 0, 1, 1, 1, 2, 1, 1, 2, 1, 1, 1, 1, 1, 1, 2, 1, 2, 1, 2, 2, 1, 1, 1, 2, 2, 1, 1, 1, 1, 1, 1, 1, 1, 1, 1, 1, 1, 1, 1, 1, 1, 1, 2, 1, 1, 1, 1, 1, 1, 1, 1, 0, 2, 1, 1, 1, 1, 1, 1, 1, 1, 1, 1, 3, 1, 1, 1, 1, 0, 0, 1, 1, 2, 1, 1, 1, 1, 1, 1, 1, 1, 1, 1, 1, 1, 1, 1, 1, 1, 1, 2, 1, 1, 2, 1, 1, 1, 1, 1, 2, 1, 0, 1, 0, 1, 0, 1, 0, 1, 0, 1, 0, 1, 1, 0, 0, 1, 0, 0, 0, 0, 0] : List Nat).getD f 0, pk := fun w => (∃ m, w.cell? ⟨0, 0, none⟩ = some (.int .i64 m)) ∧ True }
theorem E0_mixed : E0.P.follows .mixedOrders = true := by kernel_rfl
def laws_szIntS_arg : Sh := ⟨[(0, .c (.rd [] .i64)), (1, .c (.int .i64))], [], []⟩
def laws_szIntS_res : List Sh := [⟨[(0, .c (.int .i64))], [], []⟩]
noncomputable def laws_szIntS (a0 : List Int) (a1 : Int) : Option ((Int × Unit) × Unit × Unit) :=
 let x1 : Int := w64 (a1 - (a0.length : Int));
 let x2 : Bool := decide (x1 < (0 : Int));
 br x2
 (some (((-1 : Int), ()), (), ()))
 (some ((x1, ()), (), ()))
noncomputable def laws_szIntS_C : Ctr := ⟨19, laws_szIntS_arg, laws_szIntS_res, fun x => laws_szIntS x.1.1 x.1.2.1, none⟩
def laws_szIntS_H : Hint := ⟨[], [], [], fun _ => []⟩
noncomputable def laws_szIntS_T : List Ctr := []
noncomputable def laws_szIntS_Ls : List Lp := []
theorem laws_szIntS_e : ∀ x, laws_szIntS_C.F x = runBodyW E0 laws_szIntS_T laws_szIntS_Ls laws_szIntS_H 19 Tryd.f19.results.toList (bodyOf Tryd.f19) [] (laws_szIntS_arg.mk' x) laws_szIntS_res := fun x => by kernel_rfl
theorem laws_szIntS_ok : laws_szIntS_C.Ok E0 := fn_ok (T := laws_szIntS_T) (h := laws_szIntS_H) (Ls := laws_szIntS_Ls) E0_mixed T_nil Tryd.func19 (bodyOf_some (by kernel_rfl)) (by kernel_rfl) (loops_of (ks := []) (by kernel_rfl) trivial) laws_szIntS_e
def laws_szFont_arg : Sh := ⟨[(0, .agg [.str, .rd [] .i64, .rd [] .i64]), (1, .c (.int .i64))], [], []⟩
def laws_szFont_res : List Sh := [⟨[(0, .c (.int .i64))], [], []⟩]
noncomputable def laws_szFont (a0_0 : ByteArray) (a0_1 : List Int) (a0_2 : List Int) (a1 : Int) : Option ((Int × Unit) × Unit × Unit) :=
 let x1 : Int := w64 (a1 - (a0_0.size : Int));
 let x2 : Bool := decide (x1 < (0 : Int));
 br x2
 (some (((-1 : Int), ()), (), ()))
 ((laws_szIntS a0_1 x1).bind fun r3 =>
 let x4 : Bool := decide (r3.1.1 < (0 : Int));
 br x4
 (some (((-1 : Int), ()), (), ()))
 ((laws_szIntS a0_2 r3.1.1).bind fun r5 =>
 let x6 : Bool := decide (r5.1.1 < (0 : Int));
 br x6
 (some (((-1 : Int), ()), (), ()))
 (some ((r5.1.1, ()), (), ()))))
noncomputable def laws_szFont_C : Ctr := ⟨5, laws_szFont_arg, laws_szFont_res, fun x => laws_szFont x.1.1.1 x.1.1.2.1 x.1.1.2.2.1 x.1.2.1, none⟩
def laws_szFont_H : Hint := ⟨[], [], [], fun _ => []⟩
noncomputable def laws_szFont_T : List Ctr := [laws_szIntS_C]
noncomputable def laws_szFont_Ls : List Lp := []
theorem laws_szFont_e : ∀ x, laws_szFont_C.F x = runBodyW E0 laws_szFont_T laws_szFont_Ls laws_szFont_H 5 Tryd.f5.results.toList (bodyOf Tryd.f5) [] (laws_szFont_arg.mk' x) laws_szFont_res := fun x => by kernel_rfl
theorem laws_szFont_ok : laws_szFont_C.Ok E0 := fn_ok (T := laws_szFont_T) (h := laws_szFont_H) (Ls := laws_szFont_Ls) E0_mixed (T_cons laws_szIntS_ok T_nil) Tryd.func5 (bodyOf_some (by kernel_rfl)) (by kernel_rfl) (loops_of (ks := []) (by kernel_rfl) trivial) laws_szFont_e
def laws_toIntS_arg : Sh := ⟨[(0, .c (.rd [] .i64))], [], []⟩
def laws_toIntS_res : List Sh := [⟨[(0, .c (.own 0))], [], [(0, .i64)]⟩]
noncomputable def laws_toIntS_s0 (x : (List Int × Unit × Int × Unit) × Unit × (List Int × Unit)) : Option (((List Int × Unit × Int × Unit) × Unit × (List Int × Unit)) ⊕ ((Unit × Unit) × Unit × (List Int × Unit))) :=
 let x2 : Bool := decide (x.1.2.2.1 < (x.1.1.length : Int));
 br x2
 (ck (0 ≤ x.1.2.2.1)
 (ck (x.1.2.2.1.toNat < x.1.1.length)
 (let x3 : Int := x.1.1.getD x.1.2.2.1.toNat 0;
 ck (0 ≤ x.1.2.2.1)
 (ck (x.1.2.2.1.toNat < x.2.2.1.length)
 (ck (x.1.2.2.1.toNat < x.2.2.1.length)
 (let x4 : List Int := x.2.2.1.set x.1.2.2.1.toNat x3;
 let x5 : Int := w64 (x.1.2.2.1 + (1 : Int));
 some (.inl ((x.1.1, (), x5, ()), (), (x4, ())))))))))
 (some (.inr (((), ()), (), (x.2.2.1, ()))))
def laws_toIntS_h0 : Sh := ⟨[(0, .c (.rd [] .i64)), (3, .c (.own 0)), (4, .c (.int .i64))], [], [(0, .i64)]⟩
def laws_toIntS_r0 : List Sh := [⟨[(3, .c (.own 0))], [], [(0, .i64)]⟩]
noncomputable def laws_toIntS_L0 : Lp := ⟨0, [], laws_toIntS_h0, [], [(.exit 0, [])], laws_toIntS_r0, loopC laws_toIntS_s0⟩
noncomputable def laws_toIntS (a0 : List Int) : Option ((Unit × Unit) × Unit × (List Int × Unit)) :=
 ck (0 ≤ (a0.length : Int))
 (ck (0 ≤ (a0.length : Int))
 (ck ((a0.length : Int).toNat = (a0.length : Int).toNat ∧ (a0.length : Int).toNat * 8 ≤ 140737488355328 ∧ (a0.length : Int).toNat ≤ 9223372036854775807)
 (let x1 : List Int := List.replicate ((a0.length : Int).toNat) 0;
 (loopC laws_toIntS_s0 ((a0, (), (0 : Int), ()), (), (x1, ()))).bind fun r6 =>
 some (((), ()), (), (r6.2.2.1, ())))))
noncomputable def laws_toIntS_C : Ctr := ⟨24, laws_toIntS_arg, laws_toIntS_res, fun x => laws_toIntS x.1.1, none⟩
def laws_toIntS_H : Hint := ⟨[], [], [], fun _ => []⟩
noncomputable def laws_toIntS_T : List Ctr := []
noncomputable def laws_toIntS_Ls : List Lp := [laws_toIntS_L0]
theorem laws_toIntS_l0 : ∀ x, laws_toIntS_s0 x = stepW E0 laws_toIntS_T laws_toIntS_Ls laws_toIntS_H (loopAt (bodyOf Tryd.f24) 0) 0 laws_toIntS_h0 [] [(.exit 0, [])] laws_toIntS_r0 x := fun x => by kernel_rfl
theorem laws_toIntS_e : ∀ x, laws_toIntS_C.F x = runBodyW E0 laws_toIntS_T laws_toIntS_Ls laws_toIntS_H 24 Tryd.f24.results.toList (bodyOf Tryd.f24) [] (laws_toIntS_arg.mk' x) laws_toIntS_res := fun x => by kernel_rfl
theorem laws_toIntS_ok : laws_toIntS_C.Ok E0 := fn_ok (T := laws_toIntS_T) (h := laws_toIntS_H) (Ls := laws_toIntS_Ls) E0_mixed T_nil Tryd.func24 (bodyOf_some (by kernel_rfl)) (by kernel_rfl) (loops_of (ks := [0]) (by kernel_rfl) ⟨(loop_one (h := laws_toIntS_H) (own := []) (head := laws_toIntS_h0) (back := []) (exs := [(.exit 0, [])]) (res := laws_toIntS_r0) (step := laws_toIntS_s0) (by kernel_rfl) laws_toIntS_l0), trivial⟩) laws_toIntS_e
def laws_toFont_arg : Sh := ⟨[(0, .agg [.str, .rd [] .i64, .rd [] .i64])], [], []⟩
def laws_toFont_res : List Sh := [⟨[(0, .agg [.str, .own 0, .own 1])], [], [(0, .i64), (1, .i64)]⟩]
noncomputable def laws_toFont (a0_0 : ByteArray) (a0_1 : List Int) (a0_2 : List Int) : Option (((ByteArray × Unit × Unit × Unit) × Unit) × Unit × (List Int × List Int × Unit)) :=
 (laws_toIntS a0_1).bind fun r1 =>
 (laws_toIntS a0_2).bind fun r2 =>
 some (((a0_0, (), (), ()), ()), (), (r1.2.2.1, r2.2.2.1, ()))
noncomputable def laws_toFont_C : Ctr := ⟨7, laws_toFont_arg, laws_toFont_res, fun x => laws_toFont x.1.1.1 x.1.1.2.1 x.1.1.2.2.1, none⟩
def laws_toFont_H : Hint := ⟨[], [], [], fun _ => []⟩
noncomputable def laws_toFont_T : List Ctr := [laws_toIntS_C]
noncomputable def laws_toFont_Ls : List Lp := []
theorem laws_toFont_e : ∀ x, laws_toFont_C.F x = runBodyW E0 laws_toFont_T laws_toFont_Ls laws_toFont_H 7 Tryd.f7.results.toList (bodyOf Tryd.f7) [] (laws_toFont_arg.mk' x) laws_toFont_res := fun x => by kernel_rfl
theorem laws_toFont_ok : laws_toFont_C.Ok E0 := fn_ok (T := laws_toFont_T) (h := laws_toFont_H) (Ls := laws_toFont_Ls) E0_mixed (T_cons laws_toIntS_ok T_nil) Tryd.func7 (bodyOf_some (by kernel_rfl)) (by kernel_rfl) (loops_of (ks := []) (by kernel_rfl) trivial) laws_toFont_e
def laws_toMeasure_arg : Sh := ⟨[(0, .agg [.int .i64, .int .i64, .int .i64])], [], []⟩
def laws_toMeasure_res : List Sh := [⟨[(0, .agg [.int .i64, .int .i64, .int .i64])], [], []⟩]
noncomputable def laws_toMeasure (a0_0 : Int) (a0_1 : Int) (a0_2 : Int) : Option (((Int × Int × Int × Unit) × Unit) × Unit × Unit) :=
 some (((a0_0, a0_1, a0_2, ()), ()), (), ())
noncomputable def laws_toMeasure_C : Ctr := ⟨8, laws_toMeasure_arg, laws_toMeasure_res, fun x => laws_toMeasure x.1.1.1 x.1.1.2.1 x.1.1.2.2.1, none⟩
def laws_toMeasure_H : Hint := ⟨[], [], [], fun _ => []⟩
noncomputable def laws_toMeasure_T : List Ctr := []
noncomputable def laws_toMeasure_Ls : List Lp := []
theorem laws_toMeasure_e : ∀ x, laws_toMeasure_C.F x = runBodyW E0 laws_toMeasure_T laws_toMeasure_Ls laws_toMeasure_H 8 Tryd.f8.results.toList (bodyOf Tryd.f8) [] (laws_toMeasure_arg.mk' x) laws_toMeasure_res := fun x => by kernel_rfl
theorem laws_toMeasure_ok : laws_toMeasure_C.Ok E0 := fn_ok (T := laws_toMeasure_T) (h := laws_toMeasure_H) (Ls := laws_toMeasure_Ls) E0_mixed T_nil Tryd.func8 (bodyOf_some (by kernel_rfl)) (by kernel_rfl) (loops_of (ks := []) (by kernel_rfl) trivial) laws_toMeasure_e
def spec_l6Words_arg : Sh := ⟨[(0, .c (.str))], [], []⟩
def spec_l6Words_res : List Sh := [⟨[(0, .c (.own 0))], [], [(0, .str)]⟩]
noncomputable def spec_l6Words_s0 (x : (ByteArray × Unit × Int × Int × Unit) × Unit × (List ByteArray × Unit)) : Option (((ByteArray × Unit × Int × Int × Unit) × Unit × (List ByteArray × Unit)) ⊕ ((Unit × Unit) × Unit × (List ByteArray × Unit))) :=
 let x1 : Bool := decide (x.1.2.2.2.1 ≤ (x.1.1.size : Int));
 br x1
 (let x2 : Bool := decide (x.1.2.2.2.1 < (x.1.1.size : Int));
 br x2
 (ck (0 ≤ x.1.2.2.2.1 ∧ x.1.2.2.2.1.toNat < x.1.1.size)
 (let x3 : Int := byteAt x.1.1 x.1.2.2.2.1.toNat;
 let x4 : Bool := x3 != (32 : Int);
 br x4
 (let x5 : Int := w64 (x.1.2.2.2.1 + (1 : Int));
 some (.inl ((x.1.1, (), x.1.2.2.1, x5, ()), (), (x.2.2.1, ()))))
 (let x6 : Bool := decide (x.1.2.2.2.1 > x.1.2.2.1);
 br x6
 (ck (0 ≤ x.1.2.2.1)
 (ck (0 ≤ x.1.2.2.2.1)
 (ck (x.1.2.2.1.toNat ≤ x.1.2.2.2.1.toNat ∧ x.1.2.2.2.1.toNat ≤ x.1.1.size)
 (let x7 : ByteArray := x.1.1.extract x.1.2.2.1.toNat x.1.2.2.2.1.toNat;
 ck ((x.2.2.1.length + [x7].length) * 16 ≤ 140737488355328 ∧ (x.2.2.1.length + [x7].length) ≤ 9223372036854775807)
 (let x8 : List ByteArray := x.2.2.1 ++ [x7];
 let x9 : Int := w64 (x.1.2.2.2.1 + (1 : Int));
 some (.inl ((x.1.1, (), x9, x9, ()), (), (x8, ()))))))))
 (let x10 : Int := w64 (x.1.2.2.2.1 + (1 : Int));
 some (.inl ((x.1.1, (), x10, x10, ()), (), (x.2.2.1, ())))))))
 (let x11 : Bool := decide (x.1.2.2.2.1 > x.1.2.2.1);
 br x11
 (ck (0 ≤ x.1.2.2.1)
 (ck (0 ≤ x.1.2.2.2.1)
 (ck (x.1.2.2.1.toNat ≤ x.1.2.2.2.1.toNat ∧ x.1.2.2.2.1.toNat ≤ x.1.1.size)
 (let x12 : ByteArray := x.1.1.extract x.1.2.2.1.toNat x.1.2.2.2.1.toNat;
 ck ((x.2.2.1.length + [x12].length) * 16 ≤ 140737488355328 ∧ (x.2.2.1.length + [x12].length) ≤ 9223372036854775807)
 (let x13 : List ByteArray := x.2.2.1 ++ [x12];
 let x14 : Int := w64 (x.1.2.2.2.1 + (1 : Int));
 some (.inl ((x.1.1, (), x14, x14, ()), (), (x13, ()))))))))
 (let x15 : Int := w64 (x.1.2.2.2.1 + (1 : Int));
 some (.inl ((x.1.1, (), x15, x15, ()), (), (x.2.2.1, ()))))))
 (some (.inr (((), ()), (), (x.2.2.1, ()))))
def spec_l6Words_h0 : Sh := ⟨[(0, .c (.str)), (3, .c (.own 0)), (4, .c (.int .i64)), (5, .c (.int .i64))], [], [(0, .str)]⟩
def spec_l6Words_r0 : List Sh := [⟨[(3, .c (.own 0))], [], [(0, .str)]⟩]
noncomputable def spec_l6Words_L0 : Lp := ⟨0, [], spec_l6Words_h0, [], [(.exit 0, [])], spec_l6Words_r0, loopC spec_l6Words_s0⟩
noncomputable def spec_l6Words (a0 : ByteArray) : Option ((Unit × Unit) × Unit × (List ByteArray × Unit)) :=
 (loopC spec_l6Words_s0 ((a0, (), (0 : Int), (0 : Int), ()), (), ([], ()))).bind fun r16 =>
 some (((), ()), (), (r16.2.2.1, ()))
noncomputable def spec_l6Words_C : Ctr := ⟨22, spec_l6Words_arg, spec_l6Words_res, fun x => spec_l6Words x.1.1, none⟩
def spec_l6Words_H : Hint := ⟨[], [], [], fun _ => []⟩
noncomputable def spec_l6Words_T : List Ctr := []
noncomputable def spec_l6Words_Ls : List Lp := [spec_l6Words_L0]
theorem spec_l6Words_l0 : ∀ x, spec_l6Words_s0 x = stepW E0 spec_l6Words_T spec_l6Words_Ls spec_l6Words_H (loopAt (bodyOf Tryd.f22) 0) 0 spec_l6Words_h0 [] [(.exit 0, [])] spec_l6Words_r0 x := fun x => by kernel_rfl
theorem spec_l6Words_e : ∀ x, spec_l6Words_C.F x = runBodyW E0 spec_l6Words_T spec_l6Words_Ls spec_l6Words_H 22 Tryd.f22.results.toList (bodyOf Tryd.f22) [] (spec_l6Words_arg.mk' x) spec_l6Words_res := fun x => by kernel_rfl
theorem spec_l6Words_ok : spec_l6Words_C.Ok E0 := fn_ok (T := spec_l6Words_T) (h := spec_l6Words_H) (Ls := spec_l6Words_Ls) E0_mixed T_nil Tryd.func22 (bodyOf_some (by kernel_rfl)) (by kernel_rfl) (loops_of (ks := [0]) (by kernel_rfl) ⟨(loop_one (h := spec_l6Words_H) (own := []) (head := spec_l6Words_h0) (back := []) (exs := [(.exit 0, [])]) (res := spec_l6Words_r0) (step := spec_l6Words_s0) (by kernel_rfl) spec_l6Words_l0), trivial⟩) spec_l6Words_e
def spec_l1In_arg : Sh := ⟨[(0, .c (.int .i64)), (1, .c (.int .i64)), (2, .c (.int .i64))], [], []⟩
def spec_l1In_res : List Sh := [⟨[(0, .c (.bool))], [], []⟩]
noncomputable def spec_l1In (a0 : Int) (a1 : Int) (a2 : Int) : Option ((Bool × Unit) × Unit × Unit) :=
 let x1 : Bool := decide (a0 ≥ a1);
 br x1
 (let x2 : Bool := decide (a0 ≤ a2);
 some ((x2, ()), (), ()))
 (some ((false, ()), (), ()))
noncomputable def spec_l1In_C : Ctr := ⟨39, spec_l1In_arg, spec_l1In_res, fun x => spec_l1In x.1.1 x.1.2.1 x.1.2.2.1, none⟩
def spec_l1In_H : Hint := ⟨[], [], [], fun _ => []⟩
noncomputable def spec_l1In_T : List Ctr := []
noncomputable def spec_l1In_Ls : List Lp := []
theorem spec_l1In_e : ∀ x, spec_l1In_C.F x = runBodyW E0 spec_l1In_T spec_l1In_Ls spec_l1In_H 39 Tryd.f39.results.toList (bodyOf Tryd.f39) [] (spec_l1In_arg.mk' x) spec_l1In_res := fun x => by kernel_rfl
theorem spec_l1In_ok : spec_l1In_C.Ok E0 := fn_ok (T := spec_l1In_T) (h := spec_l1In_H) (Ls := spec_l1In_Ls) E0_mixed T_nil Tryd.func39 (bodyOf_some (by kernel_rfl)) (by kernel_rfl) (loops_of (ks := []) (by kernel_rfl) trivial) spec_l1In_e
def spec_l1Part_arg : Sh := ⟨[(0, .c (.int .i64)), (1, .c (.int .i64))], [], []⟩
def spec_l1Part_res : List Sh := [⟨[(0, .c (.bool))], [], []⟩]
noncomputable def spec_l1Part (a0 : Int) (a1 : Int) : Option ((Bool × Unit) × Unit × Unit) :=
 let x1 : Int := bAndNot .i64 a0 a1;
 let x2 : Bool := x1 == (0 : Int);
 some ((x2, ()), (), ())
noncomputable def spec_l1Part_C : Ctr := ⟨85, spec_l1Part_arg, spec_l1Part_res, fun x => spec_l1Part x.1.1 x.1.2.1, none⟩
def spec_l1Part_H : Hint := ⟨[], [], [], fun _ => []⟩
noncomputable def spec_l1Part_T : List Ctr := []
noncomputable def spec_l1Part_Ls : List Lp := []
theorem spec_l1Part_e : ∀ x, spec_l1Part_C.F x = runBodyW E0 spec_l1Part_T spec_l1Part_Ls spec_l1Part_H 85 Tryd.f85.results.toList (bodyOf Tryd.f85) [] (spec_l1Part_arg.mk' x) spec_l1Part_res := fun x => by kernel_rfl
theorem spec_l1Part_ok : spec_l1Part_C.Ok E0 := fn_ok (T := spec_l1Part_T) (h := spec_l1Part_H) (Ls := spec_l1Part_Ls) E0_mixed T_nil Tryd.func85 (bodyOf_some (by kernel_rfl)) (by kernel_rfl) (loops_of (ks := []) (by kernel_rfl) trivial) spec_l1Part_e
def spec_l1Fall_arg : Sh := ⟨[(0, .c (.rd [] .i64)), (1, .c (.int .i64))], [], []⟩
def spec_l1Fall_res : List Sh := [⟨[(0, .c (.int .i64))], [], []⟩]
noncomputable def spec_l1Fall_s0 (x : (List Int × Int × List Int × Int × Int × Unit) × Unit × Unit) : Option (((List Int × Int × List Int × Int × Int × Unit) × Unit × Unit) ⊕ (((Int × Unit) × Unit × Unit) ⊕ ((List Int × Unit) × Unit × Unit))) :=
 let x1 : Bool := decide (x.1.2.2.2.2.1 < x.1.2.2.2.1);
 br x1
 (ck (0 ≤ x.1.2.2.2.2.1)
 (ck (x.1.2.2.2.2.1.toNat < x.1.2.2.1.length)
 (let x2 : Int := x.1.2.2.1.getD x.1.2.2.2.2.1.toNat 0;
 (spec_l1Part x.1.2.1 x2).bind fun r3 =>
 br r3.1.1
 (some (.inr (.inl ((x.1.2.2.2.2.1, ()), (), ()))))
 (let x4 : Int := w64 (x.1.2.2.2.2.1 + (1 : Int));
 some (.inl ((x.1.1, x.1.2.1, x.1.2.2.1, x.1.2.2.2.1, x4, ()), (), ()))))))
 (some (.inr (.inr ((x.1.1, ()), (), ()))))
def spec_l1Fall_h0 : Sh := ⟨[(0, .c (.rd [] .i64)), (1, .c (.int .i64)), (7, .c (.rd [] .i64)), (8, .c (.int .i64)), (9, .c (.int .i64))], [], []⟩
def spec_l1Fall_r0 : List Sh := [⟨[(4, .c (.int .i64))], [], []⟩, ⟨[(0, .c (.rd [] .i64))], [], []⟩]
noncomputable def spec_l1Fall_L0 : Lp := ⟨0, [], spec_l1Fall_h0, [], [(.ret, []), (.exit 0, [])], spec_l1Fall_r0, loopC spec_l1Fall_s0⟩
noncomputable def spec_l1Fall (a0 : List Int) (a1 : Int) : Option ((Int × Unit) × Unit × Unit) :=
 (loopC spec_l1Fall_s0 ((a0, a1, a0, (a0.length : Int), (0 : Int), ()), (), ())).bind fun r5 =>
 sumK r5 (fun y8 =>
 some ((y8.1.1, ()), (), ())) (fun y9 =>
 some (((y9.1.1.length : Int), ()), (), ()))
noncomputable def spec_l1Fall_C : Ctr := ⟨72, spec_l1Fall_arg, spec_l1Fall_res, fun x => spec_l1Fall x.1.1 x.1.2.1, none⟩
def spec_l1Fall_H : Hint := ⟨[], [], [], fun _ => []⟩
noncomputable def spec_l1Fall_T : List Ctr := [spec_l1Part_C]
noncomputable def spec_l1Fall_Ls : List Lp := [spec_l1Fall_L0]
theorem spec_l1Fall_l0 : ∀ x, spec_l1Fall_s0 x = stepW E0 spec_l1Fall_T spec_l1Fall_Ls spec_l1Fall_H (loopAt (bodyOf Tryd.f72) 0) 0 spec_l1Fall_h0 [] [(.ret, []), (.exit 0, [])] spec_l1Fall_r0 x := fun x => by kernel_rfl
theorem spec_l1Fall_e : ∀ x, spec_l1Fall_C.F x = runBodyW E0 spec_l1Fall_T spec_l1Fall_Ls spec_l1Fall_H 72 Tryd.f72.results.toList (bodyOf Tryd.f72) [] (spec_l1Fall_arg.mk' x) spec_l1Fall_res := fun x => by kernel_rfl
theorem spec_l1Fall_ok : spec_l1Fall_C.Ok E0 := fn_ok (T := spec_l1Fall_T) (h := spec_l1Fall_H) (Ls := spec_l1Fall_Ls) E0_mixed (T_cons spec_l1Part_ok T_nil) Tryd.func72 (bodyOf_some (by kernel_rfl)) (by kernel_rfl) (loops_of (ks := [0]) (by kernel_rfl) ⟨(loop_one (h := spec_l1Fall_H) (own := []) (head := spec_l1Fall_h0) (back := []) (exs := [(.ret, []), (.exit 0, [])]) (res := spec_l1Fall_r0) (step := spec_l1Fall_s0) (by kernel_rfl) spec_l1Fall_l0), trivial⟩) spec_l1Fall_e
def spec_l1Set_arg : Sh := ⟨[(0, .c (.int .i64))], [], []⟩
def spec_l1Set_res : List Sh := [⟨[(0, .c (.bool))], [], []⟩]
noncomputable def spec_l1Set (a0 : Int) : Option ((Bool × Unit) × Unit × Unit) :=
 (spec_l1In a0 (0 : Int) (127 : Int)).bind fun r1 =>
 some ((r1.1.1, ()), (), ())
noncomputable def spec_l1Set_C : Ctr := ⟨86, spec_l1Set_arg, spec_l1Set_res, fun x => spec_l1Set x.1.1, none⟩
def spec_l1Set_H : Hint := ⟨[], [], [], fun _ => []⟩
noncomputable def spec_l1Set_T : List Ctr := [spec_l1In_C]
noncomputable def spec_l1Set_Ls : List Lp := []
theorem spec_l1Set_e : ∀ x, spec_l1Set_C.F x = runBodyW E0 spec_l1Set_T spec_l1Set_Ls spec_l1Set_H 86 Tryd.f86.results.toList (bodyOf Tryd.f86) [] (spec_l1Set_arg.mk' x) spec_l1Set_res := fun x => by kernel_rfl
theorem spec_l1Set_ok : spec_l1Set_C.Ok E0 := fn_ok (T := spec_l1Set_T) (h := spec_l1Set_H) (Ls := spec_l1Set_Ls) E0_mixed (T_cons spec_l1In_ok T_nil) Tryd.func86 (bodyOf_some (by kernel_rfl)) (by kernel_rfl) (loops_of (ks := []) (by kernel_rfl) trivial) spec_l1Set_e
def spec_IsBar_arg : Sh := ⟨[(0, .c (.rd [] .i64))], [], []⟩
def spec_IsBar_res : List Sh := [⟨[(0, .c (.bool))], [], []⟩]
noncomputable def spec_IsBar_s0 (x : (List Int × List Int × Int × Int × Unit) × Unit × Unit) : Option (((List Int × List Int × Int × Int × Unit) × Unit × Unit) ⊕ (((Bool × Unit) × Unit × Unit) ⊕ ((List Int × Unit) × Unit × Unit))) :=
 let x1 : Bool := decide (x.1.2.2.2.1 < x.1.2.2.1);
 br x1
 (ck (0 ≤ x.1.2.2.2.1)
 (ck (x.1.2.2.2.1.toNat < x.1.2.1.length)
 (let x2 : Int := x.1.2.1.getD x.1.2.2.2.1.toNat 0;
 (spec_l1Set x2).bind fun r3 =>
 br (!r3.1.1)
 (some (.inr (.inl ((false, ()), (), ()))))
 (let x4 : Int := w64 (x.1.2.2.2.1 + (1 : Int));
 some (.inl ((x.1.1, x.1.2.1, x.1.2.2.1, x4, ()), (), ()))))))
 (some (.inr (.inr ((x.1.1, ()), (), ()))))
def spec_IsBar_h0 : Sh := ⟨[(0, .c (.rd [] .i64)), (5, .c (.rd [] .i64)), (6, .c (.int .i64)), (7, .c (.int .i64))], [], []⟩
def spec_IsBar_r0 : List Sh := [⟨[(2, .c (.bool))], [], []⟩, ⟨[(0, .c (.rd [] .i64))], [], []⟩]
noncomputable def spec_IsBar_L0 : Lp := ⟨0, [], spec_IsBar_h0, [], [(.ret, []), (.exit 0, [])], spec_IsBar_r0, loopC spec_IsBar_s0⟩
noncomputable def spec_IsBar (a0 : List Int) : Option ((Bool × Unit) × Unit × Unit) :=
 (loopC spec_IsBar_s0 ((a0, a0, (a0.length : Int), (0 : Int), ()), (), ())).bind fun r5 =>
 sumK r5 (fun y8 =>
 some ((y8.1.1, ()), (), ())) (fun y9 =>
 (spec_l1In (y9.1.1.length : Int) (1 : Int) (40 : Int)).bind fun r10 =>
 some ((r10.1.1, ()), (), ()))
noncomputable def spec_IsBar_C : Ctr := ⟨73, spec_IsBar_arg, spec_IsBar_res, fun x => spec_IsBar x.1.1, none⟩
def spec_IsBar_H : Hint := ⟨[], [], [], fun _ => []⟩
noncomputable def spec_IsBar_T : List Ctr := [spec_l1Set_C, spec_l1In_C]
noncomputable def spec_IsBar_Ls : List Lp := [spec_IsBar_L0]
theorem spec_IsBar_l0 : ∀ x, spec_IsBar_s0 x = stepW E0 spec_IsBar_T spec_IsBar_Ls spec_IsBar_H (loopAt (bodyOf Tryd.f73) 0) 0 spec_IsBar_h0 [] [(.ret, []), (.exit 0, [])] spec_IsBar_r0 x := fun x => by kernel_rfl
theorem spec_IsBar_e : ∀ x, spec_IsBar_C.F x = runBodyW E0 spec_IsBar_T spec_IsBar_Ls spec_IsBar_H 73 Tryd.f73.results.toList (bodyOf Tryd.f73) [] (spec_IsBar_arg.mk' x) spec_IsBar_res := fun x => by kernel_rfl
theorem spec_IsBar_ok : spec_IsBar_C.Ok E0 := fn_ok (T := spec_IsBar_T) (h := spec_IsBar_H) (Ls := spec_IsBar_Ls) E0_mixed (T_cons spec_l1Set_ok (T_cons spec_l1In_ok T_nil)) Tryd.func73 (bodyOf_some (by kernel_rfl)) (by kernel_rfl) (loops_of (ks := [0]) (by kernel_rfl) ⟨(loop_one (h := spec_IsBar_H) (own := []) (head := spec_IsBar_h0) (back := []) (exs := [(.ret, []), (.exit 0, [])]) (res := spec_IsBar_r0) (step := spec_IsBar_s0) (by kernel_rfl) spec_IsBar_l0), trivial⟩) spec_IsBar_e
def spec_SortsAll_arg : Sh := ⟨[(0, .c (.rd [] .i64))], [], []⟩
def spec_SortsAll_res : List Sh := [⟨[(0, .c (.bool))], [], []⟩]
noncomputable def spec_SortsAll_s0 (x : (List Int × List Int × Int × Int × Unit) × Unit × Unit) : Option (((List Int × List Int × Int × Int × Unit) × Unit × Unit) ⊕ (((Bool × Unit) × Unit × Unit) ⊕ ((List Int × Unit) × Unit × Unit))) :=
 let x1 : Bool := decide (x.1.2.2.2.1 < x.1.2.2.1);
 br x1
 (ck (0 ≤ x.1.2.2.2.1)
 (ck (x.1.2.2.2.1.toNat < x.1.2.1.length)
 (let x2 : Int := x.1.2.1.getD x.1.2.2.2.1.toNat 0;
 (spec_l1Fall x.1.1 x2).bind fun r3 =>
 let x4 : Bool := r3.1.1 != x.1.2.2.2.1;
 br x4
 (some (.inr (.inl ((false, ()), (), ()))))
 (let x5 : Int := w64 (x.1.2.2.2.1 + (1 : Int));
 some (.inl ((x.1.1, x.1.2.1, x.1.2.2.1, x5, ()), (), ()))))))
 (some (.inr (.inr ((x.1.1, ()), (), ()))))
def spec_SortsAll_h0 : Sh := ⟨[(0, .c (.rd [] .i64)), (5, .c (.rd [] .i64)), (6, .c (.int .i64)), (7, .c (.int .i64))], [], []⟩
def spec_SortsAll_r0 : List Sh := [⟨[(2, .c (.bool))], [], []⟩, ⟨[(0, .c (.rd [] .i64))], [], []⟩]
noncomputable def spec_SortsAll_L0 : Lp := ⟨0, [], spec_SortsAll_h0, [], [(.ret, []), (.exit 0, [])], spec_SortsAll_r0, loopC spec_SortsAll_s0⟩
noncomputable def spec_SortsAll (a0 : List Int) : Option ((Bool × Unit) × Unit × Unit) :=
 (loopC spec_SortsAll_s0 ((a0, a0, (a0.length : Int), (0 : Int), ()), (), ())).bind fun r6 =>
 sumK r6 (fun y9 =>
 some ((y9.1.1, ()), (), ())) (fun y10 =>
 (spec_IsBar y10.1.1).bind fun r11 =>
 some ((r11.1.1, ()), (), ()))
noncomputable def spec_SortsAll_C : Ctr := ⟨56, spec_SortsAll_arg, spec_SortsAll_res, fun x => spec_SortsAll x.1.1, none⟩
def spec_SortsAll_H : Hint := ⟨[], [], [], fun _ => []⟩
noncomputable def spec_SortsAll_T : List Ctr := [spec_l1Fall_C, spec_IsBar_C]
noncomputable def spec_SortsAll_Ls : List Lp := [spec_SortsAll_L0]
theorem spec_SortsAll_l0 : ∀ x, spec_SortsAll_s0 x = stepW E0 spec_SortsAll_T spec_SortsAll_Ls spec_SortsAll_H (loopAt (bodyOf Tryd.f56) 0) 0 spec_SortsAll_h0 [] [(.ret, []), (.exit 0, [])] spec_SortsAll_r0 x := fun x => by kernel_rfl
theorem spec_SortsAll_e : ∀ x, spec_SortsAll_C.F x = runBodyW E0 spec_SortsAll_T spec_SortsAll_Ls spec_SortsAll_H 56 Tryd.f56.results.toList (bodyOf Tryd.f56) [] (spec_SortsAll_arg.mk' x) spec_SortsAll_res := fun x => by kernel_rfl
theorem spec_SortsAll_ok : spec_SortsAll_C.Ok E0 := fn_ok (T := spec_SortsAll_T) (h := spec_SortsAll_H) (Ls := spec_SortsAll_Ls) E0_mixed (T_cons spec_l1Fall_ok (T_cons spec_IsBar_ok T_nil)) Tryd.func56 (bodyOf_some (by kernel_rfl)) (by kernel_rfl) (loops_of (ks := [0]) (by kernel_rfl) ⟨(loop_one (h := spec_SortsAll_H) (own := []) (head := spec_SortsAll_h0) (back := []) (exs := [(.ret, []), (.exit 0, [])]) (res := spec_SortsAll_r0) (step := spec_SortsAll_s0) (by kernel_rfl) spec_SortsAll_l0), trivial⟩) spec_SortsAll_e
def spec_FontOk_arg : Sh := ⟨[(0, .agg [.str, .rd [] .i64, .rd [] .i64])], [], []⟩
def spec_FontOk_res : List Sh := [⟨[(0, .c (.bool))], [], []⟩]
noncomputable def spec_FontOk_s2 (x : (Unit × Int × Int × Int × Unit × ByteArray × Int × Int × Bool × Unit × List Int × Int × (Int × Unit) × Int × Bool × Bool × Unit) × ((ByteArray × List Int × List Int × Unit) × Unit) × Unit) : Option (((Unit × Int × Int × Int × Unit × ByteArray × Int × Int × Bool × Unit × List Int × Int × (Int × Unit) × Int × Bool × Bool × Unit) × ((ByteArray × List Int × List Int × Unit) × Unit) × Unit) ⊕ (((Bool × Unit) × Unit × Unit) ⊕ ((Unit × Int × Int × Unit × ByteArray × Int × Int × Bool × Unit × List Int × Int × (Int × Unit) × Int × Bool × Bool × Unit) × ((ByteArray × List Int × List Int × Unit) × Unit) × Unit))) :=
 let x11 : Bool := decide (x.1.2.2.2.1 < x.1.2.2.1);
 br x11
 (ck (0 ≤ x.1.2.2.1 ∧ x.1.2.2.1.toNat < x.2.1.1.1.size)
 (let x12 : Int := byteAt x.2.1.1.1 x.1.2.2.1.toNat;
 ck (0 ≤ x.1.2.2.2.1 ∧ x.1.2.2.2.1.toNat < x.2.1.1.1.size)
 (let x13 : Int := byteAt x.2.1.1.1 x.1.2.2.2.1.toNat;
 let x14 : Bool := x12 == x13;
 br x14
 (some (.inr (.inl ((false, ()), (), ()))))
 (let x15 : Int := w64 (x.1.2.2.2.1 + (1 : Int));
 some (.inl (((), x.1.2.1, x.1.2.2.1, x15, (), x.1.2.2.2.2.2.1, x.1.2.2.2.2.2.2.1, x.1.2.2.2.2.2.2.2.1, x.1.2.2.2.2.2.2.2.2.1, (), x.1.2.2.2.2.2.2.2.2.2.2.1, x.1.2.2.2.2.2.2.2.2.2.2.2.1, (x.1.2.2.2.2.2.2.2.2.2.2.2.2.1.1, ()), x.1.2.2.2.2.2.2.2.2.2.2.2.2.2.1, x.1.2.2.2.2.2.2.2.2.2.2.2.2.2.2.1, x.1.2.2.2.2.2.2.2.2.2.2.2.2.2.2.2.1, ()), ((x.2.1.1.1, x.2.1.1.2.1, x.2.1.1.2.2.1, ()), ()), ()))))))
 (some (.inr (.inr (((), x.1.2.1, x.1.2.2.1, (), x.1.2.2.2.2.2.1, x.1.2.2.2.2.2.2.1, x.1.2.2.2.2.2.2.2.1, x.1.2.2.2.2.2.2.2.2.1, (), x.1.2.2.2.2.2.2.2.2.2.2.1, x.1.2.2.2.2.2.2.2.2.2.2.2.1, (x.1.2.2.2.2.2.2.2.2.2.2.2.2.1.1, ()), x.1.2.2.2.2.2.2.2.2.2.2.2.2.2.1, x.1.2.2.2.2.2.2.2.2.2.2.2.2.2.2.1, x.1.2.2.2.2.2.2.2.2.2.2.2.2.2.2.2.1, ()), ((x.2.1.1.1, x.2.1.1.2.1, x.2.1.1.2.2.1, ()), ()), ()))))
def spec_FontOk_h2 : Sh := ⟨[(1, .c (.box 0 0)), (3, .c (.int .i64)), (4, .c (.int .i64)), (5, .c (.int .i64)), (43, .c (.box 0 0)), (44, .c (.str)), (45, .c (.int .i64)), (46, .c (.int .u8)), (47, .c (.bool)), (50, .c (.box 0 1)), (51, .c (.rd [] .i64)), (52, .c (.int .i64)), (53, .c (.rad [] [.int .i64])), (54, .c (.int .i64)), (55, .c (.bool)), (56, .c (.bool))], [(0, .cells [.str, .rd [] .i64, .rd [] .i64])], []⟩
def spec_FontOk_r2 : List Sh := [⟨[(2, .c (.bool))], [], []⟩, ⟨[(1, .c (.box 0 0)), (3, .c (.int .i64)), (4, .c (.int .i64)), (43, .c (.box 0 0)), (44, .c (.str)), (45, .c (.int .i64)), (46, .c (.int .u8)), (47, .c (.bool)), (50, .c (.box 0 1)), (51, .c (.rd [] .i64)), (52, .c (.int .i64)), (53, .c (.rad [] [.int .i64])), (54, .c (.int .i64)), (55, .c (.bool)), (56, .c (.bool))], [(0, .cells [.str, .rd [] .i64, .rd [] .i64])], []⟩]
noncomputable def spec_FontOk_L2 : Lp := ⟨2, [], spec_FontOk_h2, [], [(.ret, []), (.exit 2, [])], spec_FontOk_r2, loopC spec_FontOk_s2⟩
noncomputable def spec_FontOk_s0 (x : (Unit × Int × Int × Unit) × ((ByteArray × List Int × List Int × Unit) × Unit) × Unit) : Option (((Unit × Int × Int × Unit) × ((ByteArray × List Int × List Int × Unit) × Unit) × Unit) ⊕ (((Bool × Unit) × Unit × Unit) ⊕ (Unit × Unit × Unit))) :=
 let x5 : Bool := decide (x.1.2.2.1 < x.1.2.1);
 br x5
 (ck (0 ≤ x.1.2.2.1 ∧ x.1.2.2.1.toNat < x.2.1.1.1.size)
 (let x6 : Int := byteAt x.2.1.1.1 x.1.2.2.1.toNat;
 let x7 : Bool := decide (x6 < (33 : Int));
 br x7
 (some (.inr (.inl ((false, ()), (), ()))))
 (ck (0 ≤ x.1.2.2.1 ∧ x.1.2.2.1.toNat < x.2.1.1.1.size)
 (let x8 : Bool := decide (x6 > (126 : Int));
 br x8
 (some (.inr (.inl ((false, ()), (), ()))))
 (ck (0 ≤ x.1.2.2.1)
 (ck (x.1.2.2.1.toNat < x.2.1.1.2.1.length)
 (let x9 : Int := x.2.1.1.2.1.getD x.1.2.2.1.toNat 0;
 (spec_l1In x9 (1 : Int) (60 : Int)).bind fun r10 =>
 br (!r10.1.1)
 (some (.inr (.inl ((false, ()), (), ()))))
 ((loopC spec_FontOk_s2 (((), x.1.2.1, x.1.2.2.1, (0 : Int), (), x.2.1.1.1, x.1.2.2.1, x6, x8, (), x.2.1.1.2.1, x.1.2.2.1, (x9, ()), x9, r10.1.1, !r10.1.1, ()), ((x.2.1.1.1, x.2.1.1.2.1, x.2.1.1.2.2.1, ()), ()), ())).bind fun r16 =>
 sumK r16 (fun y19 =>
 some (.inr (.inl ((y19.1.1, ()), (), ())))) (fun y20 =>
 let x21 : Int := w64 (y20.1.2.2.1 + (1 : Int));
 some (.inl (((), y20.1.2.1, x21, ()), ((y20.2.1.1.1, y20.2.1.1.2.1, y20.2.1.1.2.2.1, ()), ()), ())))))))))))
 (some (.inr (.inr ((), (), ()))))
def spec_FontOk_h0 : Sh := ⟨[(1, .c (.box 0 0)), (3, .c (.int .i64)), (4, .c (.int .i64))], [(0, .cells [.str, .rd [] .i64, .rd [] .i64])], []⟩
def spec_FontOk_r0 : List Sh := [⟨[(2, .c (.bool))], [], []⟩, ⟨[], [], []⟩]
noncomputable def spec_FontOk_L0 : Lp := ⟨0, [], spec_FontOk_h0, [], [(.ret, []), (.exit 0, [])], spec_FontOk_r0, loopC spec_FontOk_s0⟩
noncomputable def spec_FontOk (a0_0 : ByteArray) (a0_1 : List Int) (a0_2 : List Int) : Option ((Bool × Unit) × Unit × Unit) :=
 (spec_l1In (a0_0.size : Int) (1 : Int) (40 : Int)).bind fun r1 =>
 br (!r1.1.1)
 (some ((false, ()), (), ()))
 (let x2 : Bool := (a0_1.length : Int) != (a0_0.size : Int);
 br x2
 (some ((false, ()), (), ()))
 (let x3 : Bool := (a0_2.length : Int) != (a0_0.size : Int);
 br x3
 (some ((false, ()), (), ()))
 ((spec_SortsAll a0_2).bind fun r4 =>
 br (!r4.1.1)
 (some ((false, ()), (), ()))
 ((loopC spec_FontOk_s0 (((), (a0_0.size : Int), (0 : Int), ()), ((a0_0, a0_1, a0_2, ()), ()), ())).bind fun r22 =>
 sumK r22 (fun y25 =>
 some ((y25.1.1, ()), (), ())) (fun y26 =>
 some ((true, ()), (), ()))))))
noncomputable def spec_FontOk_C : Ctr := ⟨38, spec_FontOk_arg, spec_FontOk_res, fun x => spec_FontOk x.1.1.1 x.1.1.2.1 x.1.1.2.2.1, none⟩
def spec_FontOk_H : Hint := ⟨[], [], [], fun _ => []⟩
noncomputable def spec_FontOk_T : List Ctr := [spec_l1In_C, spec_SortsAll_C]
noncomputable def spec_FontOk_Ls : List Lp := [spec_FontOk_L2, spec_FontOk_L0]
theorem spec_FontOk_l0 : ∀ x, spec_FontOk_s0 x = stepW E0 spec_FontOk_T spec_FontOk_Ls spec_FontOk_H (loopAt (bodyOf Tryd.f38) 0) 0 spec_FontOk_h0 [] [(.ret, []), (.exit 0, [])] spec_FontOk_r0 x := fun x => by kernel_rfl
theorem spec_FontOk_l2 : ∀ x, spec_FontOk_s2 x = stepW E0 spec_FontOk_T spec_FontOk_Ls spec_FontOk_H (loopAt (bodyOf Tryd.f38) 1) 2 spec_FontOk_h2 [] [(.ret, []), (.exit 2, [])] spec_FontOk_r2 x := fun x => by kernel_rfl
theorem spec_FontOk_e : ∀ x, spec_FontOk_C.F x = runBodyW E0 spec_FontOk_T spec_FontOk_Ls spec_FontOk_H 38 Tryd.f38.results.toList (bodyOf Tryd.f38) [] (spec_FontOk_arg.mk' x) spec_FontOk_res := fun x => by kernel_rfl
theorem spec_FontOk_ok : spec_FontOk_C.Ok E0 := fn_ok (T := spec_FontOk_T) (h := spec_FontOk_H) (Ls := spec_FontOk_Ls) E0_mixed (T_cons spec_l1In_ok (T_cons spec_SortsAll_ok T_nil)) Tryd.func38 (bodyOf_some (by kernel_rfl)) (by kernel_rfl) (loops_of (ks := [0, 2]) (by kernel_rfl) ⟨(loop_one (h := spec_FontOk_H) (own := []) (head := spec_FontOk_h0) (back := []) (exs := [(.ret, []), (.exit 0, [])]) (res := spec_FontOk_r0) (step := spec_FontOk_s0) (by kernel_rfl) spec_FontOk_l0), (loop_one (h := spec_FontOk_H) (own := []) (head := spec_FontOk_h2) (back := []) (exs := [(.ret, []), (.exit 2, [])]) (res := spec_FontOk_r2) (step := spec_FontOk_s2) (by kernel_rfl) spec_FontOk_l2), trivial⟩) spec_FontOk_e
def spec_KeyOf_arg : Sh := ⟨[(0, .agg [.str, .rd [] .i64, .rd [] .i64]), (1, .c (.int .i64))], [], []⟩
def spec_KeyOf_res : List Sh := [⟨[(0, .c (.int .i64))], [], []⟩]
noncomputable def spec_KeyOf_s0 (x : (Int × Unit × Int × Unit) × ((ByteArray × List Int × List Int × Unit) × Unit) × Unit) : Option (((Int × Unit × Int × Unit) × ((ByteArray × List Int × List Int × Unit) × Unit) × Unit) ⊕ (((Int × Unit) × Unit × Unit) ⊕ (Unit × Unit × Unit))) :=
 let x2 : Bool := decide (x.1.2.2.1 < (x.2.1.1.1.size : Int));
 br x2
 (ck (0 ≤ x.1.2.2.1 ∧ x.1.2.2.1.toNat < x.2.1.1.1.size)
 (let x3 : Int := byteAt x.2.1.1.1 x.1.2.2.1.toNat;
 let x4 : Int := w64 x3;
 let x5 : Bool := x4 == x.1.1;
 br x5
 (some (.inr (.inl ((x.1.2.2.1, ()), (), ()))))
 (let x6 : Int := w64 (x.1.2.2.1 + (1 : Int));
 some (.inl ((x.1.1, (), x6, ()), ((x.2.1.1.1, x.2.1.1.2.1, x.2.1.1.2.2.1, ()), ()), ())))))
 (some (.inr (.inr ((), (), ()))))
def spec_KeyOf_h0 : Sh := ⟨[(1, .c (.int .i64)), (2, .c (.box 0 0)), (5, .c (.int .i64))], [(0, .cells [.str, .rd [] .i64, .rd [] .i64])], []⟩
def spec_KeyOf_r0 : List Sh := [⟨[(4, .c (.int .i64))], [], []⟩, ⟨[], [], []⟩]
noncomputable def spec_KeyOf_L0 : Lp := ⟨0, [], spec_KeyOf_h0, [], [(.ret, []), (.exit 0, [])], spec_KeyOf_r0, loopC spec_KeyOf_s0⟩
noncomputable def spec_KeyOf (a0_0 : ByteArray) (a0_1 : List Int) (a0_2 : List Int) (a1 : Int) : Option ((Int × Unit) × Unit × Unit) :=
 (spec_FontOk a0_0 a0_1 a0_2).bind fun r1 =>
 br (!r1.1.1)
 (some (((-1 : Int), ()), (), ()))
 ((loopC spec_KeyOf_s0 ((a1, (), (0 : Int), ()), ((a0_0, a0_1, a0_2, ()), ()), ())).bind fun r7 =>
 sumK r7 (fun y10 =>
 some ((y10.1.1, ()), (), ())) (fun y11 =>
 some (((-1 : Int), ()), (), ())))
noncomputable def spec_KeyOf_C : Ctr := ⟨40, spec_KeyOf_arg, spec_KeyOf_res, fun x => spec_KeyOf x.1.1.1 x.1.1.2.1 x.1.1.2.2.1 x.1.2.1, none⟩
def spec_KeyOf_H : Hint := ⟨[], [], [], fun _ => []⟩
noncomputable def spec_KeyOf_T : List Ctr := [spec_FontOk_C]
noncomputable def spec_KeyOf_Ls : List Lp := [spec_KeyOf_L0]
theorem spec_KeyOf_l0 : ∀ x, spec_KeyOf_s0 x = stepW E0 spec_KeyOf_T spec_KeyOf_Ls spec_KeyOf_H (loopAt (bodyOf Tryd.f40) 0) 0 spec_KeyOf_h0 [] [(.ret, []), (.exit 0, [])] spec_KeyOf_r0 x := fun x => by kernel_rfl
theorem spec_KeyOf_e : ∀ x, spec_KeyOf_C.F x = runBodyW E0 spec_KeyOf_T spec_KeyOf_Ls spec_KeyOf_H 40 Tryd.f40.results.toList (bodyOf Tryd.f40) [] (spec_KeyOf_arg.mk' x) spec_KeyOf_res := fun x => by kernel_rfl
theorem spec_KeyOf_ok : spec_KeyOf_C.Ok E0 := fn_ok (T := spec_KeyOf_T) (h := spec_KeyOf_H) (Ls := spec_KeyOf_Ls) E0_mixed (T_cons spec_FontOk_ok T_nil) Tryd.func40 (bodyOf_some (by kernel_rfl)) (by kernel_rfl) (loops_of (ks := [0]) (by kernel_rfl) ⟨(loop_one (h := spec_KeyOf_H) (own := []) (head := spec_KeyOf_h0) (back := []) (exs := [(.ret, []), (.exit 0, [])]) (res := spec_KeyOf_r0) (step := spec_KeyOf_s0) (by kernel_rfl) spec_KeyOf_l0), trivial⟩) spec_KeyOf_e
def spec_WordWidths_arg : Sh := ⟨[(0, .agg [.str, .rd [] .i64, .rd [] .i64]), (1, .c (.str))], [], []⟩
def spec_WordWidths_res : List Sh := [⟨[(0, .c (.own 0)), (1, .c (.bool))], [], [(0, .i64)]⟩]
noncomputable def spec_WordWidths_s2 (x : (Unit × Unit × ByteArray × Int × Int × Unit × Int × Int × Unit) × ((ByteArray × List Int × List Int × Unit) × Unit) × (List Int × List ByteArray × Unit)) : Option (((Unit × Unit × ByteArray × Int × Int × Unit × Int × Int × Unit) × ((ByteArray × List Int × List Int × Unit) × Unit) × (List Int × List ByteArray × Unit)) ⊕ (((Unit × Bool × Unit) × Unit × Unit) ⊕ ((Unit × Unit × Int × Unit × Int × Int × Unit) × ((ByteArray × List Int × List Int × Unit) × Unit) × (List Int × List ByteArray × Unit)))) :=
 let x6 : Bool := decide (x.1.2.2.2.2.1 < (x.1.2.2.1.size : Int));
 br x6
 (ck (0 ≤ x.1.2.2.2.2.1 ∧ x.1.2.2.2.2.1.toNat < x.1.2.2.1.size)
 (let x7 : Int := byteAt x.1.2.2.1 x.1.2.2.2.2.1.toNat;
 let x8 : Int := w64 x7;
 (spec_KeyOf x.2.1.1.1 x.2.1.1.2.1 x.2.1.1.2.2.1 x8).bind fun r9 =>
 let x10 : Bool := decide (r9.1.1 < (0 : Int));
 br x10
 (some (.inr (.inl (((), false, ()), (), ()))))
 (ck (0 ≤ r9.1.1)
 (ck (r9.1.1.toNat < x.2.1.1.2.1.length)
 (let x11 : Int := x.2.1.1.2.1.getD r9.1.1.toNat 0;
 let x12 : Int := w64 (x.1.2.2.2.1 + x11);
 let x13 : Bool := decide (x12 > (2000 : Int));
 br x13
 (some (.inr (.inl (((), false, ()), (), ()))))
 (let x14 : Int := w64 (x.1.2.2.2.2.1 + (1 : Int));
 some (.inl (((), (), x.1.2.2.1, x12, x14, (), x.1.2.2.2.2.2.2.1, x.1.2.2.2.2.2.2.2.1, ()), ((x.2.1.1.1, x.2.1.1.2.1, x.2.1.1.2.2.1, ()), ()), (x.2.2.1, x.2.2.2.1, ())))))))))
 (some (.inr (.inr (((), (), x.1.2.2.2.1, (), x.1.2.2.2.2.2.2.1, x.1.2.2.2.2.2.2.2.1, ()), ((x.2.1.1.1, x.2.1.1.2.1, x.2.1.1.2.2.1, ()), ()), (x.2.2.1, x.2.2.2.1, ())))))
def spec_WordWidths_h2 : Sh := ⟨[(2, .c (.box 0 0)), (7, .c (.own 0)), (9, .c (.str)), (10, .c (.int .i64)), (11, .c (.int .i64)), (25, .c (.own 1)), (26, .c (.int .i64)), (27, .c (.int .i64))], [(0, .cells [.str, .rd [] .i64, .rd [] .i64])], [(0, .i64), (1, .str)]⟩
def spec_WordWidths_r2 : List Sh := [⟨[(4, .c (.nil)), (5, .c (.bool))], [], []⟩, ⟨[(2, .c (.box 0 0)), (7, .c (.own 0)), (10, .c (.int .i64)), (25, .c (.own 1)), (26, .c (.int .i64)), (27, .c (.int .i64))], [(0, .cells [.str, .rd [] .i64, .rd [] .i64])], [(0, .i64), (1, .str)]⟩]
noncomputable def spec_WordWidths_L2 : Lp := ⟨2, [], spec_WordWidths_h2, [], [(.ret, []), (.exit 2, [])], spec_WordWidths_r2, loopC spec_WordWidths_s2⟩
noncomputable def spec_WordWidths_s0 (x : (Unit × Unit × Unit × Int × Int × Unit) × ((ByteArray × List Int × List Int × Unit) × Unit) × (List Int × List ByteArray × Unit)) : Option (((Unit × Unit × Unit × Int × Int × Unit) × ((ByteArray × List Int × List Int × Unit) × Unit) × (List Int × List ByteArray × Unit)) ⊕ (((Unit × Bool × Unit) × Unit × Unit) ⊕ ((Unit × Unit) × Unit × (List Int × Unit)))) :=
 let x4 : Bool := decide (x.1.2.2.2.2.1 < x.1.2.2.2.1);
 br x4
 (ck (0 ≤ x.1.2.2.2.2.1)
 (ck (x.1.2.2.2.2.1.toNat < x.2.2.2.1.length)
 (ck (x.1.2.2.2.2.1.toNat < x.2.2.2.1.length)
 (let x5 : ByteArray := x.2.2.2.1.getD x.1.2.2.2.2.1.toNat ByteArray.empty;
 (loopC spec_WordWidths_s2 (((), (), x5, (0 : Int), (0 : Int), (), x.1.2.2.2.1, x.1.2.2.2.2.1, ()), ((x.2.1.1.1, x.2.1.1.2.1, x.2.1.1.2.2.1, ()), ()), (x.2.2.1, x.2.2.2.1, ()))).bind fun r15 =>
 sumK r15 (fun y18 =>
 some (.inr (.inl (((), y18.1.2.1, ()), (), ())))) (fun y19 =>
 ck ((y19.2.2.1.length + [y19.1.2.2.1].length) * 8 ≤ 140737488355328 ∧ (y19.2.2.1.length + [y19.1.2.2.1].length) ≤ 9223372036854775807)
 (let x20 : List Int := y19.2.2.1 ++ [y19.1.2.2.1];
 let x21 : Int := w64 (y19.1.2.2.2.2.2.1 + (1 : Int));
 some (.inl (((), (), (), y19.1.2.2.2.2.1, x21, ()), ((y19.2.1.1.1, y19.2.1.1.2.1, y19.2.1.1.2.2.1, ()), ()), (x20, y19.2.2.2.1, ())))))))))
 (some (.inr (.inr (((), ()), (), (x.2.2.1, ())))))
def spec_WordWidths_h0 : Sh := ⟨[(2, .c (.box 0 0)), (7, .c (.own 0)), (25, .c (.own 1)), (26, .c (.int .i64)), (27, .c (.int .i64))], [(0, .cells [.str, .rd [] .i64, .rd [] .i64])], [(0, .i64), (1, .str)]⟩
def spec_WordWidths_r0 : List Sh := [⟨[(4, .c (.nil)), (5, .c (.bool))], [], []⟩, ⟨[(7, .c (.own 0))], [], [(0, .i64)]⟩]
noncomputable def spec_WordWidths_L0 : Lp := ⟨0, [], spec_WordWidths_h0, [], [(.ret, []), (.exit 0, [])], spec_WordWidths_r0, loopC spec_WordWidths_s0⟩
noncomputable def spec_WordWidths (a0_0 : ByteArray) (a0_1 : List Int) (a0_2 : List Int) (a1 : ByteArray) : Option ((Unit × Bool × Unit) × Unit × (List Int × Unit)) :=
 (spec_l6Words a1).bind fun r1 =>
 (spec_FontOk a0_0 a0_1 a0_2).bind fun r2 =>
 br (!r2.1.1)
 (some (((), false, ()), (), ([], ())))
 ((spec_l1In (r1.2.2.1.length : Int) (1 : Int) (40 : Int)).bind fun r3 =>
 br (!r3.1.1)
 (some (((), false, ()), (), ([], ())))
 ((loopC spec_WordWidths_s0 (((), (), (), (r1.2.2.1.length : Int), (0 : Int), ()), ((a0_0, a0_1, a0_2, ()), ()), ([], r1.2.2.1, ()))).bind fun r22 =>
 sumK r22 (fun y25 =>
 some (((), y25.1.2.1, ()), (), ([], ()))) (fun y26 =>
 some (((), true, ()), (), (y26.2.2.1, ())))))
noncomputable def spec_WordWidths_C : Ctr := ⟨20, spec_WordWidths_arg, spec_WordWidths_res, fun x => spec_WordWidths x.1.1.1 x.1.1.2.1 x.1.1.2.2.1 x.1.2.1, none⟩
def spec_WordWidths_H : Hint := ⟨[], [], [], fun _ => []⟩
noncomputable def spec_WordWidths_T : List Ctr := [spec_l6Words_C, spec_FontOk_C, spec_l1In_C, spec_KeyOf_C]
noncomputable def spec_WordWidths_Ls : List Lp := [spec_WordWidths_L2, spec_WordWidths_L0]
theorem spec_WordWidths_l0 : ∀ x, spec_WordWidths_s0 x = stepW E0 spec_WordWidths_T spec_WordWidths_Ls spec_WordWidths_H (loopAt (bodyOf Tryd.f20) 0) 0 spec_WordWidths_h0 [] [(.ret, []), (.exit 0, [])] spec_WordWidths_r0 x := fun x => by kernel_rfl
theorem spec_WordWidths_l2 : ∀ x, spec_WordWidths_s2 x = stepW E0 spec_WordWidths_T spec_WordWidths_Ls spec_WordWidths_H (loopAt (bodyOf Tryd.f20) 1) 2 spec_WordWidths_h2 [] [(.ret, []), (.exit 2, [])] spec_WordWidths_r2 x := fun x => by kernel_rfl
theorem spec_WordWidths_e : ∀ x, spec_WordWidths_C.F x = runBodyW E0 spec_WordWidths_T spec_WordWidths_Ls spec_WordWidths_H 20 Tryd.f20.results.toList (bodyOf Tryd.f20) [(.tm 4, 6000000, .i64)] (spec_WordWidths_arg.mk' x) spec_WordWidths_res := fun x => by kernel_rfl
theorem spec_WordWidths_ok : spec_WordWidths_C.Ok E0 := fn_ok (T := spec_WordWidths_T) (h := spec_WordWidths_H) (Ls := spec_WordWidths_Ls) E0_mixed (T_cons spec_l6Words_ok (T_cons spec_FontOk_ok (T_cons spec_l1In_ok (T_cons spec_KeyOf_ok T_nil)))) Tryd.func20 (bodyOf_some (by kernel_rfl)) (by kernel_rfl) (loops_of (ks := [0, 2]) (by kernel_rfl) ⟨(loop_one (h := spec_WordWidths_H) (own := []) (head := spec_WordWidths_h0) (back := []) (exs := [(.ret, []), (.exit 0, [])]) (res := spec_WordWidths_r0) (step := spec_WordWidths_s0) (by kernel_rfl) spec_WordWidths_l0), (loop_one (h := spec_WordWidths_H) (own := []) (head := spec_WordWidths_h2) (back := []) (exs := [(.ret, []), (.exit 2, [])]) (res := spec_WordWidths_r2) (step := spec_WordWidths_s2) (by kernel_rfl) spec_WordWidths_l2), trivial⟩) spec_WordWidths_e
def spec_MeasureOk_arg : Sh := ⟨[(0, .agg [.int .i64, .int .i64, .int .i64])], [], []⟩
def spec_MeasureOk_res : List Sh := [⟨[(0, .c (.bool))], [], []⟩]
noncomputable def spec_MeasureOk (a0_0 : Int) (a0_1 : Int) (a0_2 : Int) : Option ((Bool × Unit) × Unit × Unit) :=
 (spec_l1In a0_0 (1 : Int) (2000 : Int)).bind fun r1 =>
 br r1.1.1
 ((spec_l1In a0_1 (1 : Int) (100 : Int)).bind fun r2 =>
 br r2.1.1
 ((spec_l1In a0_2 a0_1 (100 : Int)).bind fun r3 =>
 some ((r3.1.1, ()), (), ()))
 (some ((false, ()), (), ())))
 (some ((false, ()), (), ()))
noncomputable def spec_MeasureOk_C : Ctr := ⟨57, spec_MeasureOk_arg, spec_MeasureOk_res, fun x => spec_MeasureOk x.1.1.1 x.1.1.2.1 x.1.1.2.2.1, none⟩
def spec_MeasureOk_H : Hint := ⟨[], [], [], fun _ => []⟩
noncomputable def spec_MeasureOk_T : List Ctr := [spec_l1In_C]
noncomputable def spec_MeasureOk_Ls : List Lp := []
theorem spec_MeasureOk_e : ∀ x, spec_MeasureOk_C.F x = runBodyW E0 spec_MeasureOk_T spec_MeasureOk_Ls spec_MeasureOk_H 57 Tryd.f57.results.toList (bodyOf Tryd.f57) [] (spec_MeasureOk_arg.mk' x) spec_MeasureOk_res := fun x => by kernel_rfl
theorem spec_MeasureOk_ok : spec_MeasureOk_C.Ok E0 := fn_ok (T := spec_MeasureOk_T) (h := spec_MeasureOk_H) (Ls := spec_MeasureOk_Ls) E0_mixed (T_cons spec_l1In_ok T_nil) Tryd.func57 (bodyOf_some (by kernel_rfl)) (by kernel_rfl) (loops_of (ks := []) (by kernel_rfl) trivial) spec_MeasureOk_e
def spec_TextOk_arg : Sh := ⟨[(0, .c (.rd [] .i64))], [], []⟩
def spec_TextOk_res : List Sh := [⟨[(0, .c (.bool))], [], []⟩]
noncomputable def spec_TextOk_s0 (x : (List Int × List Int × Int × Int × Unit) × Unit × Unit) : Option (((List Int × List Int × Int × Int × Unit) × Unit × Unit) ⊕ (((Bool × Unit) × Unit × Unit) ⊕ ((List Int × Unit) × Unit × Unit))) :=
 let x1 : Bool := decide (x.1.2.2.2.1 < x.1.2.2.1);
 br x1
 (ck (0 ≤ x.1.2.2.2.1)
 (ck (x.1.2.2.2.1.toNat < x.1.2.1.length)
 (let x2 : Int := x.1.2.1.getD x.1.2.2.2.1.toNat 0;
 (spec_l1In x2 (1 : Int) (2000 : Int)).bind fun r3 =>
 br (!r3.1.1)
 (some (.inr (.inl ((false, ()), (), ()))))
 (let x4 : Int := w64 (x.1.2.2.2.1 + (1 : Int));
 some (.inl ((x.1.1, x.1.2.1, x.1.2.2.1, x4, ()), (), ()))))))
 (some (.inr (.inr ((x.1.1, ()), (), ()))))
def spec_TextOk_h0 : Sh := ⟨[(0, .c (.rd [] .i64)), (5, .c (.rd [] .i64)), (6, .c (.int .i64)), (7, .c (.int .i64))], [], []⟩
def spec_TextOk_r0 : List Sh := [⟨[(2, .c (.bool))], [], []⟩, ⟨[(0, .c (.rd [] .i64))], [], []⟩]
noncomputable def spec_TextOk_L0 : Lp := ⟨0, [], spec_TextOk_h0, [], [(.ret, []), (.exit 0, [])], spec_TextOk_r0, loopC spec_TextOk_s0⟩
noncomputable def spec_TextOk (a0 : List Int) : Option ((Bool × Unit) × Unit × Unit) :=
 (loopC spec_TextOk_s0 ((a0, a0, (a0.length : Int), (0 : Int), ()), (), ())).bind fun r5 =>
 sumK r5 (fun y8 =>
 some ((y8.1.1, ()), (), ())) (fun y9 =>
 (spec_l1In (y9.1.1.length : Int) (1 : Int) (40 : Int)).bind fun r10 =>
 some ((r10.1.1, ()), (), ()))
noncomputable def spec_TextOk_C : Ctr := ⟨58, spec_TextOk_arg, spec_TextOk_res, fun x => spec_TextOk x.1.1, none⟩
def spec_TextOk_H : Hint := ⟨[], [], [], fun _ => []⟩
noncomputable def spec_TextOk_T : List Ctr := [spec_l1In_C]
noncomputable def spec_TextOk_Ls : List Lp := [spec_TextOk_L0]
theorem spec_TextOk_l0 : ∀ x, spec_TextOk_s0 x = stepW E0 spec_TextOk_T spec_TextOk_Ls spec_TextOk_H (loopAt (bodyOf Tryd.f58) 0) 0 spec_TextOk_h0 [] [(.ret, []), (.exit 0, [])] spec_TextOk_r0 x := fun x => by kernel_rfl
theorem spec_TextOk_e : ∀ x, spec_TextOk_C.F x = runBodyW E0 spec_TextOk_T spec_TextOk_Ls spec_TextOk_H 58 Tryd.f58.results.toList (bodyOf Tryd.f58) [] (spec_TextOk_arg.mk' x) spec_TextOk_res := fun x => by kernel_rfl
theorem spec_TextOk_ok : spec_TextOk_C.Ok E0 := fn_ok (T := spec_TextOk_T) (h := spec_TextOk_H) (Ls := spec_TextOk_Ls) E0_mixed (T_cons spec_l1In_ok T_nil) Tryd.func58 (bodyOf_some (by kernel_rfl)) (by kernel_rfl) (loops_of (ks := [0]) (by kernel_rfl) ⟨(loop_one (h := spec_TextOk_H) (own := []) (head := spec_TextOk_h0) (back := []) (exs := [(.ret, []), (.exit 0, [])]) (res := spec_TextOk_r0) (step := spec_TextOk_s0) (by kernel_rfl) spec_TextOk_l0), trivial⟩) spec_TextOk_e
def spec_l4Ok_arg : Sh := ⟨[(0, .agg [.int .i64, .int .i64, .int .i64]), (1, .c (.rd [] .i64))], [], []⟩
def spec_l4Ok_res : List Sh := [⟨[(0, .c (.bool))], [], []⟩]
noncomputable def spec_l4Ok (a0_0 : Int) (a0_1 : Int) (a0_2 : Int) (a1 : List Int) : Option ((Bool × Unit) × Unit × Unit) :=
 (spec_MeasureOk a0_0 a0_1 a0_2).bind fun r1 =>
 br r1.1.1
 ((spec_TextOk a1).bind fun r2 =>
 some ((r2.1.1, ()), (), ()))
 (some ((false, ()), (), ()))
noncomputable def spec_l4Ok_C : Ctr := ⟨41, spec_l4Ok_arg, spec_l4Ok_res, fun x => spec_l4Ok x.1.1.1 x.1.1.2.1 x.1.1.2.2.1 x.1.2.1, none⟩
def spec_l4Ok_H : Hint := ⟨[], [], [], fun _ => []⟩
noncomputable def spec_l4Ok_T : List Ctr := [spec_MeasureOk_C, spec_TextOk_C]
noncomputable def spec_l4Ok_Ls : List Lp := []
theorem spec_l4Ok_e : ∀ x, spec_l4Ok_C.F x = runBodyW E0 spec_l4Ok_T spec_l4Ok_Ls spec_l4Ok_H 41 Tryd.f41.results.toList (bodyOf Tryd.f41) [] (spec_l4Ok_arg.mk' x) spec_l4Ok_res := fun x => by kernel_rfl
theorem spec_l4Ok_ok : spec_l4Ok_C.Ok E0 := fn_ok (T := spec_l4Ok_T) (h := spec_l4Ok_H) (Ls := spec_l4Ok_Ls) E0_mixed (T_cons spec_MeasureOk_ok (T_cons spec_TextOk_ok T_nil)) Tryd.func41 (bodyOf_some (by kernel_rfl)) (by kernel_rfl) (loops_of (ks := []) (by kernel_rfl) trivial) spec_l4Ok_e
def spec_l4Rest_arg : Sh := ⟨[(0, .agg [.int .i64, .int .i64, .int .i64]), (1, .c (.rd [] .i64))], [], []⟩
def spec_l4Rest_res : List Sh := [⟨[(0, .c (.int .i64)), (1, .c (.int .i64))], [], []⟩]
noncomputable def spec_l4Rest_s0 (x : (List Int × Unit × Int × List Int × Int × Int × Unit) × ((Int × Int × Int × Unit) × Unit) × Unit) : Option (((List Int × Unit × Int × List Int × Int × Int × Unit) × ((Int × Int × Int × Unit) × Unit) × Unit) ⊕ ((List Int × Unit × Int × Unit) × ((Int × Int × Int × Unit) × Unit) × Unit)) :=
 let x1 : Bool := decide (x.1.2.2.2.2.2.1 < x.1.2.2.2.2.1);
 br x1
 (ck (0 ≤ x.1.2.2.2.2.2.1)
 (ck (x.1.2.2.2.2.2.1.toNat < x.1.2.2.2.1.length)
 (let x2 : Int := x.1.2.2.2.1.getD x.1.2.2.2.2.2.1.toNat 0;
 let x3 : Int := w64 (x.1.2.2.1 + x2);
 let x4 : Int := w64 (x.1.2.2.2.2.2.1 + (1 : Int));
 some (.inl ((x.1.1, (), x3, x.1.2.2.2.1, x.1.2.2.2.2.1, x4, ()), ((x.2.1.1.1, x.2.1.1.2.1, x.2.1.1.2.2.1, ()), ()), ())))))
 (some (.inr ((x.1.1, (), x.1.2.2.1, ()), ((x.2.1.1.1, x.2.1.1.2.1, x.2.1.1.2.2.1, ()), ()), ())))
def spec_l4Rest_h0 : Sh := ⟨[(1, .c (.rd [] .i64)), (2, .c (.box 0 0)), (6, .c (.int .i64)), (9, .c (.rd [] .i64)), (10, .c (.int .i64)), (11, .c (.int .i64))], [(0, .cells [.int .i64, .int .i64, .int .i64])], []⟩
def spec_l4Rest_r0 : List Sh := [⟨[(1, .c (.rd [] .i64)), (2, .c (.box 0 0)), (6, .c (.int .i64))], [(0, .cells [.int .i64, .int .i64, .int .i64])], []⟩]
noncomputable def spec_l4Rest_L0 : Lp := ⟨0, [], spec_l4Rest_h0, [], [(.exit 0, [])], spec_l4Rest_r0, loopC spec_l4Rest_s0⟩
noncomputable def spec_l4Rest (a0_0 : Int) (a0_1 : Int) (a0_2 : Int) (a1 : List Int) : Option ((Int × Int × Unit) × Unit × Unit) :=
 (loopC spec_l4Rest_s0 ((a1, (), (0 : Int), a1, (a1.length : Int), (0 : Int), ()), ((a0_0, a0_1, a0_2, ()), ()), ())).bind fun r5 =>
 let x6 : Int := w64 (r5.2.1.1.1 - r5.1.2.2.1);
 let x7 : Int := w64 ((r5.1.1.length : Int) - (1 : Int));
 let x8 : Int := w64 (x7 * r5.2.1.1.2.1);
 let x9 : Int := w64 (x6 - x8);
 some ((x9, x7, ()), (), ())
noncomputable def spec_l4Rest_C : Ctr := ⟨74, spec_l4Rest_arg, spec_l4Rest_res, fun x => spec_l4Rest x.1.1.1 x.1.1.2.1 x.1.1.2.2.1 x.1.2.1, none⟩
def spec_l4Rest_H : Hint := ⟨[], [], [], fun _ => []⟩
noncomputable def spec_l4Rest_T : List Ctr := []
noncomputable def spec_l4Rest_Ls : List Lp := [spec_l4Rest_L0]
theorem spec_l4Rest_l0 : ∀ x, spec_l4Rest_s0 x = stepW E0 spec_l4Rest_T spec_l4Rest_Ls spec_l4Rest_H (loopAt (bodyOf Tryd.f74) 0) 0 spec_l4Rest_h0 [] [(.exit 0, [])] spec_l4Rest_r0 x := fun x => by kernel_rfl
theorem spec_l4Rest_e : ∀ x, spec_l4Rest_C.F x = runBodyW E0 spec_l4Rest_T spec_l4Rest_Ls spec_l4Rest_H 74 Tryd.f74.results.toList (bodyOf Tryd.f74) [] (spec_l4Rest_arg.mk' x) spec_l4Rest_res := fun x => by kernel_rfl
theorem spec_l4Rest_ok : spec_l4Rest_C.Ok E0 := fn_ok (T := spec_l4Rest_T) (h := spec_l4Rest_H) (Ls := spec_l4Rest_Ls) E0_mixed T_nil Tryd.func74 (bodyOf_some (by kernel_rfl)) (by kernel_rfl) (loops_of (ks := [0]) (by kernel_rfl) ⟨(loop_one (h := spec_l4Rest_H) (own := []) (head := spec_l4Rest_h0) (back := []) (exs := [(.exit 0, [])]) (res := spec_l4Rest_r0) (step := spec_l4Rest_s0) (by kernel_rfl) spec_l4Rest_l0), trivial⟩) spec_l4Rest_e
def spec_l4Rise_arg : Sh := ⟨[(0, .agg [.int .i64, .int .i64, .int .i64]), (1, .c (.rd [] .i64))], [], []⟩
def spec_l4Rise_res : List Sh := [⟨[(0, .c (.int .i64))], [], []⟩]
noncomputable def spec_l4Rise (a0_0 : Int) (a0_1 : Int) (a0_2 : Int) (a1 : List Int) : Option ((Int × Unit) × Unit × Unit) :=
 (spec_l4Rest a0_0 a0_1 a0_2 a1).bind fun r1 =>
 let x2 : Bool := r1.1.2.1 == (0 : Int);
 br x2
 (some (((0 : Int), ()), (), ()))
 (ck (r1.1.2.1 ≠ 0)
 (let x3 : Int := w64 (r1.1.1.tdiv r1.1.2.1);
 let x4 : Int := w64 (a0_2 - a0_1);
 let x5 : Int := if x4 < x3 then x4 else x3;
 some ((x5, ()), (), ())))
noncomputable def spec_l4Rise_C : Ctr := ⟨75, spec_l4Rise_arg, spec_l4Rise_res, fun x => spec_l4Rise x.1.1.1 x.1.1.2.1 x.1.1.2.2.1 x.1.2.1, none⟩
def spec_l4Rise_H : Hint := ⟨[], [], [], fun _ => []⟩
noncomputable def spec_l4Rise_T : List Ctr := [spec_l4Rest_C]
noncomputable def spec_l4Rise_Ls : List Lp := []
theorem spec_l4Rise_e : ∀ x, spec_l4Rise_C.F x = runBodyW E0 spec_l4Rise_T spec_l4Rise_Ls spec_l4Rise_H 75 Tryd.f75.results.toList (bodyOf Tryd.f75) [] (spec_l4Rise_arg.mk' x) spec_l4Rise_res := fun x => by kernel_rfl
theorem spec_l4Rise_ok : spec_l4Rise_C.Ok E0 := fn_ok (T := spec_l4Rise_T) (h := spec_l4Rise_H) (Ls := spec_l4Rise_Ls) E0_mixed (T_cons spec_l4Rest_ok T_nil) Tryd.func75 (bodyOf_some (by kernel_rfl)) (by kernel_rfl) (loops_of (ks := []) (by kernel_rfl) trivial) spec_l4Rise_e
def spec_l4Kind_arg : Sh := ⟨[(0, .agg [.int .i64, .int .i64, .int .i64]), (1, .c (.rd [] .i64))], [], []⟩
def spec_l4Kind_res : List Sh := [⟨[(0, .c (.int .i64))], [], []⟩]
noncomputable def spec_l4Kind (a0_0 : Int) (a0_1 : Int) (a0_2 : Int) (a1 : List Int) : Option ((Int × Unit) × Unit × Unit) :=
 (spec_l4Rest a0_0 a0_1 a0_2 a1).bind fun r1 =>
 let x2 : Bool := decide (r1.1.1 < (0 : Int));
 br x2
 (some (((0 : Int), ()), (), ()))
 ((spec_l4Rise a0_0 a0_1 a0_2 a1).bind fun r3 =>
 let x4 : Int := w64 (r1.1.2.1 * r3.1.1);
 let x5 : Int := w64 (r1.1.1 - x4);
 let x6 : Bool := x5 == (0 : Int);
 br x6
 (some (((2 : Int), ()), (), ()))
 (let x7 : Bool := decide (x5 < r1.1.2.1);
 br x7
 (some (((2 : Int), ()), (), ()))
 (some (((1 : Int), ()), (), ()))))
noncomputable def spec_l4Kind_C : Ctr := ⟨59, spec_l4Kind_arg, spec_l4Kind_res, fun x => spec_l4Kind x.1.1.1 x.1.1.2.1 x.1.1.2.2.1 x.1.2.1, none⟩
def spec_l4Kind_H : Hint := ⟨[], [], [], fun _ => []⟩
noncomputable def spec_l4Kind_T : List Ctr := [spec_l4Rest_C, spec_l4Rise_C]
noncomputable def spec_l4Kind_Ls : List Lp := []
theorem spec_l4Kind_e : ∀ x, spec_l4Kind_C.F x = runBodyW E0 spec_l4Kind_T spec_l4Kind_Ls spec_l4Kind_H 59 Tryd.f59.results.toList (bodyOf Tryd.f59) [] (spec_l4Kind_arg.mk' x) spec_l4Kind_res := fun x => by kernel_rfl
theorem spec_l4Kind_ok : spec_l4Kind_C.Ok E0 := fn_ok (T := spec_l4Kind_T) (h := spec_l4Kind_H) (Ls := spec_l4Kind_Ls) E0_mixed (T_cons spec_l4Rest_ok (T_cons spec_l4Rise_ok T_nil)) Tryd.func59 (bodyOf_some (by kernel_rfl)) (by kernel_rfl) (loops_of (ks := []) (by kernel_rfl) trivial) spec_l4Kind_e
def spec_l4Goes_arg : Sh := ⟨[(0, .agg [.int .i64, .int .i64, .int .i64]), (1, .c (.rd [] .i64)), (2, .c (.int .i64)), (3, .c (.int .i64))], [], []⟩
def spec_l4Goes_res : List Sh := [⟨[(0, .c (.bool))], [], []⟩]
noncomputable def spec_l4Goes (a0_0 : Int) (a0_1 : Int) (a0_2 : Int) (a1 : List Int) (a2 : Int) (a3 : Int) : Option ((Bool × Unit) × Unit × Unit) :=
 let x1 : Int := w64 (a2 + a3);
 ck (0 ≤ a2)
 (ck (0 ≤ x1)
 (ck (a2.toNat ≤ x1.toNat ∧ x1.toNat ≤ a1.length)
 (let x2 : List Int := cut a1 a2.toNat x1.toNat;
 (spec_l4Kind a0_0 a0_1 a0_2 x2).bind fun r3 =>
 let x4 : Bool := r3.1.1 == (2 : Int);
 br x4
 (some ((true, ()), (), ()))
 (let x5 : Bool := r3.1.1 == (1 : Int);
 br x5
 (let x6 : Bool := x1 == (a1.length : Int);
 some ((x6, ()), (), ()))
 (some ((false, ()), (), ()))))))
noncomputable def spec_l4Goes_C : Ctr := ⟨42, spec_l4Goes_arg, spec_l4Goes_res, fun x => spec_l4Goes x.1.1.1 x.1.1.2.1 x.1.1.2.2.1 x.1.2.1 x.1.2.2.1 x.1.2.2.2.1, none⟩
def spec_l4Goes_H : Hint := ⟨[], [], [], fun _ => []⟩
noncomputable def spec_l4Goes_T : List Ctr := [spec_l4Kind_C]
noncomputable def spec_l4Goes_Ls : List Lp := []
theorem spec_l4Goes_e : ∀ x, spec_l4Goes_C.F x = runBodyW E0 spec_l4Goes_T spec_l4Goes_Ls spec_l4Goes_H 42 Tryd.f42.results.toList (bodyOf Tryd.f42) [] (spec_l4Goes_arg.mk' x) spec_l4Goes_res := fun x => by kernel_rfl
theorem spec_l4Goes_ok : spec_l4Goes_C.Ok E0 := fn_ok (T := spec_l4Goes_T) (h := spec_l4Goes_H) (Ls := spec_l4Goes_Ls) E0_mixed (T_cons spec_l4Kind_ok T_nil) Tryd.func42 (bodyOf_some (by kernel_rfl)) (by kernel_rfl) (loops_of (ks := []) (by kernel_rfl) trivial) spec_l4Goes_e
def spec_GreedyBreaking_arg : Sh := ⟨[(0, .agg [.int .i64, .int .i64, .int .i64]), (1, .c (.rd [] .i64))], [], []⟩
def spec_GreedyBreaking_res : List Sh := [⟨[(0, .c (.own 0)), (1, .c (.bool))], [], [(0, .i64)]⟩]
noncomputable def spec_GreedyBreaking_s2 (x : (List Int × Unit × Unit × Int × Int × Unit) × ((Int × Int × Int × Unit) × Unit) × (List Int × Unit)) : Option (((List Int × Unit × Unit × Int × Int × Unit) × ((Int × Int × Int × Unit) × Unit) × (List Int × Unit)) ⊕ (((List Int × Unit × Unit × Int × Int × (Int × Int × Int × Unit) × List Int × Int × Int × Bool × Bool × Unit) × ((Int × Int × Int × Unit) × Unit) × (List Int × Unit)) ⊕ ((List Int × Unit × Unit × Int × Int × Unit) × ((Int × Int × Int × Unit) × Unit) × (List Int × Unit)))) :=
 let x4 : Bool := decide (x.1.2.2.2.2.1 > (0 : Int));
 br x4
 ((spec_l4Goes x.2.1.1.1 x.2.1.1.2.1 x.2.1.1.2.2.1 x.1.1 x.1.2.2.2.1 x.1.2.2.2.2.1).bind fun r5 =>
 br (!r5.1.1)
 (let x6 : Int := w64 (x.1.2.2.2.2.1 - (1 : Int));
 some (.inl ((x.1.1, (), (), x.1.2.2.2.1, x6, ()), ((x.2.1.1.1, x.2.1.1.2.1, x.2.1.1.2.2.1, ()), ()), (x.2.2.1, ()))))
 (some (.inr (.inl ((x.1.1, (), (), x.1.2.2.2.1, x.1.2.2.2.2.1, (x.2.1.1.1, x.2.1.1.2.1, x.2.1.1.2.2.1, ()), x.1.1, x.1.2.2.2.1, x.1.2.2.2.2.1, r5.1.1, !r5.1.1, ()), ((x.2.1.1.1, x.2.1.1.2.1, x.2.1.1.2.2.1, ()), ()), (x.2.2.1, ()))))))
 (some (.inr (.inr ((x.1.1, (), (), x.1.2.2.2.1, x.1.2.2.2.2.1, ()), ((x.2.1.1.1, x.2.1.1.2.1, x.2.1.1.2.2.1, ()), ()), (x.2.2.1, ())))))
def spec_GreedyBreaking_h2 : Sh := ⟨[(1, .c (.rd [] .i64)), (2, .c (.box 0 0)), (6, .c (.own 0)), (7, .c (.int .i64)), (8, .c (.int .i64))], [(0, .cells [.int .i64, .int .i64, .int .i64])], [(0, .i64)]⟩
def spec_GreedyBreaking_r2 : List Sh := [⟨[(1, .c (.rd [] .i64)), (2, .c (.box 0 0)), (6, .c (.own 0)), (7, .c (.int .i64)), (8, .c (.int .i64)), (25, .agg [.int .i64, .int .i64, .int .i64]), (26, .c (.rd [] .i64)), (27, .c (.int .i64)), (28, .c (.int .i64)), (29, .c (.bool)), (30, .c (.bool))], [(0, .cells [.int .i64, .int .i64, .int .i64])], [(0, .i64)]⟩, ⟨[(1, .c (.rd [] .i64)), (2, .c (.box 0 0)), (6, .c (.own 0)), (7, .c (.int .i64)), (8, .c (.int .i64))], [(0, .cells [.int .i64, .int .i64, .int .i64])], [(0, .i64)]⟩]
noncomputable def spec_GreedyBreaking_L2 : Lp := ⟨2, [], spec_GreedyBreaking_h2, [], [(.exit 2, []), (.exit 2, [])], spec_GreedyBreaking_r2, loopC spec_GreedyBreaking_s2⟩
noncomputable def spec_GreedyBreaking_s0 (x : (List Int × Unit × Unit × Int × Unit) × ((Int × Int × Int × Unit) × Unit) × (List Int × Unit)) : Option (((List Int × Unit × Unit × Int × Unit) × ((Int × Int × Int × Unit) × Unit) × (List Int × Unit)) ⊕ (((Unit × Bool × Unit) × Unit × Unit) ⊕ ((Unit × Unit) × Unit × (List Int × Unit)))) :=
 let x2 : Bool := decide (x.1.2.2.2.1 < (x.1.1.length : Int));
 br x2
 (let x3 : Int := w64 ((x.1.1.length : Int) - x.1.2.2.2.1);
 (loopC spec_GreedyBreaking_s2 ((x.1.1, (), (), x.1.2.2.2.1, x3, ()), ((x.2.1.1.1, x.2.1.1.2.1, x.2.1.1.2.2.1, ()), ()), (x.2.2.1, ()))).bind fun r7 =>
 sumK r7 (fun y10 =>
 let x12 : Bool := y10.1.2.2.2.2.1 == (0 : Int);
 br x12
 (some (.inr (.inl (((), false, ()), (), ()))))
 (ck ((y10.2.2.1.length + [y10.1.2.2.2.2.1].length) * 8 ≤ 140737488355328 ∧ (y10.2.2.1.length + [y10.1.2.2.2.2.1].length) ≤ 9223372036854775807)
 (let x13 : List Int := y10.2.2.1 ++ [y10.1.2.2.2.2.1];
 let x14 : Int := w64 (y10.1.2.2.2.1 + y10.1.2.2.2.2.1);
 some (.inl ((y10.1.1, (), (), x14, ()), ((y10.2.1.1.1, y10.2.1.1.2.1, y10.2.1.1.2.2.1, ()), ()), (x13, ())))))) (fun y11 =>
 let x15 : Bool := y11.1.2.2.2.2.1 == (0 : Int);
 br x15
 (some (.inr (.inl (((), false, ()), (), ()))))
 (ck ((y11.2.2.1.length + [y11.1.2.2.2.2.1].length) * 8 ≤ 140737488355328 ∧ (y11.2.2.1.length + [y11.1.2.2.2.2.1].length) ≤ 9223372036854775807)
 (let x16 : List Int := y11.2.2.1 ++ [y11.1.2.2.2.2.1];
 let x17 : Int := w64 (y11.1.2.2.2.1 + y11.1.2.2.2.2.1);
 some (.inl ((y11.1.1, (), (), x17, ()), ((y11.2.1.1.1, y11.2.1.1.2.1, y11.2.1.1.2.2.1, ()), ()), (x16, ())))))))
 (some (.inr (.inr (((), ()), (), (x.2.2.1, ())))))
def spec_GreedyBreaking_h0 : Sh := ⟨[(1, .c (.rd [] .i64)), (2, .c (.box 0 0)), (6, .c (.own 0)), (7, .c (.int .i64))], [(0, .cells [.int .i64, .int .i64, .int .i64])], [(0, .i64)]⟩
def spec_GreedyBreaking_r0 : List Sh := [⟨[(4, .c (.nil)), (5, .c (.bool))], [], []⟩, ⟨[(6, .c (.own 0))], [], [(0, .i64)]⟩]
noncomputable def spec_GreedyBreaking_L0 : Lp := ⟨0, [], spec_GreedyBreaking_h0, [], [(.ret, []), (.exit 0, [])], spec_GreedyBreaking_r0, loopC spec_GreedyBreaking_s0⟩
noncomputable def spec_GreedyBreaking (a0_0 : Int) (a0_1 : Int) (a0_2 : Int) (a1 : List Int) : Option ((Unit × Bool × Unit) × Unit × (List Int × Unit)) :=
 (spec_l4Ok a0_0 a0_1 a0_2 a1).bind fun r1 =>
 br (!r1.1.1)
 (some (((), false, ()), (), ([], ())))
 ((loopC spec_GreedyBreaking_s0 ((a1, (), (), (0 : Int), ()), ((a0_0, a0_1, a0_2, ()), ()), ([], ()))).bind fun r18 =>
 sumK r18 (fun y21 =>
 some (((), y21.1.2.1, ()), (), ([], ()))) (fun y22 =>
 some (((), true, ()), (), (y22.2.2.1, ()))))
noncomputable def spec_GreedyBreaking_C : Ctr := ⟨21, spec_GreedyBreaking_arg, spec_GreedyBreaking_res, fun x => spec_GreedyBreaking x.1.1.1 x.1.1.2.1 x.1.1.2.2.1 x.1.2.1, none⟩
def spec_GreedyBreaking_H : Hint := ⟨[], [], [], fun _ => []⟩
noncomputable def spec_GreedyBreaking_T : List Ctr := [spec_l4Ok_C, spec_l4Goes_C]
noncomputable def spec_GreedyBreaking_Ls : List Lp := [spec_GreedyBreaking_L2, spec_GreedyBreaking_L0]
theorem spec_GreedyBreaking_l0 : ∀ x, spec_GreedyBreaking_s0 x = stepW E0 spec_GreedyBreaking_T spec_GreedyBreaking_Ls spec_GreedyBreaking_H (loopAt (bodyOf Tryd.f21) 0) 0 spec_GreedyBreaking_h0 [] [(.ret, []), (.exit 0, [])] spec_GreedyBreaking_r0 x := fun x => by kernel_rfl
theorem spec_GreedyBreaking_l2 : ∀ x, spec_GreedyBreaking_s2 x = stepW E0 spec_GreedyBreaking_T spec_GreedyBreaking_Ls spec_GreedyBreaking_H (loopAt (bodyOf Tryd.f21) 1) 2 spec_GreedyBreaking_h2 [] [(.exit 2, []), (.exit 2, [])] spec_GreedyBreaking_r2 x := fun x => by kernel_rfl
theorem spec_GreedyBreaking_e : ∀ x, spec_GreedyBreaking_C.F x = runBodyW E0 spec_GreedyBreaking_T spec_GreedyBreaking_Ls spec_GreedyBreaking_H 21 Tryd.f21.results.toList (bodyOf Tryd.f21) [(.tm 4, 6000000, .i64)] (spec_GreedyBreaking_arg.mk' x) spec_GreedyBreaking_res := fun x => by kernel_rfl
theorem spec_GreedyBreaking_ok : spec_GreedyBreaking_C.Ok E0 := fn_ok (T := spec_GreedyBreaking_T) (h := spec_GreedyBreaking_H) (Ls := spec_GreedyBreaking_Ls) E0_mixed (T_cons spec_l4Ok_ok (T_cons spec_l4Goes_ok T_nil)) Tryd.func21 (bodyOf_some (by kernel_rfl)) (by kernel_rfl) (loops_of (ks := [0, 2]) (by kernel_rfl) ⟨(loop_one (h := spec_GreedyBreaking_H) (own := []) (head := spec_GreedyBreaking_h0) (back := []) (exs := [(.ret, []), (.exit 0, [])]) (res := spec_GreedyBreaking_r0) (step := spec_GreedyBreaking_s0) (by kernel_rfl) spec_GreedyBreaking_l0), (loop_one (h := spec_GreedyBreaking_H) (own := []) (head := spec_GreedyBreaking_h2) (back := []) (exs := [(.exit 2, []), (.exit 2, [])]) (res := spec_GreedyBreaking_r2) (step := spec_GreedyBreaking_s2) (by kernel_rfl) spec_GreedyBreaking_l2), trivial⟩) spec_GreedyBreaking_e
def spec_l6Join_arg : Sh := ⟨[(0, .c (.rd [] .str))], [], []⟩
def spec_l6Join_res : List Sh := [⟨[(0, .c (.str))], [], []⟩]
noncomputable def spec_l6Join_s0 (x : (ByteArray × List ByteArray × Int × Int × Unit) × Unit × Unit) : Option (((ByteArray × List ByteArray × Int × Int × Unit) × Unit × Unit) ⊕ ((ByteArray × Unit) × Unit × Unit)) :=
 let x1 : Bool := decide (x.1.2.2.2.1 < x.1.2.2.1);
 br x1
 (ck (0 ≤ x.1.2.2.2.1)
 (ck (x.1.2.2.2.1.toNat < x.1.2.1.length)
 (let x2 : ByteArray := x.1.2.1.getD x.1.2.2.2.1.toNat ByteArray.empty;
 let x3 : Bool := decide (x.1.2.2.2.1 > (0 : Int));
 br x3
 (ck (((x.1.1.size + (ByteArray.mk #[32]).size : Nat) : Int) ≤ IntKind.i64.max)
 (let x4 : ByteArray := x.1.1 ++ (ByteArray.mk #[32]);
 ck (((x4.size + x2.size : Nat) : Int) ≤ IntKind.i64.max)
 (let x5 : ByteArray := x4 ++ x2;
 let x6 : Int := w64 (x.1.2.2.2.1 + (1 : Int));
 some (.inl ((x5, x.1.2.1, x.1.2.2.1, x6, ()), (), ())))))
 (ck (((x.1.1.size + x2.size : Nat) : Int) ≤ IntKind.i64.max)
 (let x7 : ByteArray := x.1.1 ++ x2;
 let x8 : Int := w64 (x.1.2.2.2.1 + (1 : Int));
 some (.inl ((x7, x.1.2.1, x.1.2.2.1, x8, ()), (), ())))))))
 (some (.inr ((x.1.1, ()), (), ())))
def spec_l6Join_h0 : Sh := ⟨[(3, .c (.str)), (6, .c (.rd [] .str)), (7, .c (.int .i64)), (8, .c (.int .i64))], [], []⟩
def spec_l6Join_r0 : List Sh := [⟨[(3, .c (.str))], [], []⟩]
noncomputable def spec_l6Join_L0 : Lp := ⟨0, [], spec_l6Join_h0, [], [(.exit 0, [])], spec_l6Join_r0, loopC spec_l6Join_s0⟩
noncomputable def spec_l6Join (a0 : List ByteArray) : Option ((ByteArray × Unit) × Unit × Unit) :=
 (loopC spec_l6Join_s0 ((ByteArray.empty, a0, (a0.length : Int), (0 : Int), ()), (), ())).bind fun r9 =>
 some ((r9.1.1, ()), (), ())
noncomputable def spec_l6Join_C : Ctr := ⟨23, spec_l6Join_arg, spec_l6Join_res, fun x => spec_l6Join x.1.1, none⟩
def spec_l6Join_H : Hint := ⟨[], [], [], fun _ => []⟩
noncomputable def spec_l6Join_T : List Ctr := []
noncomputable def spec_l6Join_Ls : List Lp := [spec_l6Join_L0]
theorem spec_l6Join_l0 : ∀ x, spec_l6Join_s0 x = stepW E0 spec_l6Join_T spec_l6Join_Ls spec_l6Join_H (loopAt (bodyOf Tryd.f23) 0) 0 spec_l6Join_h0 [] [(.exit 0, [])] spec_l6Join_r0 x := fun x => by kernel_rfl
theorem spec_l6Join_e : ∀ x, spec_l6Join_C.F x = runBodyW E0 spec_l6Join_T spec_l6Join_Ls spec_l6Join_H 23 Tryd.f23.results.toList (bodyOf Tryd.f23) [] (spec_l6Join_arg.mk' x) spec_l6Join_res := fun x => by kernel_rfl
theorem spec_l6Join_ok : spec_l6Join_C.Ok E0 := fn_ok (T := spec_l6Join_T) (h := spec_l6Join_H) (Ls := spec_l6Join_Ls) E0_mixed T_nil Tryd.func23 (bodyOf_some (by kernel_rfl)) (by kernel_rfl) (loops_of (ks := [0]) (by kernel_rfl) ⟨(loop_one (h := spec_l6Join_H) (own := []) (head := spec_l6Join_h0) (back := []) (exs := [(.exit 0, [])]) (res := spec_l6Join_r0) (step := spec_l6Join_s0) (by kernel_rfl) spec_l6Join_l0), trivial⟩) spec_l6Join_e
def spec_SetGalley_arg : Sh := ⟨[(0, .agg [.str, .rd [] .i64, .rd [] .i64]), (1, .agg [.int .i64, .int .i64, .int .i64]), (2, .c (.str))], [], []⟩
def spec_SetGalley_res : List Sh := [⟨[(0, .c (.own 0)), (1, .c (.bool))], [], [(0, .str)]⟩]
noncomputable def spec_SetGalley_s0 (x : (List ByteArray × Unit × Unit × Int × Int × Unit) × Unit × (List ByteArray × List ByteArray × List Int × Unit)) : Option (((List ByteArray × Unit × Unit × Int × Int × Unit) × Unit × (List ByteArray × List ByteArray × List Int × Unit)) ⊕ ((Unit × Unit) × Unit × (List ByteArray × Unit))) :=
 let x4 : Bool := decide (x.1.2.2.2.2.1 < x.1.2.2.2.1);
 br x4
 (ck (0 ≤ x.1.2.2.2.2.1)
 (ck (x.1.2.2.2.2.1.toNat < x.2.2.2.2.1.length)
 (ck (x.1.2.2.2.2.1.toNat < x.2.2.2.2.1.length)
 (let x5 : Int := x.2.2.2.2.1.getD x.1.2.2.2.2.1.toNat 0;
 ck (0 ≤ x5)
 (ck (0 ≤ x5.toNat ∧ x5.toNat ≤ x.1.1.length)
 (let x6 : List ByteArray := cut x.1.1 0 x5.toNat;
 (spec_l6Join x6).bind fun r7 =>
 ck ((x.2.2.2.1.length + [r7.1.1].length) * 16 ≤ 140737488355328 ∧ (x.2.2.2.1.length + [r7.1.1].length) ≤ 9223372036854775807)
 (let x8 : List ByteArray := x.2.2.2.1 ++ [r7.1.1];
 ck (0 ≤ x5)
 (ck (x5.toNat ≤ x.1.1.length ∧ x.1.1.length ≤ x.1.1.length)
 (let x9 : List ByteArray := cut x.1.1 x5.toNat x.1.1.length;
 let x10 : Int := w64 (x.1.2.2.2.2.1 + (1 : Int));
 some (.inl ((x9, (), (), x.1.2.2.2.1, x10, ()), (), (x.2.2.1, x8, x.2.2.2.2.1, ()))))))))))))
 (some (.inr (((), ()), (), (x.2.2.2.1, ()))))
def spec_SetGalley_h0 : Sh := ⟨[(12, .c (.rd [0] .str)), (13, .c (.own 1)), (35, .c (.own 2)), (36, .c (.int .i64)), (37, .c (.int .i64))], [], [(0, .str), (1, .str), (2, .i64)]⟩
def spec_SetGalley_r0 : List Sh := [⟨[(13, .c (.own 0))], [], [(0, .str)]⟩]
noncomputable def spec_SetGalley_L0 : Lp := ⟨0, [], spec_SetGalley_h0, [], [(.exit 0, [])], spec_SetGalley_r0, loopC spec_SetGalley_s0⟩
noncomputable def spec_SetGalley (a0_0 : ByteArray) (a0_1 : List Int) (a0_2 : List Int) (a1_0 : Int) (a1_1 : Int) (a1_2 : Int) (a2 : ByteArray) : Option ((Unit × Bool × Unit) × Unit × (List ByteArray × Unit)) :=
 (spec_WordWidths a0_0 a0_1 a0_2 a2).bind fun r1 =>
 br (!r1.1.2.1)
 (some (((), false, ()), (), ([], ())))
 ((spec_GreedyBreaking a1_0 a1_1 a1_2 r1.2.2.1).bind fun r2 =>
 br (!r2.1.2.1)
 (some (((), false, ()), (), ([], ())))
 ((spec_l6Words a2).bind fun r3 =>
 (loopC spec_SetGalley_s0 ((r3.2.2.1, (), (), (r2.2.2.1.length : Int), (0 : Int), ()), (), (r3.2.2.1, [], r2.2.2.1, ()))).bind fun r11 =>
 some (((), true, ()), (), (r11.2.2.1, ()))))
noncomputable def spec_SetGalley_C : Ctr := ⟨6, spec_SetGalley_arg, spec_SetGalley_res, fun x => spec_SetGalley x.1.1.1 x.1.1.2.1 x.1.1.2.2.1 x.1.2.1.1 x.1.2.1.2.1 x.1.2.1.2.2.1 x.1.2.2.1, none⟩
def spec_SetGalley_H : Hint := ⟨[], [], [], fun _ => []⟩
noncomputable def spec_SetGalley_T : List Ctr := [spec_WordWidths_C, spec_GreedyBreaking_C, spec_l6Words_C, spec_l6Join_C]
noncomputable def spec_SetGalley_Ls : List Lp := [spec_SetGalley_L0]
theorem spec_SetGalley_l0 : ∀ x, spec_SetGalley_s0 x = stepW E0 spec_SetGalley_T spec_SetGalley_Ls spec_SetGalley_H (loopAt (bodyOf Tryd.f6) 0) 0 spec_SetGalley_h0 [] [(.exit 0, [])] spec_SetGalley_r0 x := fun x => by kernel_rfl
theorem spec_SetGalley_e : ∀ x, spec_SetGalley_C.F x = runBodyW E0 spec_SetGalley_T spec_SetGalley_Ls spec_SetGalley_H 6 Tryd.f6.results.toList (bodyOf Tryd.f6) [(.tm 6, 6000000, .str)] (spec_SetGalley_arg.mk' x) spec_SetGalley_res := fun x => by kernel_rfl
theorem spec_SetGalley_ok : spec_SetGalley_C.Ok E0 := fn_ok (T := spec_SetGalley_T) (h := spec_SetGalley_H) (Ls := spec_SetGalley_Ls) E0_mixed (T_cons spec_WordWidths_ok (T_cons spec_GreedyBreaking_ok (T_cons spec_l6Words_ok (T_cons spec_l6Join_ok T_nil)))) Tryd.func6 (bodyOf_some (by kernel_rfl)) (by kernel_rfl) (loops_of (ks := [0]) (by kernel_rfl) ⟨(loop_one (h := spec_SetGalley_H) (own := []) (head := spec_SetGalley_h0) (back := []) (exs := [(.exit 0, [])]) (res := spec_SetGalley_r0) (step := spec_SetGalley_s0) (by kernel_rfl) spec_SetGalley_l0), trivial⟩) spec_SetGalley_e
def impl_between_1_arg : Sh := ⟨[(0, .c (.int .i64)), (1, .c (.rad [] [.int .i64])), (2, .c (.rad [] [.int .i64]))], [], []⟩
def impl_between_1_res : List Sh := [⟨[(0, .c (.bool))], [], []⟩]
noncomputable def impl_between_1 (a0 : Int) (a1_0 : Int) (a2_0 : Int) : Option ((Bool × Unit) × Unit × Unit) :=
 let x1 : Bool := decide (a0 < a1_0);
 br x1
 (some ((true, ()), (), ()))
 (let x2 : Bool := decide (a0 > a2_0);
 some ((x2, ()), (), ()))
noncomputable def impl_between_1_C : Ctr := ⟨77, impl_between_1_arg, impl_between_1_res, fun x => impl_between_1 x.1.1 x.1.2.1.1 x.1.2.2.1.1, none⟩
def impl_between_1_H : Hint := ⟨[], [], [], fun _ => []⟩
noncomputable def impl_between_1_T : List Ctr := []
noncomputable def impl_between_1_Ls : List Lp := []
theorem impl_between_1_e : ∀ x, impl_between_1_C.F x = runBodyW E0 impl_between_1_T impl_between_1_Ls impl_between_1_H 77 Tryd.f77.results.toList (bodyOf Tryd.f77) [] (impl_between_1_arg.mk' x) impl_between_1_res := fun x => by kernel_rfl
theorem impl_between_1_ok : impl_between_1_C.Ok E0 := fn_ok (T := impl_between_1_T) (h := impl_between_1_H) (Ls := impl_between_1_Ls) E0_mixed T_nil Tryd.func77 (bodyOf_some (by kernel_rfl)) (by kernel_rfl) (loops_of (ks := []) (by kernel_rfl) trivial) impl_between_1_e
def IndexFunc_int_impl_between_1_arg : Sh := ⟨[(0, .c (.rd [] .i64)), (1, .c (.fnr 77 [[.int .i64], [.int .i64]]))], [], []⟩
def IndexFunc_int_impl_between_1_res : List Sh := [⟨[(0, .c (.int .i64))], [], []⟩]
noncomputable def IndexFunc_int_impl_between_1_s0 (x : (List Int × ((Int × Unit) × (Int × Unit) × Unit) × Int × Int × Unit) × Unit × Unit) : Option (((List Int × ((Int × Unit) × (Int × Unit) × Unit) × Int × Int × Unit) × Unit × Unit) ⊕ (((Int × Unit) × Unit × Unit) ⊕ (Unit × Unit × Unit))) :=
 let x1 : Bool := decide (x.1.2.2.2.1 < x.1.2.2.1);
 br x1
 (ck (0 ≤ x.1.2.2.2.1)
 (ck (x.1.2.2.2.1.toNat < x.1.1.length)
 (let x2 : Int := x.1.1.getD x.1.2.2.2.1.toNat 0;
 (impl_between_1 x2 x.1.2.1.1.1 x.1.2.1.2.1.1).bind fun r3 =>
 br r3.1.1
 (some (.inr (.inl ((x.1.2.2.2.1, ()), (), ()))))
 (let x4 : Int := w64 (x.1.2.2.2.1 + (1 : Int));
 some (.inl ((x.1.1, ((x.1.2.1.1.1, ()), (x.1.2.1.2.1.1, ()), ()), x.1.2.2.1, x4, ()), (), ()))))))
 (some (.inr (.inr ((), (), ()))))
def IndexFunc_int_impl_between_1_h0 : Sh := ⟨[(0, .c (.rd [] .i64)), (1, .c (.fnr 77 [[.int .i64], [.int .i64]])), (7, .c (.int .i64)), (8, .c (.int .i64))], [], []⟩
def IndexFunc_int_impl_between_1_r0 : List Sh := [⟨[(4, .c (.int .i64))], [], []⟩, ⟨[], [], []⟩]
noncomputable def IndexFunc_int_impl_between_1_L0 : Lp := ⟨0, [], IndexFunc_int_impl_between_1_h0, [], [(.ret, []), (.exit 0, [])], IndexFunc_int_impl_between_1_r0, loopC IndexFunc_int_impl_between_1_s0⟩
noncomputable def IndexFunc_int_impl_between_1 (a0 : List Int) (a1_0_0 : Int) (a1_1_0 : Int) : Option ((Int × Unit) × Unit × Unit) :=
 (loopC IndexFunc_int_impl_between_1_s0 ((a0, ((a1_0_0, ()), (a1_1_0, ()), ()), (a0.length : Int), (0 : Int), ()), (), ())).bind fun r5 =>
 sumK r5 (fun y8 =>
 some ((y8.1.1, ()), (), ())) (fun y9 =>
 some (((-1 : Int), ()), (), ()))
noncomputable def IndexFunc_int_impl_between_1_C : Ctr := ⟨87, IndexFunc_int_impl_between_1_arg, IndexFunc_int_impl_between_1_res, fun x => IndexFunc_int_impl_between_1 x.1.1 x.1.2.1.1.1 x.1.2.1.2.1.1, none⟩
def IndexFunc_int_impl_between_1_H : Hint := ⟨[], [], [], fun _ => []⟩
noncomputable def IndexFunc_int_impl_between_1_T : List Ctr := [impl_between_1_C]
noncomputable def IndexFunc_int_impl_between_1_Ls : List Lp := [IndexFunc_int_impl_between_1_L0]
theorem IndexFunc_int_impl_between_1_l0 : ∀ x, IndexFunc_int_impl_between_1_s0 x = stepW E0 IndexFunc_int_impl_between_1_T IndexFunc_int_impl_between_1_Ls IndexFunc_int_impl_between_1_H (loopAt (bodyOf Tryd.f87) 0) 0 IndexFunc_int_impl_between_1_h0 [] [(.ret, []), (.exit 0, [])] IndexFunc_int_impl_between_1_r0 x := fun x => by kernel_rfl
theorem IndexFunc_int_impl_between_1_e : ∀ x, IndexFunc_int_impl_between_1_C.F x = runBodyW E0 IndexFunc_int_impl_between_1_T IndexFunc_int_impl_between_1_Ls IndexFunc_int_impl_between_1_H 87 Tryd.f87.results.toList (bodyOf Tryd.f87) [] (IndexFunc_int_impl_between_1_arg.mk' x) IndexFunc_int_impl_between_1_res := fun x => by kernel_rfl
theorem IndexFunc_int_impl_between_1_ok : IndexFunc_int_impl_between_1_C.Ok E0 := fn_ok (T := IndexFunc_int_impl_between_1_T) (h := IndexFunc_int_impl_between_1_H) (Ls := IndexFunc_int_impl_between_1_Ls) E0_mixed (T_cons impl_between_1_ok T_nil) Tryd.func87 (bodyOf_some (by kernel_rfl)) (by kernel_rfl) (loops_of (ks := [0]) (by kernel_rfl) ⟨(loop_one (h := IndexFunc_int_impl_between_1_H) (own := []) (head := IndexFunc_int_impl_between_1_h0) (back := []) (exs := [(.ret, []), (.exit 0, [])]) (res := IndexFunc_int_impl_between_1_r0) (step := IndexFunc_int_impl_between_1_s0) (by kernel_rfl) IndexFunc_int_impl_between_1_l0), trivial⟩) IndexFunc_int_impl_between_1_e
def ContainsFunc_int_impl_between_1_arg : Sh := ⟨[(0, .c (.rd [] .i64)), (1, .c (.fnr 77 [[.int .i64], [.int .i64]]))], [], []⟩
def ContainsFunc_int_impl_between_1_res : List Sh := [⟨[(0, .c (.bool))], [], []⟩]
noncomputable def ContainsFunc_int_impl_between_1 (a0 : List Int) (a1_0_0 : Int) (a1_1_0 : Int) : Option ((Bool × Unit) × Unit × Unit) :=
 (IndexFunc_int_impl_between_1 a0 a1_0_0 a1_1_0).bind fun r1 =>
 let x2 : Bool := decide (r1.1.1 ≥ (0 : Int));
 some ((x2, ()), (), ())
noncomputable def ContainsFunc_int_impl_between_1_C : Ctr := ⟨76, ContainsFunc_int_impl_between_1_arg, ContainsFunc_int_impl_between_1_res, fun x => ContainsFunc_int_impl_between_1 x.1.1 x.1.2.1.1.1 x.1.2.1.2.1.1, none⟩
def ContainsFunc_int_impl_between_1_H : Hint := ⟨[], [], [], fun _ => []⟩
noncomputable def ContainsFunc_int_impl_between_1_T : List Ctr := [IndexFunc_int_impl_between_1_C]
noncomputable def ContainsFunc_int_impl_between_1_Ls : List Lp := []
theorem ContainsFunc_int_impl_between_1_e : ∀ x, ContainsFunc_int_impl_between_1_C.F x = runBodyW E0 ContainsFunc_int_impl_between_1_T ContainsFunc_int_impl_between_1_Ls ContainsFunc_int_impl_between_1_H 76 Tryd.f76.results.toList (bodyOf Tryd.f76) [] (ContainsFunc_int_impl_between_1_arg.mk' x) ContainsFunc_int_impl_between_1_res := fun x => by kernel_rfl
theorem ContainsFunc_int_impl_between_1_ok : ContainsFunc_int_impl_between_1_C.Ok E0 := fn_ok (T := ContainsFunc_int_impl_between_1_T) (h := ContainsFunc_int_impl_between_1_H) (Ls := ContainsFunc_int_impl_between_1_Ls) E0_mixed (T_cons IndexFunc_int_impl_between_1_ok T_nil) Tryd.func76 (bodyOf_some (by kernel_rfl)) (by kernel_rfl) (loops_of (ks := []) (by kernel_rfl) trivial) ContainsFunc_int_impl_between_1_e
def impl_between_arg : Sh := ⟨[(0, .c (.rd [] .i64)), (1, .c (.int .i64)), (2, .c (.int .i64))], [], []⟩
def impl_between_res : List Sh := [⟨[(0, .c (.bool))], [], []⟩]
noncomputable def impl_between (a0 : List Int) (a1 : Int) (a2 : Int) : Option ((Bool × Unit) × Unit × Unit) :=
 (ContainsFunc_int_impl_between_1 a0 a1 a2).bind fun r1 =>
 some ((!r1.1.1, ()), (), ())
noncomputable def impl_between_C : Ctr := ⟨60, impl_between_arg, impl_between_res, fun x => impl_between x.1.1 x.1.2.1 x.1.2.2.1, none⟩
def impl_between_H : Hint := ⟨[], [], [], fun _ => []⟩
noncomputable def impl_between_T : List Ctr := [ContainsFunc_int_impl_between_1_C]
noncomputable def impl_between_Ls : List Lp := []
theorem impl_between_e : ∀ x, impl_between_C.F x = runBodyW E0 impl_between_T impl_between_Ls impl_between_H 60 Tryd.f60.results.toList (bodyOf Tryd.f60) [] (impl_between_arg.mk' x) impl_between_res := fun x => by kernel_rfl
theorem impl_between_ok : impl_between_C.Ok E0 := fn_ok (T := impl_between_T) (h := impl_between_H) (Ls := impl_between_Ls) E0_mixed (T_cons ContainsFunc_int_impl_between_1_ok T_nil) Tryd.func60 (bodyOf_some (by kernel_rfl)) (by kernel_rfl) (loops_of (ks := []) (by kernel_rfl) trivial) impl_between_e
def impl_isSet_arg : Sh := ⟨[(0, .c (.int .i64))], [], []⟩
def impl_isSet_res : List Sh := [⟨[(0, .c (.bool))], [], []⟩]
noncomputable def impl_isSet (a0 : Int) : Option ((Bool × Unit) × Unit × Unit) :=
 let x1 : Bool := decide (a0 ≥ (0 : Int));
 br x1
 (let x2 : Bool := decide (a0 ≤ (127 : Int));
 some ((x2, ()), (), ()))
 (some ((false, ()), (), ()))
noncomputable def impl_isSet_C : Ctr := ⟨89, impl_isSet_arg, impl_isSet_res, fun x => impl_isSet x.1.1, none⟩
def impl_isSet_H : Hint := ⟨[], [], [], fun _ => []⟩
noncomputable def impl_isSet_T : List Ctr := []
noncomputable def impl_isSet_Ls : List Lp := []
theorem impl_isSet_e : ∀ x, impl_isSet_C.F x = runBodyW E0 impl_isSet_T impl_isSet_Ls impl_isSet_H 89 Tryd.f89.results.toList (bodyOf Tryd.f89) [] (impl_isSet_arg.mk' x) impl_isSet_res := fun x => by kernel_rfl
theorem impl_isSet_ok : impl_isSet_C.Ok E0 := fn_ok (T := impl_isSet_T) (h := impl_isSet_H) (Ls := impl_isSet_Ls) E0_mixed T_nil Tryd.func89 (bodyOf_some (by kernel_rfl)) (by kernel_rfl) (loops_of (ks := []) (by kernel_rfl) trivial) impl_isSet_e
def impl_IsBar_1_arg : Sh := ⟨[(0, .c (.int .i64))], [], []⟩
def impl_IsBar_1_res : List Sh := [⟨[(0, .c (.bool))], [], []⟩]
noncomputable def impl_IsBar_1 (a0 : Int) : Option ((Bool × Unit) × Unit × Unit) :=
 (impl_isSet a0).bind fun r1 =>
 some ((!r1.1.1, ()), (), ())
noncomputable def impl_IsBar_1_C : Ctr := ⟨88, impl_IsBar_1_arg, impl_IsBar_1_res, fun x => impl_IsBar_1 x.1.1, none⟩
def impl_IsBar_1_H : Hint := ⟨[], [], [], fun _ => []⟩
noncomputable def impl_IsBar_1_T : List Ctr := [impl_isSet_C]
noncomputable def impl_IsBar_1_Ls : List Lp := []
theorem impl_IsBar_1_e : ∀ x, impl_IsBar_1_C.F x = runBodyW E0 impl_IsBar_1_T impl_IsBar_1_Ls impl_IsBar_1_H 88 Tryd.f88.results.toList (bodyOf Tryd.f88) [] (impl_IsBar_1_arg.mk' x) impl_IsBar_1_res := fun x => by kernel_rfl
theorem impl_IsBar_1_ok : impl_IsBar_1_C.Ok E0 := fn_ok (T := impl_IsBar_1_T) (h := impl_IsBar_1_H) (Ls := impl_IsBar_1_Ls) E0_mixed (T_cons impl_isSet_ok T_nil) Tryd.func88 (bodyOf_some (by kernel_rfl)) (by kernel_rfl) (loops_of (ks := []) (by kernel_rfl) trivial) impl_IsBar_1_e
def IndexFunc_int_impl_IsBar_1_arg : Sh := ⟨[(0, .c (.rd [] .i64)), (1, .c (.fnr 88 []))], [], []⟩
def IndexFunc_int_impl_IsBar_1_res : List Sh := [⟨[(0, .c (.int .i64))], [], []⟩]
noncomputable def IndexFunc_int_impl_IsBar_1_s0 (x : (List Int × Unit × Int × Int × Unit) × Unit × Unit) : Option (((List Int × Unit × Int × Int × Unit) × Unit × Unit) ⊕ (((Int × Unit) × Unit × Unit) ⊕ (Unit × Unit × Unit))) :=
 let x1 : Bool := decide (x.1.2.2.2.1 < x.1.2.2.1);
 br x1
 (ck (0 ≤ x.1.2.2.2.1)
 (ck (x.1.2.2.2.1.toNat < x.1.1.length)
 (let x2 : Int := x.1.1.getD x.1.2.2.2.1.toNat 0;
 (impl_IsBar_1 x2).bind fun r3 =>
 br r3.1.1
 (some (.inr (.inl ((x.1.2.2.2.1, ()), (), ()))))
 (let x4 : Int := w64 (x.1.2.2.2.1 + (1 : Int));
 some (.inl ((x.1.1, (), x.1.2.2.1, x4, ()), (), ()))))))
 (some (.inr (.inr ((), (), ()))))
def IndexFunc_int_impl_IsBar_1_h0 : Sh := ⟨[(0, .c (.rd [] .i64)), (1, .c (.fnr 88 [])), (7, .c (.int .i64)), (8, .c (.int .i64))], [], []⟩
def IndexFunc_int_impl_IsBar_1_r0 : List Sh := [⟨[(4, .c (.int .i64))], [], []⟩, ⟨[], [], []⟩]
noncomputable def IndexFunc_int_impl_IsBar_1_L0 : Lp := ⟨0, [], IndexFunc_int_impl_IsBar_1_h0, [], [(.ret, []), (.exit 0, [])], IndexFunc_int_impl_IsBar_1_r0, loopC IndexFunc_int_impl_IsBar_1_s0⟩
noncomputable def IndexFunc_int_impl_IsBar_1 (a0 : List Int) : Option ((Int × Unit) × Unit × Unit) :=
 (loopC IndexFunc_int_impl_IsBar_1_s0 ((a0, (), (a0.length : Int), (0 : Int), ()), (), ())).bind fun r5 =>
 sumK r5 (fun y8 =>
 some ((y8.1.1, ()), (), ())) (fun y9 =>
 some (((-1 : Int), ()), (), ()))
noncomputable def IndexFunc_int_impl_IsBar_1_C : Ctr := ⟨87, IndexFunc_int_impl_IsBar_1_arg, IndexFunc_int_impl_IsBar_1_res, fun x => IndexFunc_int_impl_IsBar_1 x.1.1, none⟩
def IndexFunc_int_impl_IsBar_1_H : Hint := ⟨[], [], [], fun _ => []⟩
noncomputable def IndexFunc_int_impl_IsBar_1_T : List Ctr := [impl_IsBar_1_C]
noncomputable def IndexFunc_int_impl_IsBar_1_Ls : List Lp := [IndexFunc_int_impl_IsBar_1_L0]
theorem IndexFunc_int_impl_IsBar_1_l0 : ∀ x, IndexFunc_int_impl_IsBar_1_s0 x = stepW E0 IndexFunc_int_impl_IsBar_1_T IndexFunc_int_impl_IsBar_1_Ls IndexFunc_int_impl_IsBar_1_H (loopAt (bodyOf Tryd.f87) 0) 0 IndexFunc_int_impl_IsBar_1_h0 [] [(.ret, []), (.exit 0, [])] IndexFunc_int_impl_IsBar_1_r0 x := fun x => by kernel_rfl
theorem IndexFunc_int_impl_IsBar_1_e : ∀ x, IndexFunc_int_impl_IsBar_1_C.F x = runBodyW E0 IndexFunc_int_impl_IsBar_1_T IndexFunc_int_impl_IsBar_1_Ls IndexFunc_int_impl_IsBar_1_H 87 Tryd.f87.results.toList (bodyOf Tryd.f87) [] (IndexFunc_int_impl_IsBar_1_arg.mk' x) IndexFunc_int_impl_IsBar_1_res := fun x => by kernel_rfl
theorem IndexFunc_int_impl_IsBar_1_ok : IndexFunc_int_impl_IsBar_1_C.Ok E0 := fn_ok (T := IndexFunc_int_impl_IsBar_1_T) (h := IndexFunc_int_impl_IsBar_1_H) (Ls := IndexFunc_int_impl_IsBar_1_Ls) E0_mixed (T_cons impl_IsBar_1_ok T_nil) Tryd.func87 (bodyOf_some (by kernel_rfl)) (by kernel_rfl) (loops_of (ks := [0]) (by kernel_rfl) ⟨(loop_one (h := IndexFunc_int_impl_IsBar_1_H) (own := []) (head := IndexFunc_int_impl_IsBar_1_h0) (back := []) (exs := [(.ret, []), (.exit 0, [])]) (res := IndexFunc_int_impl_IsBar_1_r0) (step := IndexFunc_int_impl_IsBar_1_s0) (by kernel_rfl) IndexFunc_int_impl_IsBar_1_l0), trivial⟩) IndexFunc_int_impl_IsBar_1_e
def ContainsFunc_int_impl_IsBar_1_arg : Sh := ⟨[(0, .c (.rd [] .i64)), (1, .c (.fnr 88 []))], [], []⟩
def ContainsFunc_int_impl_IsBar_1_res : List Sh := [⟨[(0, .c (.bool))], [], []⟩]
noncomputable def ContainsFunc_int_impl_IsBar_1 (a0 : List Int) : Option ((Bool × Unit) × Unit × Unit) :=
 (IndexFunc_int_impl_IsBar_1 a0).bind fun r1 =>
 let x2 : Bool := decide (r1.1.1 ≥ (0 : Int));
 some ((x2, ()), (), ())
noncomputable def ContainsFunc_int_impl_IsBar_1_C : Ctr := ⟨76, ContainsFunc_int_impl_IsBar_1_arg, ContainsFunc_int_impl_IsBar_1_res, fun x => ContainsFunc_int_impl_IsBar_1 x.1.1, none⟩
def ContainsFunc_int_impl_IsBar_1_H : Hint := ⟨[], [], [], fun _ => []⟩
noncomputable def ContainsFunc_int_impl_IsBar_1_T : List Ctr := [IndexFunc_int_impl_IsBar_1_C]
noncomputable def ContainsFunc_int_impl_IsBar_1_Ls : List Lp := []
theorem ContainsFunc_int_impl_IsBar_1_e : ∀ x, ContainsFunc_int_impl_IsBar_1_C.F x = runBodyW E0 ContainsFunc_int_impl_IsBar_1_T ContainsFunc_int_impl_IsBar_1_Ls ContainsFunc_int_impl_IsBar_1_H 76 Tryd.f76.results.toList (bodyOf Tryd.f76) [] (ContainsFunc_int_impl_IsBar_1_arg.mk' x) ContainsFunc_int_impl_IsBar_1_res := fun x => by kernel_rfl
theorem ContainsFunc_int_impl_IsBar_1_ok : ContainsFunc_int_impl_IsBar_1_C.Ok E0 := fn_ok (T := ContainsFunc_int_impl_IsBar_1_T) (h := ContainsFunc_int_impl_IsBar_1_H) (Ls := ContainsFunc_int_impl_IsBar_1_Ls) E0_mixed (T_cons IndexFunc_int_impl_IsBar_1_ok T_nil) Tryd.func76 (bodyOf_some (by kernel_rfl)) (by kernel_rfl) (loops_of (ks := []) (by kernel_rfl) trivial) ContainsFunc_int_impl_IsBar_1_e
def impl_IsBar_arg : Sh := ⟨[(0, .c (.rd [] .i64))], [], []⟩
def impl_IsBar_res : List Sh := [⟨[(0, .c (.bool))], [], []⟩]
noncomputable def impl_IsBar (a0 : List Int) : Option ((Bool × Unit) × Unit × Unit) :=
 let x1 : Bool := decide ((a0.length : Int) ≥ (1 : Int));
 br x1
 (let x2 : Bool := decide ((a0.length : Int) ≤ (40 : Int));
 br x2
 ((ContainsFunc_int_impl_IsBar_1 a0).bind fun r3 =>
 some ((!r3.1.1, ()), (), ()))
 (some ((false, ()), (), ())))
 (some ((false, ()), (), ()))
noncomputable def impl_IsBar_C : Ctr := ⟨78, impl_IsBar_arg, impl_IsBar_res, fun x => impl_IsBar x.1.1, none⟩
def impl_IsBar_H : Hint := ⟨[], [], [], fun _ => []⟩
noncomputable def impl_IsBar_T : List Ctr := [ContainsFunc_int_impl_IsBar_1_C]
noncomputable def impl_IsBar_Ls : List Lp := []
theorem impl_IsBar_e : ∀ x, impl_IsBar_C.F x = runBodyW E0 impl_IsBar_T impl_IsBar_Ls impl_IsBar_H 78 Tryd.f78.results.toList (bodyOf Tryd.f78) [] (impl_IsBar_arg.mk' x) impl_IsBar_res := fun x => by kernel_rfl
theorem impl_IsBar_ok : impl_IsBar_C.Ok E0 := fn_ok (T := impl_IsBar_T) (h := impl_IsBar_H) (Ls := impl_IsBar_Ls) E0_mixed (T_cons ContainsFunc_int_impl_IsBar_1_ok T_nil) Tryd.func78 (bodyOf_some (by kernel_rfl)) (by kernel_rfl) (loops_of (ks := []) (by kernel_rfl) trivial) impl_IsBar_e
def impl_part_arg : Sh := ⟨[(0, .c (.int .i64)), (1, .c (.int .i64))], [], []⟩
def impl_part_res : List Sh := [⟨[(0, .c (.bool))], [], []⟩]
noncomputable def impl_part (a0 : Int) (a1 : Int) : Option ((Bool × Unit) × Unit × Unit) :=
 let x1 : Int := bAndNot .i64 a0 a1;
 let x2 : Bool := x1 == (0 : Int);
 some ((x2, ()), (), ())
noncomputable def impl_part_C : Ctr := ⟨90, impl_part_arg, impl_part_res, fun x => impl_part x.1.1 x.1.2.1, none⟩
def impl_part_H : Hint := ⟨[], [], [], fun _ => []⟩
noncomputable def impl_part_T : List Ctr := []
noncomputable def impl_part_Ls : List Lp := []
theorem impl_part_e : ∀ x, impl_part_C.F x = runBodyW E0 impl_part_T impl_part_Ls impl_part_H 90 Tryd.f90.results.toList (bodyOf Tryd.f90) [] (impl_part_arg.mk' x) impl_part_res := fun x => by kernel_rfl
theorem impl_part_ok : impl_part_C.Ok E0 := fn_ok (T := impl_part_T) (h := impl_part_H) (Ls := impl_part_Ls) E0_mixed T_nil Tryd.func90 (bodyOf_some (by kernel_rfl)) (by kernel_rfl) (loops_of (ks := []) (by kernel_rfl) trivial) impl_part_e
def impl_fall_arg : Sh := ⟨[(0, .c (.rd [] .i64)), (1, .c (.int .i64))], [], []⟩
def impl_fall_res : List Sh := [⟨[(0, .c (.int .i64))], [], []⟩]
noncomputable def impl_fall_s0 (x : (List Int × Int × List Int × Int × Int × Unit) × Unit × Unit) : Option (((List Int × Int × List Int × Int × Int × Unit) × Unit × Unit) ⊕ (((Int × Unit) × Unit × Unit) ⊕ ((List Int × Unit) × Unit × Unit))) :=
 let x1 : Bool := decide (x.1.2.2.2.2.1 < x.1.2.2.2.1);
 br x1
 (ck (0 ≤ x.1.2.2.2.2.1)
 (ck (x.1.2.2.2.2.1.toNat < x.1.2.2.1.length)
 (let x2 : Int := x.1.2.2.1.getD x.1.2.2.2.2.1.toNat 0;
 (impl_part x.1.2.1 x2).bind fun r3 =>
 br r3.1.1
 (some (.inr (.inl ((x.1.2.2.2.2.1, ()), (), ()))))
 (let x4 : Int := w64 (x.1.2.2.2.2.1 + (1 : Int));
 some (.inl ((x.1.1, x.1.2.1, x.1.2.2.1, x.1.2.2.2.1, x4, ()), (), ()))))))
 (some (.inr (.inr ((x.1.1, ()), (), ()))))
def impl_fall_h0 : Sh := ⟨[(0, .c (.rd [] .i64)), (1, .c (.int .i64)), (7, .c (.rd [] .i64)), (8, .c (.int .i64)), (9, .c (.int .i64))], [], []⟩
def impl_fall_r0 : List Sh := [⟨[(4, .c (.int .i64))], [], []⟩, ⟨[(0, .c (.rd [] .i64))], [], []⟩]
noncomputable def impl_fall_L0 : Lp := ⟨0, [], impl_fall_h0, [], [(.ret, []), (.exit 0, [])], impl_fall_r0, loopC impl_fall_s0⟩
noncomputable def impl_fall (a0 : List Int) (a1 : Int) : Option ((Int × Unit) × Unit × Unit) :=
 (loopC impl_fall_s0 ((a0, a1, a0, (a0.length : Int), (0 : Int), ()), (), ())).bind fun r5 =>
 sumK r5 (fun y8 =>
 some ((y8.1.1, ()), (), ())) (fun y9 =>
 some (((y9.1.1.length : Int), ()), (), ()))
noncomputable def impl_fall_C : Ctr := ⟨79, impl_fall_arg, impl_fall_res, fun x => impl_fall x.1.1 x.1.2.1, none⟩
def impl_fall_H : Hint := ⟨[], [], [], fun _ => []⟩
noncomputable def impl_fall_T : List Ctr := [impl_part_C]
noncomputable def impl_fall_Ls : List Lp := [impl_fall_L0]
theorem impl_fall_l0 : ∀ x, impl_fall_s0 x = stepW E0 impl_fall_T impl_fall_Ls impl_fall_H (loopAt (bodyOf Tryd.f79) 0) 0 impl_fall_h0 [] [(.ret, []), (.exit 0, [])] impl_fall_r0 x := fun x => by kernel_rfl
theorem impl_fall_e : ∀ x, impl_fall_C.F x = runBodyW E0 impl_fall_T impl_fall_Ls impl_fall_H 79 Tryd.f79.results.toList (bodyOf Tryd.f79) [] (impl_fall_arg.mk' x) impl_fall_res := fun x => by kernel_rfl
theorem impl_fall_ok : impl_fall_C.Ok E0 := fn_ok (T := impl_fall_T) (h := impl_fall_H) (Ls := impl_fall_Ls) E0_mixed (T_cons impl_part_ok T_nil) Tryd.func79 (bodyOf_some (by kernel_rfl)) (by kernel_rfl) (loops_of (ks := [0]) (by kernel_rfl) ⟨(loop_one (h := impl_fall_H) (own := []) (head := impl_fall_h0) (back := []) (exs := [(.ret, []), (.exit 0, [])]) (res := impl_fall_r0) (step := impl_fall_s0) (by kernel_rfl) impl_fall_l0), trivial⟩) impl_fall_e
def impl_SortsAll_arg : Sh := ⟨[(0, .c (.rd [] .i64))], [], []⟩
def impl_SortsAll_res : List Sh := [⟨[(0, .c (.bool))], [], []⟩]
noncomputable def impl_SortsAll_s0 (x : (List Int × List Int × Int × Int × Unit) × Unit × Unit) : Option (((List Int × List Int × Int × Int × Unit) × Unit × Unit) ⊕ (((Bool × Unit) × Unit × Unit) ⊕ (Unit × Unit × Unit))) :=
 let x2 : Bool := decide (x.1.2.2.2.1 < x.1.2.2.1);
 br x2
 (ck (0 ≤ x.1.2.2.2.1)
 (ck (x.1.2.2.2.1.toNat < x.1.2.1.length)
 (let x3 : Int := x.1.2.1.getD x.1.2.2.2.1.toNat 0;
 (impl_fall x.1.1 x3).bind fun r4 =>
 let x5 : Bool := r4.1.1 != x.1.2.2.2.1;
 br x5
 (some (.inr (.inl ((false, ()), (), ()))))
 (let x6 : Int := w64 (x.1.2.2.2.1 + (1 : Int));
 some (.inl ((x.1.1, x.1.2.1, x.1.2.2.1, x6, ()), (), ()))))))
 (some (.inr (.inr ((), (), ()))))
def impl_SortsAll_h0 : Sh := ⟨[(0, .c (.rd [] .i64)), (8, .c (.rd [] .i64)), (9, .c (.int .i64)), (10, .c (.int .i64))], [], []⟩
def impl_SortsAll_r0 : List Sh := [⟨[(2, .c (.bool))], [], []⟩, ⟨[], [], []⟩]
noncomputable def impl_SortsAll_L0 : Lp := ⟨0, [], impl_SortsAll_h0, [], [(.ret, []), (.exit 0, [])], impl_SortsAll_r0, loopC impl_SortsAll_s0⟩
noncomputable def impl_SortsAll (a0 : List Int) : Option ((Bool × Unit) × Unit × Unit) :=
 (impl_IsBar a0).bind fun r1 =>
 br (!r1.1.1)
 (some ((false, ()), (), ()))
 ((loopC impl_SortsAll_s0 ((a0, a0, (a0.length : Int), (0 : Int), ()), (), ())).bind fun r7 =>
 sumK r7 (fun y10 =>
 some ((y10.1.1, ()), (), ())) (fun y11 =>
 some ((true, ()), (), ())))
noncomputable def impl_SortsAll_C : Ctr := ⟨61, impl_SortsAll_arg, impl_SortsAll_res, fun x => impl_SortsAll x.1.1, none⟩
def impl_SortsAll_H : Hint := ⟨[], [], [], fun _ => []⟩
noncomputable def impl_SortsAll_T : List Ctr := [impl_IsBar_C, impl_fall_C]
noncomputable def impl_SortsAll_Ls : List Lp := [impl_SortsAll_L0]
theorem impl_SortsAll_l0 : ∀ x, impl_SortsAll_s0 x = stepW E0 impl_SortsAll_T impl_SortsAll_Ls impl_SortsAll_H (loopAt (bodyOf Tryd.f61) 0) 0 impl_SortsAll_h0 [] [(.ret, []), (.exit 0, [])] impl_SortsAll_r0 x := fun x => by kernel_rfl
theorem impl_SortsAll_e : ∀ x, impl_SortsAll_C.F x = runBodyW E0 impl_SortsAll_T impl_SortsAll_Ls impl_SortsAll_H 61 Tryd.f61.results.toList (bodyOf Tryd.f61) [] (impl_SortsAll_arg.mk' x) impl_SortsAll_res := fun x => by kernel_rfl
theorem impl_SortsAll_ok : impl_SortsAll_C.Ok E0 := fn_ok (T := impl_SortsAll_T) (h := impl_SortsAll_H) (Ls := impl_SortsAll_Ls) E0_mixed (T_cons impl_IsBar_ok (T_cons impl_fall_ok T_nil)) Tryd.func61 (bodyOf_some (by kernel_rfl)) (by kernel_rfl) (loops_of (ks := [0]) (by kernel_rfl) ⟨(loop_one (h := impl_SortsAll_H) (own := []) (head := impl_SortsAll_h0) (back := []) (exs := [(.ret, []), (.exit 0, [])]) (res := impl_SortsAll_r0) (step := impl_SortsAll_s0) (by kernel_rfl) impl_SortsAll_l0), trivial⟩) impl_SortsAll_e
def impl_FontOk_arg : Sh := ⟨[(0, .agg [.str, .rd [] .i64, .rd [] .i64])], [], []⟩
def impl_FontOk_res : List Sh := [⟨[(0, .c (.bool))], [], []⟩]
noncomputable def impl_FontOk_s0 (x : (Unit × Unit × Int × Int × Unit) × ((ByteArray × List Int × List Int × Unit) × List Bool × Unit) × Unit) : Option (((Unit × Unit × Int × Int × Unit) × ((ByteArray × List Int × List Int × Unit) × List Bool × Unit) × Unit) ⊕ (((Bool × Unit) × Unit × Unit) ⊕ ((Unit × Unit) × ((ByteArray × List Int × List Int × Unit) × Unit) × Unit))) :=
 let x5 : Bool := decide (x.1.2.2.2.1 < x.1.2.2.1);
 br x5
 (ck (0 ≤ x.1.2.2.2.1 ∧ x.1.2.2.2.1.toNat < x.2.1.1.1.size)
 (let x6 : Int := byteAt x.2.1.1.1 x.1.2.2.2.1.toNat;
 let x7 : Bool := decide (x6 < (33 : Int));
 br x7
 (some (.inr (.inl ((false, ()), (), ()))))
 (let x8 : Bool := decide (x6 > (126 : Int));
 br x8
 (some (.inr (.inl ((false, ()), (), ()))))
 (ck (0 ≤ x6)
 (ck (x6.toNat < 256)
 (ck (x6.toNat < x.2.1.2.1.length)
 (let x9 : Bool := x.2.1.2.1.getD x6.toNat false;
 br x9
 (some (.inr (.inl ((false, ()), (), ()))))
 (ck (0 ≤ x6)
 (ck (x6.toNat < 256)
 (ck (x6.toNat < x.2.1.2.1.length)
 (let x10 : List Bool := x.2.1.2.1.set x6.toNat true;
 let x11 : Int := w64 (x.1.2.2.2.1 + (1 : Int));
 some (.inl (((), (), x.1.2.2.1, x11, ()), ((x.2.1.1.1, x.2.1.1.2.1, x.2.1.1.2.2.1, ()), x10, ()), ())))))))))))))
 (some (.inr (.inr (((), ()), ((x.2.1.1.1, x.2.1.1.2.1, x.2.1.1.2.2.1, ()), ()), ()))))
def impl_FontOk_h0 : Sh := ⟨[(1, .c (.box 0 0)), (3, .c (.box 1 0)), (36, .c (.int .i64)), (37, .c (.int .i64))], [(0, .cells [.str, .rd [] .i64, .rd [] .i64]), (1, .arr)], []⟩
def impl_FontOk_r0 : List Sh := [⟨[(2, .c (.bool))], [], []⟩, ⟨[(1, .c (.box 0 0))], [(0, .cells [.str, .rd [] .i64, .rd [] .i64])], []⟩]
noncomputable def impl_FontOk_L0 : Lp := ⟨0, [], impl_FontOk_h0, [], [(.ret, []), (.exit 0, [])], impl_FontOk_r0, loopC impl_FontOk_s0⟩
noncomputable def impl_FontOk (a0_0 : ByteArray) (a0_1 : List Int) (a0_2 : List Int) : Option ((Bool × Unit) × Unit × Unit) :=
 let x1 : Bool := decide ((a0_0.size : Int) < (1 : Int));
 br x1
 (some ((false, ()), (), ()))
 (let x2 : Bool := decide ((a0_0.size : Int) > (40 : Int));
 br x2
 (some ((false, ()), (), ()))
 (let x3 : Bool := (a0_1.length : Int) != (a0_0.size : Int);
 br x3
 (some ((false, ()), (), ()))
 (let x4 : Bool := (a0_2.length : Int) != (a0_0.size : Int);
 br x4
 (some ((false, ()), (), ()))
 ((loopC impl_FontOk_s0 (((), (), (a0_0.size : Int), (0 : Int), ()), ((a0_0, a0_1, a0_2, ()), (List.replicate 256 false), ()), ())).bind fun r12 =>
 sumK r12 (fun y15 =>
 some ((y15.1.1, ()), (), ())) (fun y16 =>
 (impl_between y16.2.1.1.2.1 (1 : Int) (60 : Int)).bind fun r17 =>
 br r17.1.1
 ((impl_SortsAll y16.2.1.1.2.2.1).bind fun r18 =>
 some ((r18.1.1, ()), (), ()))
 (some ((false, ()), (), ())))))))
noncomputable def impl_FontOk_C : Ctr := ⟨43, impl_FontOk_arg, impl_FontOk_res, fun x => impl_FontOk x.1.1.1 x.1.1.2.1 x.1.1.2.2.1, none⟩
def impl_FontOk_H : Hint := ⟨[], [], [], fun _ => []⟩
noncomputable def impl_FontOk_T : List Ctr := [impl_between_C, impl_SortsAll_C]
noncomputable def impl_FontOk_Ls : List Lp := [impl_FontOk_L0]
theorem impl_FontOk_l0 : ∀ x, impl_FontOk_s0 x = stepW E0 impl_FontOk_T impl_FontOk_Ls impl_FontOk_H (loopAt (bodyOf Tryd.f43) 0) 0 impl_FontOk_h0 [] [(.ret, []), (.exit 0, [])] impl_FontOk_r0 x := fun x => by kernel_rfl
theorem impl_FontOk_e : ∀ x, impl_FontOk_C.F x = runBodyW E0 impl_FontOk_T impl_FontOk_Ls impl_FontOk_H 43 Tryd.f43.results.toList (bodyOf Tryd.f43) [] (impl_FontOk_arg.mk' x) impl_FontOk_res := fun x => by kernel_rfl
theorem impl_FontOk_ok : impl_FontOk_C.Ok E0 := fn_ok (T := impl_FontOk_T) (h := impl_FontOk_H) (Ls := impl_FontOk_Ls) E0_mixed (T_cons impl_between_ok (T_cons impl_SortsAll_ok T_nil)) Tryd.func43 (bodyOf_some (by kernel_rfl)) (by kernel_rfl) (loops_of (ks := [0]) (by kernel_rfl) ⟨(loop_one (h := impl_FontOk_H) (own := []) (head := impl_FontOk_h0) (back := []) (exs := [(.ret, []), (.exit 0, [])]) (res := impl_FontOk_r0) (step := impl_FontOk_s0) (by kernel_rfl) impl_FontOk_l0), trivial⟩) impl_FontOk_e
def impl_wordsOf_arg : Sh := ⟨[(0, .c (.str))], [], []⟩
def impl_wordsOf_res : List Sh := [⟨[(0, .c (.own 0))], [], [(0, .str)]⟩]
def impl_wordsOf (s : ByteArray) : Option ((Unit × Unit) × Unit × (List ByteArray × Unit)) := wordsF s
noncomputable def impl_wordsOf_C : Ctr := ⟨28, impl_wordsOf_arg, impl_wordsOf_res, fun x => impl_wordsOf x.1.1, some 1⟩
end Go.Tree
namespace Go.Proofs
section
open Go Go.Shelf Go.RowKit Go.Lib Go.Tree Go.Sort
def Tryd.lays146_ren : Go.Shelf.Ren := ⟨fun | 146 => 48 | 221 => 69 | 268 => 80 | 138 => 81 | 143 => 82 | 195 => 91 | 197 => 92 | 218 => 93 | 219 => 94 | 260 => 95 | 217 => 96 | 225 => 97 | 224 => 98 | 267 => 99 | 266 => 100 | 314 => 101 | n => n, fun | 9 => 9 | 31 => 28 | 3 => 3 | 4 => 4 | 0 => 0 | 105 => 102 | 21 => 21 | 5 => 5 | 46 => 106 | 119 => 107 | 139 => 110 | 138 => 109 | 146 => 112 | 51 => 111 | n => n, fun | 1 => 0 | 3 => 1 | 4 => 2 | n => n⟩
theorem Tryd.lays146 : Go.Proofs.Lays.n146 Tryd.prog Tryd.lays146_ren := {
  mixed := by kernel_rfl
  f138 := Tryd.func81.trans (congrArg some (by kernel_rfl))
  f143 := Tryd.func82.trans (congrArg some (by kernel_rfl))
  f146 := Tryd.func48.trans (congrArg some (by kernel_rfl))
  f195 := Tryd.func91.trans (congrArg some (by kernel_rfl))
  f197 := Tryd.func92.trans (congrArg some (by kernel_rfl))
  f217 := Tryd.func96.trans (congrArg some (by kernel_rfl))
  f218 := Tryd.func93.trans (congrArg some (by kernel_rfl))
  f219 := Tryd.func94.trans (congrArg some (by kernel_rfl))
  f221 := Tryd.func69.trans (congrArg some (by kernel_rfl))
  f224 := Tryd.func98.trans (congrArg some (by kernel_rfl))
  f225 := Tryd.func97.trans (congrArg some (by kernel_rfl))
  f260 := Tryd.func95.trans (congrArg some (by kernel_rfl))
  f266 := Tryd.func100.trans (congrArg some (by kernel_rfl))
  f267 := Tryd.func99.trans (congrArg some (by kernel_rfl))
  f268 := Tryd.func80.trans (congrArg some (by kernel_rfl))
  f314 := Tryd.func101.trans (congrArg some (by kernel_rfl))
  t0 := Tryd.underlying0
  a0 := Tryd.isAgg0
  z0 := Tryd.sizeOf0
  v0 := Tryd.zeroValue0
  t3 := Tryd.underlying3
  a3 := Tryd.isAgg3
  z3 := Tryd.sizeOf3
  v3 := Tryd.zeroValue3
  t4 := Tryd.underlying4
  a4 := Tryd.isAgg4
  z4 := Tryd.sizeOf4
  v4 := Tryd.zeroValue4
  t5 := Tryd.underlying5
  a5 := Tryd.isAgg5
  z5 := Tryd.sizeOf5
  v5 := Tryd.zeroValue5
  t9 := Tryd.underlying9
  a9 := Tryd.isAgg9
  z9 := Tryd.sizeOf9
  v9 := Tryd.zeroValue9
  t21 := Tryd.underlying21
  a21 := Tryd.isAgg21
  z21 := Tryd.sizeOf21
  v21 := Tryd.zeroValue21
  t31 := Tryd.underlying28
  a31 := Tryd.isAgg28
  z31 := Tryd.sizeOf28
  v31 := Tryd.zeroValue28
  t46 := Tryd.underlying106
  a46 := Tryd.isAgg106
  z46 := Tryd.sizeOf106
  v46 := Tryd.zeroValue106
  t51 := Tryd.underlying111
  a51 := Tryd.isAgg111
  z51 := Tryd.sizeOf111
  v51 := Tryd.zeroValue111
  t105 := Tryd.underlying102
  a105 := Tryd.isAgg102
  z105 := Tryd.sizeOf102
  v105 := Tryd.zeroValue102
  t119 := Tryd.underlying107
  a119 := Tryd.isAgg107
  z119 := Tryd.sizeOf107
  t138 := Tryd.underlying109
  a138 := Tryd.isAgg109
  z138 := Tryd.sizeOf109
  v138 := Tryd.zeroValue109
  t139 := Tryd.underlying110
  a139 := Tryd.isAgg110
  z139 := Tryd.sizeOf110
  v139 := Tryd.zeroValue110
  t146 := Tryd.underlying112
  a146 := Tryd.isAgg112
  z146 := Tryd.sizeOf112
  v146 := Tryd.zeroValue112
  g1 := by kernel_rfl
  g3 := by kernel_rfl
  g4 := by kernel_rfl }
theorem Tryd.strings_Split (s sep : ByteArray) (m : Int) (w : World) (hs : s.size < 4294967281) (hm : w.cell? ⟨0, 0, none⟩ = some (.int .i64 m)) (h1 : 1 ≤ sep.size) :
    Calls Tryd.prog 48 #[.string s, .string sep] w fun e w' =>
      e = .returned (.slice (some ⟨w.heap.size, 0, none⟩) (Lib.countB s sep + 1) (Lib.countB s sep + 1)) ∧ w' = w.alloc (.cells ((Lib.splitB sep 0 (Lib.countB s sep) s).map Value.string).toArray 9) := Any.strings_Split Tryd.lays146 (by kernel_rfl) s sep m w hs hm h1
def Tryd.laysSlH10_f47_ren : Go.Shelf.Ren := ⟨fun | 10 => 47 | 6 => 68 | n => n, fun | 22 => 28 | 23 => 9 | 25 => 65 | 3 => 3 | 4 => 4 | 0 => 0 | n => n, fun | n => n⟩
theorem Tryd.laysSlH10_f47 : Go.Proofs.SlLaysH.n10 Tryd.prog Tryd.laysSlH10_f47_ren := {
  mixed := by kernel_rfl
  f6 := ⟨Tryd.f68.name, by decide, Tryd.func68.trans (congrArg some (by kernel_rfl))⟩
  f10 := ⟨Tryd.f47.name, by decide, Tryd.func47.trans (congrArg some (by kernel_rfl))⟩
  t0 := Tryd.underlying0
  a0 := Tryd.isAgg0
  z0 := Tryd.sizeOf0
  v0 := Tryd.zeroValue0
  t3 := Tryd.underlying3
  a3 := Tryd.isAgg3
  z3 := Tryd.sizeOf3
  v3 := Tryd.zeroValue3
  t4 := Tryd.underlying4
  a4 := Tryd.isAgg4
  z4 := Tryd.sizeOf4
  v4 := Tryd.zeroValue4
  t22 := Tryd.underlying28
  a22 := Tryd.isAgg28
  z22 := Tryd.sizeOf28
  v22 := Tryd.zeroValue28
  a23 := Tryd.isAgg9
  z23 := Tryd.sizeOf9
  t25 := Tryd.underlying65
  a25 := Tryd.isAgg65
  z25 := Tryd.sizeOf65
  v25 := Tryd.zeroValue65 }
theorem Tryd.slices_DeleteFunc {α : Type} [Inhabited α] (enc : α → Value) (hO : OneCell enc) (p : α → Bool) (g : Nat) (lb : Array Value) (eg : ∀ args w, (callFunc g args).run Tryd.prog w = .ok (.enter g args) w) (zr : α) (v23 : ∀ w, (zeroValue 9).run Tryd.prog w = .ok (enc zr) w) (blk off cap : Nat) (d : Array α) (w : World) (hp : PredAt Tryd.prog g lb enc p w) (hpo : PredOver Tryd.prog g lb enc p blk off d.size w) (hH : Holds enc w blk off d) (hsz : d.size ≤ 9223372036854775807) (hcap : d.size ≤ cap) :
    Calls Tryd.prog 47 #[.slice (some ⟨blk, off, none⟩) d.size cap, .func (.func g) #[] lb] w fun e w' => e = .returned (.slice (some ⟨blk, off, none⟩) (d.toList.filter fun x => !p x).length cap) ∧ ∃ q, w' = putRow enc (Sort.ahead w q) blk off ((d.toList.filter fun x => !p x) ++ List.replicate (d.size - (d.toList.filter fun x => !p x).length) zr).toArray := AnyE.slices_DeleteFunc Tryd.laysSlH10_f47 enc hO p g lb eg zr v23 blk off cap d w hp hpo hH hsz hcap
theorem impl_wordsOf_gives (x : ByteArray) (W : World) : FnGives Tryd.prog 49 #[] #[.string x] (.bool x.data.toList.isEmpty) W := by
  show Calls Tryd.prog 49 #[.string x] W _
  have t9 := Tryd.underlying9; have a9 := Tryd.isAgg9; have z9 := Tryd.sizeOf9; have v9 := Tryd.zeroValue9
  have t4 := Tryd.underlying4; have a4 := Tryd.isAgg4; have z4 := Tryd.sizeOf4; have v4 := Tryd.zeroValue4
  go_enter Tryd.func49, Tryd.ntmps49
  go_wp2
  all_goals (go_ret; exact ⟨by simp [Lib.toList_data], 0, rfl⟩)
set_option maxRecDepth 100000 in
theorem impl_wordsOf_walk (s : ByteArray) (m : Int) (w : World) (hs : s.size < 4294967281) (hm : w.cell? ⟨0, 0, none⟩ = some (.int .i64 m)) :
    Calls Tryd.prog 28 #[.string s] w fun e w' => e = .returned (.slice (some ⟨w.heap.size, 0, none⟩) (wordsB s).length (cutB s).length) ∧
      ∃ q, w' = putRow Value.string (Sort.ahead (w.alloc (.cells ((cutB s).map Value.string).toArray 9)) q) w.heap.size 0 (wordsB s ++ List.replicate ((cutB s).length - (wordsB s).length) ByteArray.empty).toArray := by
  have hS := Tryd.strings_Split s sp32 m w hs hm (by decide)
  have hl := cutB_len s
  have hW := wordsB_split s
  have hle := wordsB_len s
  have hbig := Lib.countB_le sp32 (by decide) s.size s (Nat.le_refl _)
  obtain ⟨c, hc⟩ : ∃ c, Lib.countB s sp32 + 1 = c := ⟨_, rfl⟩
  rw [show Lib.splitB sp32 0 (Lib.countB s sp32) s = cutB s from rfl, hc] at hS
  rw [hc] at hl
  have hc2 : c ≤ 4294967281 := by omega
  clear hc hbig
  obtain ⟨L, hL⟩ : ∃ L, cutB s = L := ⟨_, rfl⟩
  obtain ⟨Y, hY⟩ : ∃ Y, wordsB s = Y := ⟨_, rfl⟩
  rw [hL] at hS hl hW hle ⊢
  rw [hY] at hW hle ⊢
  clear hL hY
  subst hl
  have eg : ∀ args w, (callFunc 49 args).run Tryd.prog w = .ok (.enter 49 args) w := enters_of Tryd.func49 (by kernel_rfl) rfl
  have hH := holds_alloc w L 9
  have hcon := Tryd.slices_DeleteFunc Value.string (fun _ => rfl) (fun x => x.data.toList.isEmpty) 49 #[] eg ByteArray.empty Tryd.zeroValue9 w.heap.size 0 L.length L.toArray (w.alloc (.cells (L.map Value.string).toArray 9))
    (fun W x _ => impl_wordsOf_gives x W) (fun n os dk x _ => impl_wordsOf_gives x _) hH (by rw [List.size_toArray]; omega) (by rw [List.size_toArray]; exact Nat.le_refl _)
  rw [show L.toArray.toList = L from rfl, hW, List.size_toArray] at hcon
  clear hH hW
  have t46 := Tryd.underlying28; have a46 := Tryd.isAgg28; have z46 := Tryd.sizeOf28; have v46 := Tryd.zeroValue28
  have t9 := Tryd.underlying9; have a9 := Tryd.isAgg9; have z9 := Tryd.sizeOf9; have v9 := Tryd.zeroValue9
  have mixed : Tryd.prog.follows .mixedOrders = true := by kernel_rfl
  have eS : ∀ args w, (callFunc 48 args).run Tryd.prog w = .ok (.enter 48 args) w := enters_of Tryd.func48 (by kernel_rfl) rfl
  have eD : ∀ args w, (callFunc 47 args).run Tryd.prog w = .ok (.enter 47 args) w := enters_of Tryd.func47 (by kernel_rfl) rfl
  go_enter Tryd.func28, Tryd.ntmps28
  go_wp2_with (go_at_fn 48; refine hS.mono ?_; rintro e w' ⟨rfl, hw⟩; rw [hw])
  go_wp2_with (go_at_fn 47; refine hcon.mono ?_; rintro e w' ⟨rfl, q, hq⟩; rw [hq])
  go_ret
  exact ⟨rfl, q, rfl⟩
end
end Go.Proofs
namespace Go.Tree
open Go Go.Proofs
set_option linter.unusedVariables false
set_option maxRecDepth 100000
theorem impl_wordsOf_ok : impl_wordsOf_C.Ok E0 := words_ok (E := E0) (by kernel_rfl) (by kernel_rfl) 0 (fun _ h => h.1) 9 Go.Proofs.impl_wordsOf_walk
def impl_key_arg : Sh := ⟨[(0, .agg [.str, .rd [] .i64, .rd [] .i64]), (1, .c (.int .i64))], [], []⟩
def impl_key_res : List Sh := [⟨[(0, .c (.int .i64))], [], []⟩]
noncomputable def impl_key_s0 (x : (Int × Unit × Int × Int × Unit) × ((ByteArray × List Int × List Int × Unit) × Unit) × Unit) : Option (((Int × Unit × Int × Int × Unit) × ((ByteArray × List Int × List Int × Unit) × Unit) × Unit) ⊕ (((Int × Unit) × Unit × Unit) ⊕ (Unit × Unit × Unit))) :=
 let x1 : Bool := decide (x.1.2.2.2.1 < x.1.2.2.1);
 br x1
 (ck (0 ≤ x.1.2.2.2.1 ∧ x.1.2.2.2.1.toNat < x.2.1.1.1.size)
 (let x2 : Int := byteAt x.2.1.1.1 x.1.2.2.2.1.toNat;
 let x3 : Int := w64 x2;
 let x4 : Bool := x3 == x.1.1;
 br x4
 (some (.inr (.inl ((x.1.2.2.2.1, ()), (), ()))))
 (let x5 : Int := w64 (x.1.2.2.2.1 + (1 : Int));
 some (.inl ((x.1.1, (), x.1.2.2.1, x5, ()), ((x.2.1.1.1, x.2.1.1.2.1, x.2.1.1.2.2.1, ()), ()), ())))))
 (some (.inr (.inr ((), (), ()))))
def impl_key_h0 : Sh := ⟨[(1, .c (.int .i64)), (2, .c (.box 0 0)), (8, .c (.int .i64)), (9, .c (.int .i64))], [(0, .cells [.str, .rd [] .i64, .rd [] .i64])], []⟩
def impl_key_r0 : List Sh := [⟨[(4, .c (.int .i64))], [], []⟩, ⟨[], [], []⟩]
noncomputable def impl_key_L0 : Lp := ⟨0, [], impl_key_h0, [], [(.ret, []), (.exit 0, [])], impl_key_r0, loopC impl_key_s0⟩
noncomputable def impl_key (a0_0 : ByteArray) (a0_1 : List Int) (a0_2 : List Int) (a1 : Int) : Option ((Int × Unit) × Unit × Unit) :=
 (loopC impl_key_s0 ((a1, (), (a0_0.size : Int), (0 : Int), ()), ((a0_0, a0_1, a0_2, ()), ()), ())).bind fun r6 =>
 sumK r6 (fun y9 =>
 some ((y9.1.1, ()), (), ())) (fun y10 =>
 some (((-1 : Int), ()), (), ()))
noncomputable def impl_key_C : Ctr := ⟨62, impl_key_arg, impl_key_res, fun x => impl_key x.1.1.1 x.1.1.2.1 x.1.1.2.2.1 x.1.2.1, none⟩
def impl_key_H : Hint := ⟨[], [], [], fun _ => []⟩
noncomputable def impl_key_T : List Ctr := []
noncomputable def impl_key_Ls : List Lp := [impl_key_L0]
theorem impl_key_l0 : ∀ x, impl_key_s0 x = stepW E0 impl_key_T impl_key_Ls impl_key_H (loopAt (bodyOf Tryd.f62) 0) 0 impl_key_h0 [] [(.ret, []), (.exit 0, [])] impl_key_r0 x := fun x => by kernel_rfl
theorem impl_key_e : ∀ x, impl_key_C.F x = runBodyW E0 impl_key_T impl_key_Ls impl_key_H 62 Tryd.f62.results.toList (bodyOf Tryd.f62) [] (impl_key_arg.mk' x) impl_key_res := fun x => by kernel_rfl
theorem impl_key_ok : impl_key_C.Ok E0 := fn_ok (T := impl_key_T) (h := impl_key_H) (Ls := impl_key_Ls) E0_mixed T_nil Tryd.func62 (bodyOf_some (by kernel_rfl)) (by kernel_rfl) (loops_of (ks := [0]) (by kernel_rfl) ⟨(loop_one (h := impl_key_H) (own := []) (head := impl_key_h0) (back := []) (exs := [(.ret, []), (.exit 0, [])]) (res := impl_key_r0) (step := impl_key_s0) (by kernel_rfl) impl_key_l0), trivial⟩) impl_key_e
def impl_wordWidth_arg : Sh := ⟨[(0, .agg [.str, .rd [] .i64, .rd [] .i64]), (1, .c (.str))], [], []⟩
def impl_wordWidth_res : List Sh := [⟨[(0, .c (.int .i64)), (1, .c (.bool))], [], []⟩]
noncomputable def impl_wordWidth_s0 (x : (ByteArray × Unit × Int × Int × Int × Unit) × ((ByteArray × List Int × List Int × Unit) × Unit) × Unit) : Option (((ByteArray × Unit × Int × Int × Int × Unit) × ((ByteArray × List Int × List Int × Unit) × Unit) × Unit) ⊕ (((Int × Bool × Unit) × Unit × Unit) ⊕ ((Int × Unit) × Unit × Unit))) :=
 let x1 : Bool := decide (x.1.2.2.2.2.1 < x.1.2.2.2.1);
 br x1
 (ck (0 ≤ x.1.2.2.2.2.1 ∧ x.1.2.2.2.2.1.toNat < x.1.1.size)
 (let x2 : Int := byteAt x.1.1 x.1.2.2.2.2.1.toNat;
 let x3 : Int := w64 x2;
 (impl_key x.2.1.1.1 x.2.1.1.2.1 x.2.1.1.2.2.1 x3).bind fun r4 =>
 let x5 : Bool := decide (r4.1.1 < (0 : Int));
 br x5
 (some (.inr (.inl (((0 : Int), false, ()), (), ()))))
 (ck (0 ≤ r4.1.1)
 (ck (r4.1.1.toNat < x.2.1.1.2.1.length)
 (let x6 : Int := x.2.1.1.2.1.getD r4.1.1.toNat 0;
 let x7 : Int := w64 (x.1.2.2.1 + x6);
 let x8 : Bool := decide (x7 > (2000 : Int));
 br x8
 (some (.inr (.inl (((0 : Int), false, ()), (), ()))))
 (let x9 : Int := w64 (x.1.2.2.2.2.1 + (1 : Int));
 some (.inl ((x.1.1, (), x7, x.1.2.2.2.1, x9, ()), ((x.2.1.1.1, x.2.1.1.2.1, x.2.1.1.2.2.1, ()), ()), ()))))))))
 (some (.inr (.inr ((x.1.2.2.1, ()), (), ()))))
def impl_wordWidth_h0 : Sh := ⟨[(1, .c (.str)), (2, .c (.box 0 0)), (6, .c (.int .i64)), (10, .c (.int .i64)), (11, .c (.int .i64))], [(0, .cells [.str, .rd [] .i64, .rd [] .i64])], []⟩
def impl_wordWidth_r0 : List Sh := [⟨[(4, .c (.int .i64)), (5, .c (.bool))], [], []⟩, ⟨[(6, .c (.int .i64))], [], []⟩]
noncomputable def impl_wordWidth_L0 : Lp := ⟨0, [], impl_wordWidth_h0, [], [(.ret, []), (.exit 0, [])], impl_wordWidth_r0, loopC impl_wordWidth_s0⟩
noncomputable def impl_wordWidth (a0_0 : ByteArray) (a0_1 : List Int) (a0_2 : List Int) (a1 : ByteArray) : Option ((Int × Bool × Unit) × Unit × Unit) :=
 (loopC impl_wordWidth_s0 ((a1, (), (0 : Int), (a1.size : Int), (0 : Int), ()), ((a0_0, a0_1, a0_2, ()), ()), ())).bind fun r10 =>
 sumK r10 (fun y13 =>
 some ((y13.1.1, y13.1.2.1, ()), (), ())) (fun y14 =>
 some ((y14.1.1, true, ()), (), ()))
noncomputable def impl_wordWidth_C : Ctr := ⟨44, impl_wordWidth_arg, impl_wordWidth_res, fun x => impl_wordWidth x.1.1.1 x.1.1.2.1 x.1.1.2.2.1 x.1.2.1, none⟩
def impl_wordWidth_H : Hint := ⟨[], [], [], fun _ => []⟩
noncomputable def impl_wordWidth_T : List Ctr := [impl_key_C]
noncomputable def impl_wordWidth_Ls : List Lp := [impl_wordWidth_L0]
theorem impl_wordWidth_l0 : ∀ x, impl_wordWidth_s0 x = stepW E0 impl_wordWidth_T impl_wordWidth_Ls impl_wordWidth_H (loopAt (bodyOf Tryd.f44) 0) 0 impl_wordWidth_h0 [] [(.ret, []), (.exit 0, [])] impl_wordWidth_r0 x := fun x => by kernel_rfl
theorem impl_wordWidth_e : ∀ x, impl_wordWidth_C.F x = runBodyW E0 impl_wordWidth_T impl_wordWidth_Ls impl_wordWidth_H 44 Tryd.f44.results.toList (bodyOf Tryd.f44) [] (impl_wordWidth_arg.mk' x) impl_wordWidth_res := fun x => by kernel_rfl
theorem impl_wordWidth_ok : impl_wordWidth_C.Ok E0 := fn_ok (T := impl_wordWidth_T) (h := impl_wordWidth_H) (Ls := impl_wordWidth_Ls) E0_mixed (T_cons impl_key_ok T_nil) Tryd.func44 (bodyOf_some (by kernel_rfl)) (by kernel_rfl) (loops_of (ks := [0]) (by kernel_rfl) ⟨(loop_one (h := impl_wordWidth_H) (own := []) (head := impl_wordWidth_h0) (back := []) (exs := [(.ret, []), (.exit 0, [])]) (res := impl_wordWidth_r0) (step := impl_wordWidth_s0) (by kernel_rfl) impl_wordWidth_l0), trivial⟩) impl_wordWidth_e
def impl_WordWidths_arg : Sh := ⟨[(0, .agg [.str, .rd [] .i64, .rd [] .i64]), (1, .c (.str))], [], []⟩
def impl_WordWidths_res : List Sh := [⟨[(0, .c (.own 0)), (1, .c (.bool))], [], [(0, .i64)]⟩]
noncomputable def impl_WordWidths_s0 (x : (Unit × Unit × Unit × Int × Int × Unit) × ((ByteArray × List Int × List Int × Unit) × Unit) × (List Int × List ByteArray × Unit)) : Option (((Unit × Unit × Unit × Int × Int × Unit) × ((ByteArray × List Int × List Int × Unit) × Unit) × (List Int × List ByteArray × Unit)) ⊕ (((Unit × Bool × Unit) × Unit × Unit) ⊕ ((Unit × Unit) × Unit × (List Int × Unit)))) :=
 let x5 : Bool := decide (x.1.2.2.2.2.1 < x.1.2.2.2.1);
 br x5
 (ck (0 ≤ x.1.2.2.2.2.1)
 (ck (x.1.2.2.2.2.1.toNat < x.2.2.2.1.length)
 (ck (x.1.2.2.2.2.1.toNat < x.2.2.2.1.length)
 (let x6 : ByteArray := x.2.2.2.1.getD x.1.2.2.2.2.1.toNat ByteArray.empty;
 (impl_wordWidth x.2.1.1.1 x.2.1.1.2.1 x.2.1.1.2.2.1 x6).bind fun r7 =>
 br (!r7.1.2.1)
 (some (.inr (.inl (((), false, ()), (), ()))))
 (ck ((x.2.2.1.length + [r7.1.1].length) * 8 ≤ 140737488355328 ∧ (x.2.2.1.length + [r7.1.1].length) ≤ 9223372036854775807)
 (let x8 : List Int := x.2.2.1 ++ [r7.1.1];
 let x9 : Int := w64 (x.1.2.2.2.2.1 + (1 : Int));
 some (.inl (((), (), (), x.1.2.2.2.1, x9, ()), ((x.2.1.1.1, x.2.1.1.2.1, x.2.1.1.2.2.1, ()), ()), (x8, x.2.2.2.1, ())))))))))
 (some (.inr (.inr (((), ()), (), (x.2.2.1, ())))))
def impl_WordWidths_h0 : Sh := ⟨[(2, .c (.box 0 0)), (7, .c (.own 0)), (26, .c (.own 1)), (27, .c (.int .i64)), (28, .c (.int .i64))], [(0, .cells [.str, .rd [] .i64, .rd [] .i64])], [(0, .i64), (1, .str)]⟩
def impl_WordWidths_r0 : List Sh := [⟨[(4, .c (.nil)), (5, .c (.bool))], [], []⟩, ⟨[(7, .c (.own 0))], [], [(0, .i64)]⟩]
noncomputable def impl_WordWidths_L0 : Lp := ⟨0, [], impl_WordWidths_h0, [], [(.ret, []), (.exit 0, [])], impl_WordWidths_r0, loopC impl_WordWidths_s0⟩
noncomputable def impl_WordWidths (a0_0 : ByteArray) (a0_1 : List Int) (a0_2 : List Int) (a1 : ByteArray) : Option ((Unit × Bool × Unit) × Unit × (List Int × Unit)) :=
 (impl_FontOk a0_0 a0_1 a0_2).bind fun r1 =>
 br (!r1.1.1)
 (some (((), false, ()), (), ([], ())))
 ((impl_wordsOf a1).bind fun r2 =>
 let x3 : Bool := decide ((r2.2.2.1.length : Int) < (1 : Int));
 br x3
 (some (((), false, ()), (), ([], ())))
 (let x4 : Bool := decide ((r2.2.2.1.length : Int) > (40 : Int));
 br x4
 (some (((), false, ()), (), ([], ())))
 ((loopC impl_WordWidths_s0 (((), (), (), (r2.2.2.1.length : Int), (0 : Int), ()), ((a0_0, a0_1, a0_2, ()), ()), ([], r2.2.2.1, ()))).bind fun r10 =>
 sumK r10 (fun y13 =>
 some (((), y13.1.2.1, ()), (), ([], ()))) (fun y14 =>
 some (((), true, ()), (), (y14.2.2.1, ()))))))
noncomputable def impl_WordWidths_C : Ctr := ⟨25, impl_WordWidths_arg, impl_WordWidths_res, fun x => impl_WordWidths x.1.1.1 x.1.1.2.1 x.1.1.2.2.1 x.1.2.1, none⟩
def impl_WordWidths_H : Hint := ⟨[], [], [], fun _ => []⟩
noncomputable def impl_WordWidths_T : List Ctr := [impl_FontOk_C, impl_wordsOf_C, impl_wordWidth_C]
noncomputable def impl_WordWidths_Ls : List Lp := [impl_WordWidths_L0]
theorem impl_WordWidths_l0 : ∀ x, impl_WordWidths_s0 x = stepW E0 impl_WordWidths_T impl_WordWidths_Ls impl_WordWidths_H (loopAt (bodyOf Tryd.f25) 0) 0 impl_WordWidths_h0 [] [(.ret, []), (.exit 0, [])] impl_WordWidths_r0 x := fun x => by kernel_rfl
theorem impl_WordWidths_e : ∀ x, impl_WordWidths_C.F x = runBodyW E0 impl_WordWidths_T impl_WordWidths_Ls impl_WordWidths_H 25 Tryd.f25.results.toList (bodyOf Tryd.f25) [(.tm 4, 6000000, .i64)] (impl_WordWidths_arg.mk' x) impl_WordWidths_res := fun x => by kernel_rfl
theorem impl_WordWidths_ok : impl_WordWidths_C.Ok E0 := fn_ok (T := impl_WordWidths_T) (h := impl_WordWidths_H) (Ls := impl_WordWidths_Ls) E0_mixed (T_cons impl_FontOk_ok (T_cons impl_wordsOf_ok (T_cons impl_wordWidth_ok T_nil))) Tryd.func25 (bodyOf_some (by kernel_rfl)) (by kernel_rfl) (loops_of (ks := [0]) (by kernel_rfl) ⟨(loop_one (h := impl_WordWidths_H) (own := []) (head := impl_WordWidths_h0) (back := []) (exs := [(.ret, []), (.exit 0, [])]) (res := impl_WordWidths_r0) (step := impl_WordWidths_s0) (by kernel_rfl) impl_WordWidths_l0), trivial⟩) impl_WordWidths_e
def impl_MeasureOk_arg : Sh := ⟨[(0, .agg [.int .i64, .int .i64, .int .i64])], [], []⟩
def impl_MeasureOk_res : List Sh := [⟨[(0, .c (.bool))], [], []⟩]
noncomputable def impl_MeasureOk (a0_0 : Int) (a0_1 : Int) (a0_2 : Int) : Option ((Bool × Unit) × Unit × Unit) :=
 let x1 : Bool := decide (a0_0 ≥ (1 : Int));
 br x1
 (let x2 : Bool := decide (a0_0 ≤ (2000 : Int));
 br x2
 (let x3 : Bool := decide (a0_1 ≥ (1 : Int));
 br x3
 (let x4 : Bool := decide (a0_1 ≤ (100 : Int));
 br x4
 (let x5 : Bool := decide (a0_2 ≥ a0_1);
 br x5
 (let x6 : Bool := decide (a0_2 ≤ (100 : Int));
 some ((x6, ()), (), ()))
 (some ((false, ()), (), ())))
 (some ((false, ()), (), ())))
 (some ((false, ()), (), ())))
 (some ((false, ()), (), ())))
 (some ((false, ()), (), ()))
noncomputable def impl_MeasureOk_C : Ctr := ⟨63, impl_MeasureOk_arg, impl_MeasureOk_res, fun x => impl_MeasureOk x.1.1.1 x.1.1.2.1 x.1.1.2.2.1, none⟩
def impl_MeasureOk_H : Hint := ⟨[], [], [], fun _ => []⟩
noncomputable def impl_MeasureOk_T : List Ctr := []
noncomputable def impl_MeasureOk_Ls : List Lp := []
theorem impl_MeasureOk_e : ∀ x, impl_MeasureOk_C.F x = runBodyW E0 impl_MeasureOk_T impl_MeasureOk_Ls impl_MeasureOk_H 63 Tryd.f63.results.toList (bodyOf Tryd.f63) [] (impl_MeasureOk_arg.mk' x) impl_MeasureOk_res := fun x => by kernel_rfl
theorem impl_MeasureOk_ok : impl_MeasureOk_C.Ok E0 := fn_ok (T := impl_MeasureOk_T) (h := impl_MeasureOk_H) (Ls := impl_MeasureOk_Ls) E0_mixed T_nil Tryd.func63 (bodyOf_some (by kernel_rfl)) (by kernel_rfl) (loops_of (ks := []) (by kernel_rfl) trivial) impl_MeasureOk_e
def impl_TextOk_arg : Sh := ⟨[(0, .c (.rd [] .i64))], [], []⟩
def impl_TextOk_res : List Sh := [⟨[(0, .c (.bool))], [], []⟩]
noncomputable def impl_TextOk (a0 : List Int) : Option ((Bool × Unit) × Unit × Unit) :=
 let x1 : Bool := decide ((a0.length : Int) ≥ (1 : Int));
 br x1
 (let x2 : Bool := decide ((a0.length : Int) ≤ (40 : Int));
 br x2
 ((impl_between a0 (1 : Int) (2000 : Int)).bind fun r3 =>
 some ((r3.1.1, ()), (), ()))
 (some ((false, ()), (), ())))
 (some ((false, ()), (), ()))
noncomputable def impl_TextOk_C : Ctr := ⟨64, impl_TextOk_arg, impl_TextOk_res, fun x => impl_TextOk x.1.1, none⟩
def impl_TextOk_H : Hint := ⟨[], [], [], fun _ => []⟩
noncomputable def impl_TextOk_T : List Ctr := [impl_between_C]
noncomputable def impl_TextOk_Ls : List Lp := []
theorem impl_TextOk_e : ∀ x, impl_TextOk_C.F x = runBodyW E0 impl_TextOk_T impl_TextOk_Ls impl_TextOk_H 64 Tryd.f64.results.toList (bodyOf Tryd.f64) [] (impl_TextOk_arg.mk' x) impl_TextOk_res := fun x => by kernel_rfl
theorem impl_TextOk_ok : impl_TextOk_C.Ok E0 := fn_ok (T := impl_TextOk_T) (h := impl_TextOk_H) (Ls := impl_TextOk_Ls) E0_mixed (T_cons impl_between_ok T_nil) Tryd.func64 (bodyOf_some (by kernel_rfl)) (by kernel_rfl) (loops_of (ks := []) (by kernel_rfl) trivial) impl_TextOk_e
def impl_both_arg : Sh := ⟨[(0, .agg [.int .i64, .int .i64, .int .i64]), (1, .c (.rd [] .i64))], [], []⟩
def impl_both_res : List Sh := [⟨[(0, .c (.bool))], [], []⟩]
noncomputable def impl_both (a0_0 : Int) (a0_1 : Int) (a0_2 : Int) (a1 : List Int) : Option ((Bool × Unit) × Unit × Unit) :=
 (impl_MeasureOk a0_0 a0_1 a0_2).bind fun r1 =>
 br r1.1.1
 ((impl_TextOk a1).bind fun r2 =>
 some ((r2.1.1, ()), (), ()))
 (some ((false, ()), (), ()))
noncomputable def impl_both_C : Ctr := ⟨45, impl_both_arg, impl_both_res, fun x => impl_both x.1.1.1 x.1.1.2.1 x.1.1.2.2.1 x.1.2.1, none⟩
def impl_both_H : Hint := ⟨[], [], [], fun _ => []⟩
noncomputable def impl_both_T : List Ctr := [impl_MeasureOk_C, impl_TextOk_C]
noncomputable def impl_both_Ls : List Lp := []
theorem impl_both_e : ∀ x, impl_both_C.F x = runBodyW E0 impl_both_T impl_both_Ls impl_both_H 45 Tryd.f45.results.toList (bodyOf Tryd.f45) [] (impl_both_arg.mk' x) impl_both_res := fun x => by kernel_rfl
theorem impl_both_ok : impl_both_C.Ok E0 := fn_ok (T := impl_both_T) (h := impl_both_H) (Ls := impl_both_Ls) E0_mixed (T_cons impl_MeasureOk_ok (T_cons impl_TextOk_ok T_nil)) Tryd.func45 (bodyOf_some (by kernel_rfl)) (by kernel_rfl) (loops_of (ks := []) (by kernel_rfl) trivial) impl_both_e
def impl_sum_arg : Sh := ⟨[(0, .c (.rd [] .i64))], [], []⟩
def impl_sum_res : List Sh := [⟨[(0, .c (.int .i64))], [], []⟩]
noncomputable def impl_sum_s0 (x : (Int × List Int × Int × Int × Unit) × Unit × Unit) : Option (((Int × List Int × Int × Int × Unit) × Unit × Unit) ⊕ ((Int × Unit) × Unit × Unit)) :=
 let x1 : Bool := decide (x.1.2.2.2.1 < x.1.2.2.1);
 br x1
 (ck (0 ≤ x.1.2.2.2.1)
 (ck (x.1.2.2.2.1.toNat < x.1.2.1.length)
 (let x2 : Int := x.1.2.1.getD x.1.2.2.2.1.toNat 0;
 let x3 : Int := w64 (x.1.1 + x2);
 let x4 : Int := w64 (x.1.2.2.2.1 + (1 : Int));
 some (.inl ((x3, x.1.2.1, x.1.2.2.1, x4, ()), (), ())))))
 (some (.inr ((x.1.1, ()), (), ())))
def impl_sum_h0 : Sh := ⟨[(3, .c (.int .i64)), (6, .c (.rd [] .i64)), (7, .c (.int .i64)), (8, .c (.int .i64))], [], []⟩
def impl_sum_r0 : List Sh := [⟨[(3, .c (.int .i64))], [], []⟩]
noncomputable def impl_sum_L0 : Lp := ⟨0, [], impl_sum_h0, [], [(.exit 0, [])], impl_sum_r0, loopC impl_sum_s0⟩
noncomputable def impl_sum (a0 : List Int) : Option ((Int × Unit) × Unit × Unit) :=
 (loopC impl_sum_s0 (((0 : Int), a0, (a0.length : Int), (0 : Int), ()), (), ())).bind fun r5 =>
 some ((r5.1.1, ()), (), ())
noncomputable def impl_sum_C : Ctr := ⟨66, impl_sum_arg, impl_sum_res, fun x => impl_sum x.1.1, none⟩
def impl_sum_H : Hint := ⟨[], [], [], fun _ => []⟩
noncomputable def impl_sum_T : List Ctr := []
noncomputable def impl_sum_Ls : List Lp := [impl_sum_L0]
theorem impl_sum_l0 : ∀ x, impl_sum_s0 x = stepW E0 impl_sum_T impl_sum_Ls impl_sum_H (loopAt (bodyOf Tryd.f66) 0) 0 impl_sum_h0 [] [(.exit 0, [])] impl_sum_r0 x := fun x => by kernel_rfl
theorem impl_sum_e : ∀ x, impl_sum_C.F x = runBodyW E0 impl_sum_T impl_sum_Ls impl_sum_H 66 Tryd.f66.results.toList (bodyOf Tryd.f66) [] (impl_sum_arg.mk' x) impl_sum_res := fun x => by kernel_rfl
theorem impl_sum_ok : impl_sum_C.Ok E0 := fn_ok (T := impl_sum_T) (h := impl_sum_H) (Ls := impl_sum_Ls) E0_mixed T_nil Tryd.func66 (bodyOf_some (by kernel_rfl)) (by kernel_rfl) (loops_of (ks := [0]) (by kernel_rfl) ⟨(loop_one (h := impl_sum_H) (own := []) (head := impl_sum_h0) (back := []) (exs := [(.exit 0, [])]) (res := impl_sum_r0) (step := impl_sum_s0) (by kernel_rfl) impl_sum_l0), trivial⟩) impl_sum_e
def impl_spread_arg : Sh := ⟨[(0, .agg [.int .i64, .int .i64, .int .i64]), (1, .c (.int .i64)), (2, .c (.int .i64))], [], []⟩
def impl_spread_res : List Sh := [⟨[(0, .c (.int .i64)), (1, .c (.int .i64)), (2, .c (.bool))], [], []⟩]
noncomputable def impl_spread (a0_0 : Int) (a0_1 : Int) (a0_2 : Int) (a1 : Int) (a2 : Int) : Option ((Int × Int × Bool × Unit) × Unit × Unit) :=
 let x1 : Int := w64 (a0_0 - a1);
 let x2 : Int := w64 (a2 * a0_1);
 let x3 : Int := w64 (x1 - x2);
 let x4 : Bool := decide (x3 < (0 : Int));
 br x4
 (some (((0 : Int), (0 : Int), false, ()), (), ()))
 (let x5 : Bool := decide (a2 > (0 : Int));
 br x5
 (let x6 : Int := w64 (a0_2 - a0_1);
 ck (a2 ≠ 0)
 (let x7 : Int := w64 (x3.tdiv a2);
 let x8 : Int := if x7 < x6 then x7 else x6;
 let x9 : Int := w64 (a2 * x8);
 let x10 : Int := w64 (x3 - x9);
 some ((x8, x10, true, ()), (), ())))
 (let x11 : Int := w64 (a2 * (0 : Int));
 let x12 : Int := w64 (x3 - x11);
 some (((0 : Int), x12, true, ()), (), ())))
noncomputable def impl_spread_C : Ctr := ⟨65, impl_spread_arg, impl_spread_res, fun x => impl_spread x.1.1.1 x.1.1.2.1 x.1.1.2.2.1 x.1.2.1 x.1.2.2.1, none⟩
def impl_spread_H : Hint := ⟨[], [], [], fun _ => []⟩
noncomputable def impl_spread_T : List Ctr := []
noncomputable def impl_spread_Ls : List Lp := []
theorem impl_spread_e : ∀ x, impl_spread_C.F x = runBodyW E0 impl_spread_T impl_spread_Ls impl_spread_H 65 Tryd.f65.results.toList (bodyOf Tryd.f65) [] (impl_spread_arg.mk' x) impl_spread_res := fun x => by kernel_rfl
theorem impl_spread_ok : impl_spread_C.Ok E0 := fn_ok (T := impl_spread_T) (h := impl_spread_H) (Ls := impl_spread_Ls) E0_mixed T_nil Tryd.func65 (bodyOf_some (by kernel_rfl)) (by kernel_rfl) (loops_of (ks := []) (by kernel_rfl) trivial) impl_spread_e
def impl_full_arg : Sh := ⟨[(0, .agg [.int .i64, .int .i64, .int .i64]), (1, .c (.int .i64)), (2, .c (.int .i64))], [], []⟩
def impl_full_res : List Sh := [⟨[(0, .c (.bool))], [], []⟩]
noncomputable def impl_full (a0_0 : Int) (a0_1 : Int) (a0_2 : Int) (a1 : Int) (a2 : Int) : Option ((Bool × Unit) × Unit × Unit) :=
 (impl_spread a0_0 a0_1 a0_2 a1 a2).bind fun r1 =>
 br r1.1.2.2.1
 (let x2 : Bool := r1.1.2.1 == (0 : Int);
 br x2
 (some ((true, ()), (), ()))
 (let x3 : Bool := decide (r1.1.2.1 < a2);
 some ((x3, ()), (), ())))
 (some ((false, ()), (), ()))
noncomputable def impl_full_C : Ctr := ⟨67, impl_full_arg, impl_full_res, fun x => impl_full x.1.1.1 x.1.1.2.1 x.1.1.2.2.1 x.1.2.1 x.1.2.2.1, none⟩
def impl_full_H : Hint := ⟨[], [], [], fun _ => []⟩
noncomputable def impl_full_T : List Ctr := [impl_spread_C]
noncomputable def impl_full_Ls : List Lp := []
theorem impl_full_e : ∀ x, impl_full_C.F x = runBodyW E0 impl_full_T impl_full_Ls impl_full_H 67 Tryd.f67.results.toList (bodyOf Tryd.f67) [] (impl_full_arg.mk' x) impl_full_res := fun x => by kernel_rfl
theorem impl_full_ok : impl_full_C.Ok E0 := fn_ok (T := impl_full_T) (h := impl_full_H) (Ls := impl_full_Ls) E0_mixed (T_cons impl_spread_ok T_nil) Tryd.func67 (bodyOf_some (by kernel_rfl)) (by kernel_rfl) (loops_of (ks := []) (by kernel_rfl) trivial) impl_full_e
def impl_kindOf_arg : Sh := ⟨[(0, .agg [.int .i64, .int .i64, .int .i64]), (1, .c (.rd [] .i64))], [], []⟩
def impl_kindOf_res : List Sh := [⟨[(0, .c (.int .i64))], [], []⟩]
noncomputable def impl_kindOf (a0_0 : Int) (a0_1 : Int) (a0_2 : Int) (a1 : List Int) : Option ((Int × Unit) × Unit × Unit) :=
 let x1 : Int := w64 ((a1.length : Int) - (1 : Int));
 (impl_sum a1).bind fun r2 =>
 (impl_spread a0_0 a0_1 a0_2 r2.1.1 x1).bind fun r3 =>
 br (!r3.1.2.2.1)
 (some (((0 : Int), ()), (), ()))
 ((impl_sum a1).bind fun r4 =>
 (impl_full a0_0 a0_1 a0_2 r4.1.1 x1).bind fun r5 =>
 br r5.1.1
 (some (((2 : Int), ()), (), ()))
 (some (((1 : Int), ()), (), ())))
noncomputable def impl_kindOf_C : Ctr := ⟨46, impl_kindOf_arg, impl_kindOf_res, fun x => impl_kindOf x.1.1.1 x.1.1.2.1 x.1.1.2.2.1 x.1.2.1, none⟩
def impl_kindOf_H : Hint := ⟨[], [], [], fun _ => []⟩
noncomputable def impl_kindOf_T : List Ctr := [impl_sum_C, impl_spread_C, impl_full_C]
noncomputable def impl_kindOf_Ls : List Lp := []
theorem impl_kindOf_e : ∀ x, impl_kindOf_C.F x = runBodyW E0 impl_kindOf_T impl_kindOf_Ls impl_kindOf_H 46 Tryd.f46.results.toList (bodyOf Tryd.f46) [] (impl_kindOf_arg.mk' x) impl_kindOf_res := fun x => by kernel_rfl
theorem impl_kindOf_ok : impl_kindOf_C.Ok E0 := fn_ok (T := impl_kindOf_T) (h := impl_kindOf_H) (Ls := impl_kindOf_Ls) E0_mixed (T_cons impl_sum_ok (T_cons impl_spread_ok (T_cons impl_full_ok T_nil))) Tryd.func46 (bodyOf_some (by kernel_rfl)) (by kernel_rfl) (loops_of (ks := []) (by kernel_rfl) trivial) impl_kindOf_e
def impl_GreedyBreaking_arg : Sh := ⟨[(0, .agg [.int .i64, .int .i64, .int .i64]), (1, .c (.rd [] .i64))], [], []⟩
def impl_GreedyBreaking_res : List Sh := [⟨[(0, .c (.own 0)), (1, .c (.bool))], [], [(0, .i64)]⟩]
noncomputable def impl_GreedyBreaking_s2 (x : (List Int × Unit × Unit × Int × Int × Unit) × ((Int × Int × Int × Unit) × Unit) × (List Int × Unit)) : Option (((List Int × Unit × Unit × Int × Int × Unit) × ((Int × Int × Int × Unit) × Unit) × (List Int × Unit)) ⊕ (((List Int × Unit × Unit × Int × Int × (Int × Int × Int × Unit) × List Int × Int × Int × Int × Int × List Int × Int × Bool × Unit) × ((Int × Int × Int × Unit) × Unit) × (List Int × Unit)) ⊕ ((List Int × Unit × Unit × Int × Int × Unit) × ((Int × Int × Int × Unit) × Unit) × (List Int × Unit)))) :=
 let x9 : Bool := decide (x.1.2.2.2.2.1 > (0 : Int));
 br x9
 (let x10 : Int := w64 (x.1.2.2.2.1 + x.1.2.2.2.2.1);
 ck (0 ≤ x.1.2.2.2.1)
 (ck (0 ≤ x10)
 (ck (x.1.2.2.2.1.toNat ≤ x10.toNat ∧ x10.toNat ≤ x.1.1.length)
 (let x11 : List Int := cut x.1.1 x.1.2.2.2.1.toNat x10.toNat;
 (impl_kindOf x.2.1.1.1 x.2.1.1.2.1 x.2.1.1.2.2.1 x11).bind fun r12 =>
 let x13 : Bool := r12.1.1 != (2 : Int);
 br x13
 (let x14 : Int := w64 (x.1.2.2.2.2.1 - (1 : Int));
 some (.inl ((x.1.1, (), (), x.1.2.2.2.1, x14, ()), ((x.2.1.1.1, x.2.1.1.2.1, x.2.1.1.2.2.1, ()), ()), (x.2.2.1, ()))))
 (some (.inr (.inl ((x.1.1, (), (), x.1.2.2.2.1, x.1.2.2.2.2.1, (x.2.1.1.1, x.2.1.1.2.1, x.2.1.1.2.2.1, ()), x.1.1, x.1.2.2.2.1, x.1.2.2.2.1, x.1.2.2.2.2.1, x10, x11, r12.1.1, x13, ()), ((x.2.1.1.1, x.2.1.1.2.1, x.2.1.1.2.2.1, ()), ()), (x.2.2.1, ())))))))))
 (some (.inr (.inr ((x.1.1, (), (), x.1.2.2.2.1, x.1.2.2.2.2.1, ()), ((x.2.1.1.1, x.2.1.1.2.1, x.2.1.1.2.2.1, ()), ()), (x.2.2.1, ())))))
def impl_GreedyBreaking_h2 : Sh := ⟨[(1, .c (.rd [] .i64)), (2, .c (.box 0 0)), (6, .c (.own 0)), (7, .c (.int .i64)), (8, .c (.int .i64))], [(0, .cells [.int .i64, .int .i64, .int .i64])], [(0, .i64)]⟩
def impl_GreedyBreaking_r2 : List Sh := [⟨[(1, .c (.rd [] .i64)), (2, .c (.box 0 0)), (6, .c (.own 0)), (7, .c (.int .i64)), (8, .c (.int .i64)), (38, .agg [.int .i64, .int .i64, .int .i64]), (39, .c (.rd [] .i64)), (40, .c (.int .i64)), (41, .c (.int .i64)), (42, .c (.int .i64)), (43, .c (.int .i64)), (44, .c (.rd [] .i64)), (45, .c (.int .i64)), (46, .c (.bool))], [(0, .cells [.int .i64, .int .i64, .int .i64])], [(0, .i64)]⟩, ⟨[(1, .c (.rd [] .i64)), (2, .c (.box 0 0)), (6, .c (.own 0)), (7, .c (.int .i64)), (8, .c (.int .i64))], [(0, .cells [.int .i64, .int .i64, .int .i64])], [(0, .i64)]⟩]
noncomputable def impl_GreedyBreaking_L2 : Lp := ⟨2, [], impl_GreedyBreaking_h2, [], [(.exit 2, []), (.exit 2, [])], impl_GreedyBreaking_r2, loopC impl_GreedyBreaking_s2⟩
noncomputable def impl_GreedyBreaking_s0 (x : (List Int × Unit × Unit × Int × Unit) × ((Int × Int × Int × Unit) × Unit) × (List Int × Unit)) : Option (((List Int × Unit × Unit × Int × Unit) × ((Int × Int × Int × Unit) × Unit) × (List Int × Unit)) ⊕ (((Unit × Bool × Unit) × Unit × (List Int × Unit)) ⊕ ((Unit × Unit) × Unit × (List Int × Unit)))) :=
 let x2 : Bool := decide (x.1.2.2.2.1 < (x.1.1.length : Int));
 br x2
 (ck (0 ≤ x.1.2.2.2.1)
 (ck (x.1.2.2.2.1.toNat ≤ x.1.1.length ∧ x.1.1.length ≤ x.1.1.length)
 (let x3 : List Int := cut x.1.1 x.1.2.2.2.1.toNat x.1.1.length;
 (impl_kindOf x.2.1.1.1 x.2.1.1.2.1 x.2.1.1.2.2.1 x3).bind fun r4 =>
 let x5 : Bool := decide (r4.1.1 > (0 : Int));
 br x5
 (let x6 : Int := w64 ((x.1.1.length : Int) - x.1.2.2.2.1);
 ck ((x.2.2.1.length + [x6].length) * 8 ≤ 140737488355328 ∧ (x.2.2.1.length + [x6].length) ≤ 9223372036854775807)
 (let x7 : List Int := x.2.2.1 ++ [x6];
 some (.inr (.inl (((), true, ()), (), (x7, ()))))))
 (let x8 : Int := w64 ((x.1.1.length : Int) - x.1.2.2.2.1);
 (loopC impl_GreedyBreaking_s2 ((x.1.1, (), (), x.1.2.2.2.1, x8, ()), ((x.2.1.1.1, x.2.1.1.2.1, x.2.1.1.2.2.1, ()), ()), (x.2.2.1, ()))).bind fun r15 =>
 sumK r15 (fun y18 =>
 let x20 : Bool := y18.1.2.2.2.2.1 == (0 : Int);
 br x20
 (some (.inr (.inl (((), false, ()), (), ([], ())))))
 (ck ((y18.2.2.1.length + [y18.1.2.2.2.2.1].length) * 8 ≤ 140737488355328 ∧ (y18.2.2.1.length + [y18.1.2.2.2.2.1].length) ≤ 9223372036854775807)
 (let x21 : List Int := y18.2.2.1 ++ [y18.1.2.2.2.2.1];
 let x22 : Int := w64 (y18.1.2.2.2.1 + y18.1.2.2.2.2.1);
 some (.inl ((y18.1.1, (), (), x22, ()), ((y18.2.1.1.1, y18.2.1.1.2.1, y18.2.1.1.2.2.1, ()), ()), (x21, ())))))) (fun y19 =>
 let x23 : Bool := y19.1.2.2.2.2.1 == (0 : Int);
 br x23
 (some (.inr (.inl (((), false, ()), (), ([], ())))))
 (ck ((y19.2.2.1.length + [y19.1.2.2.2.2.1].length) * 8 ≤ 140737488355328 ∧ (y19.2.2.1.length + [y19.1.2.2.2.2.1].length) ≤ 9223372036854775807)
 (let x24 : List Int := y19.2.2.1 ++ [y19.1.2.2.2.2.1];
 let x25 : Int := w64 (y19.1.2.2.2.1 + y19.1.2.2.2.2.1);
 some (.inl ((y19.1.1, (), (), x25, ()), ((y19.2.1.1.1, y19.2.1.1.2.1, y19.2.1.1.2.2.1, ()), ()), (x24, ()))))))))))
 (some (.inr (.inr (((), ()), (), (x.2.2.1, ())))))
def impl_GreedyBreaking_h0 : Sh := ⟨[(1, .c (.rd [] .i64)), (2, .c (.box 0 0)), (6, .c (.own 0)), (7, .c (.int .i64))], [(0, .cells [.int .i64, .int .i64, .int .i64])], [(0, .i64)]⟩
def impl_GreedyBreaking_r0 : List Sh := [⟨[(4, .c (.own 0)), (5, .c (.bool))], [], [(0, .i64)]⟩, ⟨[(6, .c (.own 0))], [], [(0, .i64)]⟩]
noncomputable def impl_GreedyBreaking_L0 : Lp := ⟨0, [], impl_GreedyBreaking_h0, [], [(.ret, [(.tm 4, 5000000, .i64)]), (.exit 0, [])], impl_GreedyBreaking_r0, loopC impl_GreedyBreaking_s0⟩
noncomputable def impl_GreedyBreaking (a0_0 : Int) (a0_1 : Int) (a0_2 : Int) (a1 : List Int) : Option ((Unit × Bool × Unit) × Unit × (List Int × Unit)) :=
 (impl_both a0_0 a0_1 a0_2 a1).bind fun r1 =>
 br (!r1.1.1)
 (some (((), false, ()), (), ([], ())))
 ((loopC impl_GreedyBreaking_s0 ((a1, (), (), (0 : Int), ()), ((a0_0, a0_1, a0_2, ()), ()), ([], ()))).bind fun r26 =>
 sumK r26 (fun y29 =>
 some (((), y29.1.2.1, ()), (), (y29.2.2.1, ()))) (fun y30 =>
 some (((), true, ()), (), (y30.2.2.1, ()))))
noncomputable def impl_GreedyBreaking_C : Ctr := ⟨26, impl_GreedyBreaking_arg, impl_GreedyBreaking_res, fun x => impl_GreedyBreaking x.1.1.1 x.1.1.2.1 x.1.1.2.2.1 x.1.2.1, none⟩
def impl_GreedyBreaking_H : Hint := ⟨[], [], [], fun _ => []⟩
noncomputable def impl_GreedyBreaking_T : List Ctr := [impl_both_C, impl_kindOf_C]
noncomputable def impl_GreedyBreaking_Ls : List Lp := [impl_GreedyBreaking_L2, impl_GreedyBreaking_L0]
theorem impl_GreedyBreaking_l0 : ∀ x, impl_GreedyBreaking_s0 x = stepW E0 impl_GreedyBreaking_T impl_GreedyBreaking_Ls impl_GreedyBreaking_H (loopAt (bodyOf Tryd.f26) 0) 0 impl_GreedyBreaking_h0 [] [(.ret, [(.tm 4, 5000000, .i64)]), (.exit 0, [])] impl_GreedyBreaking_r0 x := fun x => by kernel_rfl
theorem impl_GreedyBreaking_l2 : ∀ x, impl_GreedyBreaking_s2 x = stepW E0 impl_GreedyBreaking_T impl_GreedyBreaking_Ls impl_GreedyBreaking_H (loopAt (bodyOf Tryd.f26) 1) 2 impl_GreedyBreaking_h2 [] [(.exit 2, []), (.exit 2, [])] impl_GreedyBreaking_r2 x := fun x => by kernel_rfl
theorem impl_GreedyBreaking_e : ∀ x, impl_GreedyBreaking_C.F x = runBodyW E0 impl_GreedyBreaking_T impl_GreedyBreaking_Ls impl_GreedyBreaking_H 26 Tryd.f26.results.toList (bodyOf Tryd.f26) [(.tm 4, 6000000, .i64)] (impl_GreedyBreaking_arg.mk' x) impl_GreedyBreaking_res := fun x => by kernel_rfl
theorem impl_GreedyBreaking_ok : impl_GreedyBreaking_C.Ok E0 := fn_ok (T := impl_GreedyBreaking_T) (h := impl_GreedyBreaking_H) (Ls := impl_GreedyBreaking_Ls) E0_mixed (T_cons impl_both_ok (T_cons impl_kindOf_ok T_nil)) Tryd.func26 (bodyOf_some (by kernel_rfl)) (by kernel_rfl) (loops_of (ks := [0, 2]) (by kernel_rfl) ⟨(loop_one (h := impl_GreedyBreaking_H) (own := []) (head := impl_GreedyBreaking_h0) (back := []) (exs := [(.ret, [(.tm 4, 5000000, .i64)]), (.exit 0, [])]) (res := impl_GreedyBreaking_r0) (step := impl_GreedyBreaking_s0) (by kernel_rfl) impl_GreedyBreaking_l0), (loop_one (h := impl_GreedyBreaking_H) (own := []) (head := impl_GreedyBreaking_h2) (back := []) (exs := [(.exit 2, []), (.exit 2, [])]) (res := impl_GreedyBreaking_r2) (step := impl_GreedyBreaking_s2) (by kernel_rfl) impl_GreedyBreaking_l2), trivial⟩) impl_GreedyBreaking_e
def strings_Join_arg : Sh := ⟨[(0, .c (.rd [] .str)), (1, .c (.str))], [], []⟩
def strings_Join_res : List Sh := [⟨[(0, .c (.str))], [], []⟩]
def strings_Join (l : List ByteArray) (s : ByteArray) : Option ((ByteArray × Unit) × Unit × Unit) := joinF l s
noncomputable def strings_Join_C : Ctr := ⟨37, strings_Join_arg, strings_Join_res, fun x => strings_Join x.1.1 x.1.2.1, some 2⟩
end Go.Tree
namespace Go.Proofs
section
open Go Go.Shelf Go.RowKit Go.Lib Go.Tree Go.Sort
def Tryd.lays156_ren : Go.Shelf.Ren := ⟨fun | 156 => 37 | 165 => 53 | 166 => 54 | 169 => 55 | 240 => 70 | 241 => 71 | 276 => 83 | 277 => 84 | n => n, fun | 31 => 28 | 9 => 9 | 3 => 3 | 4 => 4 | 0 => 0 | 20 => 20 | 72 => 72 | 76 => 76 | 70 => 70 | 37 => 66 | 75 => 75 | 127 => 89 | 164 => 96 | 5 => 5 | 80 => 78 | n => n, fun | n => n⟩
theorem Tryd.lays156 : Go.Proofs.Lays.n156 Tryd.prog Tryd.lays156_ren := {
  mixed := by kernel_rfl
  f156 := Tryd.func37.trans (congrArg some (by kernel_rfl))
  f165 := Tryd.func53.trans (congrArg some (by kernel_rfl))
  f166 := Tryd.func54.trans (congrArg some (by kernel_rfl))
  f169 := Tryd.func55.trans (congrArg some (by kernel_rfl))
  f240 := Tryd.func70.trans (congrArg some (by kernel_rfl))
  f241 := Tryd.func71.trans (congrArg some (by kernel_rfl))
  f276 := Tryd.func83.trans (congrArg some (by kernel_rfl))
  f277 := Tryd.func84.trans (congrArg some (by kernel_rfl))
  t0 := Tryd.underlying0
  a0 := Tryd.isAgg0
  z0 := Tryd.sizeOf0
  v0 := Tryd.zeroValue0
  t3 := Tryd.underlying3
  a3 := Tryd.isAgg3
  z3 := Tryd.sizeOf3
  v3 := Tryd.zeroValue3
  t4 := Tryd.underlying4
  a4 := Tryd.isAgg4
  z4 := Tryd.sizeOf4
  v4 := Tryd.zeroValue4
  t9 := Tryd.underlying9
  a9 := Tryd.isAgg9
  z9 := Tryd.sizeOf9
  v9 := Tryd.zeroValue9
  t20 := Tryd.underlying20
  a20 := Tryd.isAgg20
  z20 := Tryd.sizeOf20
  v20 := Tryd.zeroValue20
  t31 := Tryd.underlying28
  a31 := Tryd.isAgg28
  z31 := Tryd.sizeOf28
  v31 := Tryd.zeroValue28
  t37 := Tryd.underlying66
  a37 := Tryd.isAgg66
  z37 := Tryd.sizeOf66
  v37 := Tryd.zeroValue66
  t70 := Tryd.underlying70
  a70 := Tryd.isAgg70
  z70 := Tryd.sizeOf70
  v70 := Tryd.zeroValue70
  t72 := Tryd.underlying72
  a72 := Tryd.isAgg72
  z72 := Tryd.sizeOf72
  v72 := Tryd.zeroValue72
  t75 := Tryd.underlying75
  a75 := Tryd.isAgg75
  z75 := Tryd.sizeOf75
  v75 := Tryd.zeroValue75
  t76 := Tryd.underlying76
  a76 := Tryd.isAgg76
  z76 := Tryd.sizeOf76
  v76 := Tryd.zeroValue76
  t127 := Tryd.underlying89
  a127 := Tryd.isAgg89
  z127 := Tryd.sizeOf89
  v127 := Tryd.zeroValue89
  t164 := Tryd.underlying96
  a164 := Tryd.isAgg96
  z164 := Tryd.sizeOf96
  v164 := Tryd.zeroValue96 }
theorem Tryd.Builder_Extra_156 : Builder.Extra Tryd.prog Tryd.lays156_ren := {
  sizeBuilder := by kernel_rfl
  liesBuilder := by kernel_rfl
  t5 := Tryd.underlying5
  a5 := Tryd.isAgg5
  z5 := Tryd.sizeOf5
  v5 := Tryd.zeroValue5
  infoByte := by kernel_rfl
  cellsByte := by kernel_rfl
  sizeByte := by kernel_rfl
  neB5 := by decide }
theorem Tryd.strings_Join_none (a : Option Addr) (c : Nat) (sep : ByteArray) (w : World) :
    Calls Tryd.prog 37 #[.slice a 0 c, .string sep] w fun e w' => e = .returned (.string ⟨#[]⟩) ∧ w' = w := Any.strings_Join_none Tryd.lays156 Tryd.Builder_Extra_156 a c sep w
theorem Tryd.strings_Join (bk o c : Nat) (xs : List ByteArray) (sep : ByteArray) (w : World) (hcells : ∀ (j : Nat) x, xs[j]? = some x → w.cell? ⟨bk, o + j, none⟩ = some (.string x)) (hbk : bk < w.heap.size) (hN : xs.length ≤ 140737488355328) (hcap : xs.length ≤ c) (hlen : (Lib.join (xs.map (·.data.toList)) sep.data.toList).length ≤ 140737488355328) :
    Calls Tryd.prog 37 #[.slice (some ⟨bk, o, none⟩) xs.length c, .string sep] w fun e w' => e = .returned (.string ⟨(Lib.join (xs.map (·.data.toList)) sep.data.toList).toArray⟩) ∧ Below w.heap.size w w' := Any.strings_Join Tryd.lays156 Tryd.Builder_Extra_156 bk o c xs sep w hcells hbk hN hcap hlen
end
end Go.Proofs
namespace Go.Tree
open Go Go.Proofs
set_option linter.unusedVariables false
set_option maxRecDepth 100000
theorem strings_Join_ok : strings_Join_C.Ok E0 := join_ok (E := E0) (by kernel_rfl) (by kernel_rfl) Go.Proofs.Tryd.strings_Join_none Go.Proofs.Tryd.strings_Join
def impl_joined_arg : Sh := ⟨[(0, .c (.rd [] .str)), (1, .c (.rd [] .i64))], [], []⟩
def impl_joined_res : List Sh := [⟨[(0, .c (.own 0))], [], [(0, .str)]⟩]
noncomputable def impl_joined_s0 (x : (List ByteArray × Unit × Int × List Int × Int × Int × Unit) × Unit × (List ByteArray × Unit)) : Option (((List ByteArray × Unit × Int × List Int × Int × Int × Unit) × Unit × (List ByteArray × Unit)) ⊕ ((Unit × Unit) × Unit × (List ByteArray × Unit))) :=
 let x1 : Bool := decide (x.1.2.2.2.2.2.1 < x.1.2.2.2.2.1);
 br x1
 (ck (0 ≤ x.1.2.2.2.2.2.1)
 (ck (x.1.2.2.2.2.2.1.toNat < x.1.2.2.2.1.length)
 (let x2 : Int := x.1.2.2.2.1.getD x.1.2.2.2.2.2.1.toNat 0;
 let x3 : Int := w64 (x.1.2.2.1 + x2);
 ck (0 ≤ x.1.2.2.1)
 (ck (0 ≤ x3)
 (ck (x.1.2.2.1.toNat ≤ x3.toNat ∧ x3.toNat ≤ x.1.1.length)
 (let x4 : List ByteArray := cut x.1.1 x.1.2.2.1.toNat x3.toNat;
 (strings_Join x4 (ByteArray.mk #[32])).bind fun r5 =>
 ck ((x.2.2.1.length + [r5.1.1].length) * 16 ≤ 140737488355328 ∧ (x.2.2.1.length + [r5.1.1].length) ≤ 9223372036854775807)
 (let x6 : List ByteArray := x.2.2.1 ++ [r5.1.1];
 let x7 : Int := w64 (x.1.2.2.2.2.2.1 + (1 : Int));
 some (.inl ((x.1.1, (), x3, x.1.2.2.2.1, x.1.2.2.2.2.1, x7, ()), (), (x6, ()))))))))))
 (some (.inr (((), ()), (), (x.2.2.1, ()))))
def impl_joined_h0 : Sh := ⟨[(0, .c (.rd [] .str)), (5, .c (.own 0)), (6, .c (.int .i64)), (10, .c (.rd [] .i64)), (11, .c (.int .i64)), (12, .c (.int .i64))], [], [(0, .str)]⟩
def impl_joined_r0 : List Sh := [⟨[(5, .c (.own 0))], [], [(0, .str)]⟩]
noncomputable def impl_joined_L0 : Lp := ⟨0, [], impl_joined_h0, [], [(.exit 0, [])], impl_joined_r0, loopC impl_joined_s0⟩
noncomputable def impl_joined (a0 : List ByteArray) (a1 : List Int) : Option ((Unit × Unit) × Unit × (List ByteArray × Unit)) :=
 (loopC impl_joined_s0 ((a0, (), (0 : Int), a1, (a1.length : Int), (0 : Int), ()), (), ([], ()))).bind fun r8 =>
 some (((), ()), (), (r8.2.2.1, ()))
noncomputable def impl_joined_C : Ctr := ⟨27, impl_joined_arg, impl_joined_res, fun x => impl_joined x.1.1 x.1.2.1, none⟩
def impl_joined_H : Hint := ⟨[], [], [], fun _ => []⟩
noncomputable def impl_joined_T : List Ctr := [strings_Join_C]
noncomputable def impl_joined_Ls : List Lp := [impl_joined_L0]
theorem impl_joined_l0 : ∀ x, impl_joined_s0 x = stepW E0 impl_joined_T impl_joined_Ls impl_joined_H (loopAt (bodyOf Tryd.f27) 0) 0 impl_joined_h0 [] [(.exit 0, [])] impl_joined_r0 x := fun x => by kernel_rfl
theorem impl_joined_e : ∀ x, impl_joined_C.F x = runBodyW E0 impl_joined_T impl_joined_Ls impl_joined_H 27 Tryd.f27.results.toList (bodyOf Tryd.f27) [] (impl_joined_arg.mk' x) impl_joined_res := fun x => by kernel_rfl
theorem impl_joined_ok : impl_joined_C.Ok E0 := fn_ok (T := impl_joined_T) (h := impl_joined_H) (Ls := impl_joined_Ls) E0_mixed (T_cons strings_Join_ok T_nil) Tryd.func27 (bodyOf_some (by kernel_rfl)) (by kernel_rfl) (loops_of (ks := [0]) (by kernel_rfl) ⟨(loop_one (h := impl_joined_H) (own := []) (head := impl_joined_h0) (back := []) (exs := [(.exit 0, [])]) (res := impl_joined_r0) (step := impl_joined_s0) (by kernel_rfl) impl_joined_l0), trivial⟩) impl_joined_e
def impl_SetGalley_arg : Sh := ⟨[(0, .agg [.str, .rd [] .i64, .rd [] .i64]), (1, .agg [.int .i64, .int .i64, .int .i64]), (2, .c (.str))], [], []⟩
def impl_SetGalley_res : List Sh := [⟨[(0, .c (.own 0)), (1, .c (.bool))], [], [(0, .str)]⟩]
noncomputable def impl_SetGalley (a0_0 : ByteArray) (a0_1 : List Int) (a0_2 : List Int) (a1_0 : Int) (a1_1 : Int) (a1_2 : Int) (a2 : ByteArray) : Option ((Unit × Bool × Unit) × Unit × (List ByteArray × Unit)) :=
 (impl_WordWidths a0_0 a0_1 a0_2 a2).bind fun r1 =>
 br (!r1.1.2.1)
 (some (((), false, ()), (), ([], ())))
 ((impl_GreedyBreaking a1_0 a1_1 a1_2 r1.2.2.1).bind fun r2 =>
 br (!r2.1.2.1)
 (some (((), false, ()), (), ([], ())))
 ((impl_wordsOf a2).bind fun r3 =>
 (impl_joined r3.2.2.1 r2.2.2.1).bind fun r4 =>
 some (((), true, ()), (), (r4.2.2.1, ()))))
noncomputable def impl_SetGalley_C : Ctr := ⟨9, impl_SetGalley_arg, impl_SetGalley_res, fun x => impl_SetGalley x.1.1.1 x.1.1.2.1 x.1.1.2.2.1 x.1.2.1.1 x.1.2.1.2.1 x.1.2.1.2.2.1 x.1.2.2.1, none⟩
def impl_SetGalley_H : Hint := ⟨[], [], [], fun _ => []⟩
noncomputable def impl_SetGalley_T : List Ctr := [impl_WordWidths_C, impl_GreedyBreaking_C, impl_wordsOf_C, impl_joined_C]
noncomputable def impl_SetGalley_Ls : List Lp := []
theorem impl_SetGalley_e : ∀ x, impl_SetGalley_C.F x = runBodyW E0 impl_SetGalley_T impl_SetGalley_Ls impl_SetGalley_H 9 Tryd.f9.results.toList (bodyOf Tryd.f9) [(.tm 6, 6000000, .str)] (impl_SetGalley_arg.mk' x) impl_SetGalley_res := fun x => by kernel_rfl
theorem impl_SetGalley_ok : impl_SetGalley_C.Ok E0 := fn_ok (T := impl_SetGalley_T) (h := impl_SetGalley_H) (Ls := impl_SetGalley_Ls) E0_mixed (T_cons impl_WordWidths_ok (T_cons impl_GreedyBreaking_ok (T_cons impl_wordsOf_ok (T_cons impl_joined_ok T_nil)))) Tryd.func9 (bodyOf_some (by kernel_rfl)) (by kernel_rfl) (loops_of (ks := []) (by kernel_rfl) trivial) impl_SetGalley_e
def laws_eqStringS_arg : Sh := ⟨[(0, .c (.rd [] .str)), (1, .c (.rd [] .str))], [], []⟩
def laws_eqStringS_res : List Sh := [⟨[(0, .c (.bool))], [], []⟩]
noncomputable def laws_eqStringS_s0 (x : (List ByteArray × List ByteArray × Int × Unit) × Unit × Unit) : Option (((List ByteArray × List ByteArray × Int × Unit) × Unit × Unit) ⊕ (((Bool × Unit) × Unit × Unit) ⊕ (Unit × Unit × Unit))) :=
 let x2 : Bool := decide (x.1.2.2.1 < (x.1.1.length : Int));
 br x2
 (ck (0 ≤ x.1.2.2.1)
 (ck (x.1.2.2.1.toNat < x.1.1.length)
 (let x3 : ByteArray := x.1.1.getD x.1.2.2.1.toNat ByteArray.empty;
 ck (0 ≤ x.1.2.2.1)
 (ck (x.1.2.2.1.toNat < x.1.2.1.length)
 (let x4 : ByteArray := x.1.2.1.getD x.1.2.2.1.toNat ByteArray.empty;
 let x5 : Bool := !strEq x3 x4;
 br x5
 (some (.inr (.inl ((false, ()), (), ()))))
 (let x6 : Int := w64 (x.1.2.2.1 + (1 : Int));
 some (.inl ((x.1.1, x.1.2.1, x6, ()), (), ()))))))))
 (some (.inr (.inr ((), (), ()))))
def laws_eqStringS_h0 : Sh := ⟨[(0, .c (.rd [] .str)), (1, .c (.rd [] .str)), (5, .c (.int .i64))], [], []⟩
def laws_eqStringS_r0 : List Sh := [⟨[(4, .c (.bool))], [], []⟩, ⟨[], [], []⟩]
noncomputable def laws_eqStringS_L0 : Lp := ⟨0, [], laws_eqStringS_h0, [], [(.ret, []), (.exit 0, [])], laws_eqStringS_r0, loopC laws_eqStringS_s0⟩
noncomputable def laws_eqStringS (a0 : List ByteArray) (a1 : List ByteArray) : Option ((Bool × Unit) × Unit × Unit) :=
 let x1 : Bool := (a0.length : Int) != (a1.length : Int);
 br x1
 (some ((false, ()), (), ()))
 ((loopC laws_eqStringS_s0 ((a0, a1, (0 : Int), ()), (), ())).bind fun r7 =>
 sumK r7 (fun y10 =>
 some ((y10.1.1, ()), (), ())) (fun y11 =>
 some ((true, ()), (), ())))
noncomputable def laws_eqStringS_C : Ctr := ⟨10, laws_eqStringS_arg, laws_eqStringS_res, fun x => laws_eqStringS x.1.1 x.1.2.1, none⟩
def laws_eqStringS_H : Hint := ⟨[], [], [], fun _ => []⟩
noncomputable def laws_eqStringS_T : List Ctr := []
noncomputable def laws_eqStringS_Ls : List Lp := [laws_eqStringS_L0]
theorem laws_eqStringS_l0 : ∀ x, laws_eqStringS_s0 x = stepW E0 laws_eqStringS_T laws_eqStringS_Ls laws_eqStringS_H (loopAt (bodyOf Tryd.f10) 0) 0 laws_eqStringS_h0 [] [(.ret, []), (.exit 0, [])] laws_eqStringS_r0 x := fun x => by kernel_rfl
theorem laws_eqStringS_e : ∀ x, laws_eqStringS_C.F x = runBodyW E0 laws_eqStringS_T laws_eqStringS_Ls laws_eqStringS_H 10 Tryd.f10.results.toList (bodyOf Tryd.f10) [] (laws_eqStringS_arg.mk' x) laws_eqStringS_res := fun x => by kernel_rfl
theorem laws_eqStringS_ok : laws_eqStringS_C.Ok E0 := fn_ok (T := laws_eqStringS_T) (h := laws_eqStringS_H) (Ls := laws_eqStringS_Ls) E0_mixed T_nil Tryd.func10 (bodyOf_some (by kernel_rfl)) (by kernel_rfl) (loops_of (ks := [0]) (by kernel_rfl) ⟨(loop_one (h := laws_eqStringS_H) (own := []) (head := laws_eqStringS_h0) (back := []) (exs := [(.ret, []), (.exit 0, [])]) (res := laws_eqStringS_r0) (step := laws_eqStringS_s0) (by kernel_rfl) laws_eqStringS_l0), trivial⟩) laws_eqStringS_e
def laws_eqIntS_arg : Sh := ⟨[(0, .c (.rd [] .i64)), (1, .c (.rd [] .i64))], [], []⟩
def laws_eqIntS_res : List Sh := [⟨[(0, .c (.bool))], [], []⟩]
noncomputable def laws_eqIntS_s0 (x : (List Int × List Int × Int × Unit) × Unit × Unit) : Option (((List Int × List Int × Int × Unit) × Unit × Unit) ⊕ (((Bool × Unit) × Unit × Unit) ⊕ (Unit × Unit × Unit))) :=
 let x2 : Bool := decide (x.1.2.2.1 < (x.1.1.length : Int));
 br x2
 (ck (0 ≤ x.1.2.2.1)
 (ck (x.1.2.2.1.toNat < x.1.1.length)
 (let x3 : Int := x.1.1.getD x.1.2.2.1.toNat 0;
 ck (0 ≤ x.1.2.2.1)
 (ck (x.1.2.2.1.toNat < x.1.2.1.length)
 (let x4 : Int := x.1.2.1.getD x.1.2.2.1.toNat 0;
 let x5 : Bool := x3 != x4;
 br x5
 (some (.inr (.inl ((false, ()), (), ()))))
 (let x6 : Int := w64 (x.1.2.2.1 + (1 : Int));
 some (.inl ((x.1.1, x.1.2.1, x6, ()), (), ()))))))))
 (some (.inr (.inr ((), (), ()))))
def laws_eqIntS_h0 : Sh := ⟨[(0, .c (.rd [] .i64)), (1, .c (.rd [] .i64)), (5, .c (.int .i64))], [], []⟩
def laws_eqIntS_r0 : List Sh := [⟨[(4, .c (.bool))], [], []⟩, ⟨[], [], []⟩]
noncomputable def laws_eqIntS_L0 : Lp := ⟨0, [], laws_eqIntS_h0, [], [(.ret, []), (.exit 0, [])], laws_eqIntS_r0, loopC laws_eqIntS_s0⟩
noncomputable def laws_eqIntS (a0 : List Int) (a1 : List Int) : Option ((Bool × Unit) × Unit × Unit) :=
 let x1 : Bool := (a0.length : Int) != (a1.length : Int);
 br x1
 (some ((false, ()), (), ()))
 ((loopC laws_eqIntS_s0 ((a0, a1, (0 : Int), ()), (), ())).bind fun r7 =>
 sumK r7 (fun y10 =>
 some ((y10.1.1, ()), (), ())) (fun y11 =>
 some ((true, ()), (), ())))
noncomputable def laws_eqIntS_C : Ctr := ⟨29, laws_eqIntS_arg, laws_eqIntS_res, fun x => laws_eqIntS x.1.1 x.1.2.1, none⟩
def laws_eqIntS_H : Hint := ⟨[], [], [], fun _ => []⟩
noncomputable def laws_eqIntS_T : List Ctr := []
noncomputable def laws_eqIntS_Ls : List Lp := [laws_eqIntS_L0]
theorem laws_eqIntS_l0 : ∀ x, laws_eqIntS_s0 x = stepW E0 laws_eqIntS_T laws_eqIntS_Ls laws_eqIntS_H (loopAt (bodyOf Tryd.f29) 0) 0 laws_eqIntS_h0 [] [(.ret, []), (.exit 0, [])] laws_eqIntS_r0 x := fun x => by kernel_rfl
theorem laws_eqIntS_e : ∀ x, laws_eqIntS_C.F x = runBodyW E0 laws_eqIntS_T laws_eqIntS_Ls laws_eqIntS_H 29 Tryd.f29.results.toList (bodyOf Tryd.f29) [] (laws_eqIntS_arg.mk' x) laws_eqIntS_res := fun x => by kernel_rfl
theorem laws_eqIntS_ok : laws_eqIntS_C.Ok E0 := fn_ok (T := laws_eqIntS_T) (h := laws_eqIntS_H) (Ls := laws_eqIntS_Ls) E0_mixed T_nil Tryd.func29 (bodyOf_some (by kernel_rfl)) (by kernel_rfl) (loops_of (ks := [0]) (by kernel_rfl) ⟨(loop_one (h := laws_eqIntS_H) (own := []) (head := laws_eqIntS_h0) (back := []) (exs := [(.ret, []), (.exit 0, [])]) (res := laws_eqIntS_r0) (step := laws_eqIntS_s0) (by kernel_rfl) laws_eqIntS_l0), trivial⟩) laws_eqIntS_e
def laws_eqFont_arg : Sh := ⟨[(0, .agg [.str, .rd [] .i64, .rd [] .i64]), (1, .agg [.str, .rd [] .i64, .rd [] .i64])], [], []⟩
def laws_eqFont_res : List Sh := [⟨[(0, .c (.bool))], [], []⟩]
noncomputable def laws_eqFont (a0_0 : ByteArray) (a0_1 : List Int) (a0_2 : List Int) (a1_0 : ByteArray) (a1_1 : List Int) (a1_2 : List Int) : Option ((Bool × Unit) × Unit × Unit) :=
 let x1 : Bool := !strEq a0_0 a1_0;
 br x1
 (some ((false, ()), (), ()))
 ((laws_eqIntS a0_1 a1_1).bind fun r2 =>
 br (!r2.1.1)
 (some ((false, ()), (), ()))
 ((laws_eqIntS a0_2 a1_2).bind fun r3 =>
 br (!r3.1.1)
 (some ((false, ()), (), ()))
 (some ((true, ()), (), ()))))
noncomputable def laws_eqFont_C : Ctr := ⟨11, laws_eqFont_arg, laws_eqFont_res, fun x => laws_eqFont x.1.1.1 x.1.1.2.1 x.1.1.2.2.1 x.1.2.1.1 x.1.2.1.2.1 x.1.2.1.2.2.1, none⟩
def laws_eqFont_H : Hint := ⟨[], [], [], fun _ => []⟩
noncomputable def laws_eqFont_T : List Ctr := [laws_eqIntS_C]
noncomputable def laws_eqFont_Ls : List Lp := []
theorem laws_eqFont_e : ∀ x, laws_eqFont_C.F x = runBodyW E0 laws_eqFont_T laws_eqFont_Ls laws_eqFont_H 11 Tryd.f11.results.toList (bodyOf Tryd.f11) [] (laws_eqFont_arg.mk' x) laws_eqFont_res := fun x => by kernel_rfl
theorem laws_eqFont_ok : laws_eqFont_C.Ok E0 := fn_ok (T := laws_eqFont_T) (h := laws_eqFont_H) (Ls := laws_eqFont_Ls) E0_mixed (T_cons laws_eqIntS_ok T_nil) Tryd.func11 (bodyOf_some (by kernel_rfl)) (by kernel_rfl) (loops_of (ks := []) (by kernel_rfl) trivial) laws_eqFont_e
def laws_markIntS_arg : Sh := ⟨[(0, .c (.own 0)), (1, .c (.int .i64))], [], [(0, .i64)]⟩
def laws_markIntS_res : List Sh := [⟨[(0, .c (.int .i64)), (1, .c (.own 0))], [], [(0, .i64)]⟩]
noncomputable def laws_markIntS_s0 (x : (Unit × Int × Int × Unit) × Unit × (List Int × Unit)) : Option (((Unit × Int × Int × Unit) × Unit × (List Int × Unit)) ⊕ ((Unit × Int × Unit) × Unit × (List Int × Unit))) :=
 let x1 : Bool := decide (x.1.2.2.1 < (x.2.2.1.length : Int));
 br x1
 (ck (0 ≤ x.1.2.2.1)
 (ck (x.1.2.2.1.toNat < x.2.2.1.length)
 (ck (x.1.2.2.1.toNat < x.2.2.1.length)
 (let x2 : List Int := x.2.2.1.set x.1.2.2.1.toNat x.1.2.1;
 let x3 : Int := w64 (x.1.2.1 + (1 : Int));
 let x4 : Int := w64 (x.1.2.2.1 + (1 : Int));
 some (.inl (((), x3, x4, ()), (), (x2, ())))))))
 (some (.inr (((), x.1.2.1, ()), (), (x.2.2.1, ()))))
def laws_markIntS_h0 : Sh := ⟨[(0, .c (.own 0)), (1, .c (.int .i64)), (5, .c (.int .i64))], [], [(0, .i64)]⟩
def laws_markIntS_r0 : List Sh := [⟨[(0, .c (.own 0)), (1, .c (.int .i64))], [], [(0, .i64)]⟩]
noncomputable def laws_markIntS_L0 : Lp := ⟨0, [], laws_markIntS_h0, [], [(.exit 0, [])], laws_markIntS_r0, loopC laws_markIntS_s0⟩
noncomputable def laws_markIntS (a1 : Int) (o0 : List Int) : Option ((Int × Unit × Unit) × Unit × (List Int × Unit)) :=
 (loopC laws_markIntS_s0 (((), a1, (0 : Int), ()), (), (o0, ()))).bind fun r5 =>
 some ((r5.1.2.1, (), ()), (), (r5.2.2.1, ()))
noncomputable def laws_markIntS_C : Ctr := ⟨30, laws_markIntS_arg, laws_markIntS_res, fun x => laws_markIntS x.1.2.1 x.2.2.1, none⟩
def laws_markIntS_H : Hint := ⟨[], [], [], fun _ => []⟩
noncomputable def laws_markIntS_T : List Ctr := []
noncomputable def laws_markIntS_Ls : List Lp := [laws_markIntS_L0]
theorem laws_markIntS_l0 : ∀ x, laws_markIntS_s0 x = stepW E0 laws_markIntS_T laws_markIntS_Ls laws_markIntS_H (loopAt (bodyOf Tryd.f30) 0) 0 laws_markIntS_h0 [] [(.exit 0, [])] laws_markIntS_r0 x := fun x => by kernel_rfl
theorem laws_markIntS_e : ∀ x, laws_markIntS_C.F x = runBodyW E0 laws_markIntS_T laws_markIntS_Ls laws_markIntS_H 30 Tryd.f30.results.toList (bodyOf Tryd.f30) [] (laws_markIntS_arg.mk' x) laws_markIntS_res := fun x => by kernel_rfl
theorem laws_markIntS_ok : laws_markIntS_C.Ok E0 := fn_ok (T := laws_markIntS_T) (h := laws_markIntS_H) (Ls := laws_markIntS_Ls) E0_mixed T_nil Tryd.func30 (bodyOf_some (by kernel_rfl)) (by kernel_rfl) (loops_of (ks := [0]) (by kernel_rfl) ⟨(loop_one (h := laws_markIntS_H) (own := []) (head := laws_markIntS_h0) (back := []) (exs := [(.exit 0, [])]) (res := laws_markIntS_r0) (step := laws_markIntS_s0) (by kernel_rfl) laws_markIntS_l0), trivial⟩) laws_markIntS_e
def laws_markFont_arg : Sh := ⟨[(0, .agg [.str, .own 0, .own 1]), (1, .c (.int .i64))], [], [(0, .i64), (1, .i64)]⟩
def laws_markFont_res : List Sh := [⟨[(0, .c (.int .i64)), (1, .agg [.str, .own 0, .own 1])], [], [(0, .i64), (1, .i64)]⟩]
noncomputable def laws_markFont (a0_0 : ByteArray) (a1 : Int) (o0 : List Int) (o1 : List Int) : Option ((Int × (ByteArray × Unit × Unit × Unit) × Unit) × Unit × (List Int × List Int × Unit)) :=
 (laws_markIntS a1 o0).bind fun r1 =>
 (laws_markIntS r1.1.1 o1).bind fun r2 =>
 some ((r2.1.1, (a0_0, (), (), ()), ()), (), (r1.2.2.1, r2.2.2.1, ()))
noncomputable def laws_markFont_C : Ctr := ⟨12, laws_markFont_arg, laws_markFont_res, fun x => laws_markFont x.1.1.1 x.1.2.1 x.2.2.1 x.2.2.2.1, none⟩
def laws_markFont_H : Hint := ⟨[], [], [], fun _ => []⟩
noncomputable def laws_markFont_T : List Ctr := [laws_markIntS_C]
noncomputable def laws_markFont_Ls : List Lp := []
theorem laws_markFont_e : ∀ x, laws_markFont_C.F x = runBodyW E0 laws_markFont_T laws_markFont_Ls laws_markFont_H 12 Tryd.f12.results.toList (bodyOf Tryd.f12) [] (laws_markFont_arg.mk' x) laws_markFont_res := fun x => by kernel_rfl
theorem laws_markFont_ok : laws_markFont_C.Ok E0 := fn_ok (T := laws_markFont_T) (h := laws_markFont_H) (Ls := laws_markFont_Ls) E0_mixed (T_cons laws_markIntS_ok T_nil) Tryd.func12 (bodyOf_some (by kernel_rfl)) (by kernel_rfl) (loops_of (ks := []) (by kernel_rfl) trivial) laws_markFont_e
def laws_markText_arg : Sh := ⟨[(0, .c (.int .i64))], [], []⟩
def laws_markText_res : List Sh := [⟨[(0, .c (.str))], [], []⟩]
noncomputable def laws_markText_s0 (x : (Int × ByteArray × Unit) × Unit × Unit) : Option (((Int × ByteArray × Unit) × Unit × Unit) ⊕ ((ByteArray × Unit) × Unit × Unit)) :=
 let x2 : Bool := decide (x.1.1 > (0 : Int));
 br x2
 (let x3 : Int := x.1.1.tmod (10 : Int);
 let x4 : Int := w64 ((48 : Int) + x3);
 let x5 : Int := IntKind.u8.wrap x4;
 let x6 : ByteArray := ofBytes [x5];
 ck (((x6.size + x.1.2.1.size : Nat) : Int) ≤ IntKind.i64.max)
 (let x7 : ByteArray := x6 ++ x.1.2.1;
 let x8 : Int := w64 (x.1.1.tdiv (10 : Int));
 some (.inl ((x8, x7, ()), (), ()))))
 (some (.inr ((x.1.2.1, ()), (), ())))
def laws_markText_h0 : Sh := ⟨[(0, .c (.int .i64)), (3, .c (.str))], [], []⟩
def laws_markText_r0 : List Sh := [⟨[(3, .c (.str))], [], []⟩]
noncomputable def laws_markText_L0 : Lp := ⟨0, [], laws_markText_h0, [], [(.exit 0, [])], laws_markText_r0, loopC laws_markText_s0⟩
noncomputable def laws_markText (a0 : Int) : Option ((ByteArray × Unit) × Unit × Unit) :=
 let x1 : Bool := decide (a0 ≤ (0 : Int));
 br x1
 (some (((ByteArray.mk #[109, 48]), ()), (), ()))
 ((loopC laws_markText_s0 ((a0, ByteArray.empty, ()), (), ())).bind fun r9 =>
 ck ((((ByteArray.mk #[109]).size + r9.1.1.size : Nat) : Int) ≤ IntKind.i64.max)
 (let x10 : ByteArray := (ByteArray.mk #[109]) ++ r9.1.1;
 some ((x10, ()), (), ())))
noncomputable def laws_markText_C : Ctr := ⟨31, laws_markText_arg, laws_markText_res, fun x => laws_markText x.1.1, none⟩
def laws_markText_H : Hint := ⟨[], [], [], fun _ => []⟩
noncomputable def laws_markText_T : List Ctr := []
noncomputable def laws_markText_Ls : List Lp := [laws_markText_L0]
theorem laws_markText_l0 : ∀ x, laws_markText_s0 x = stepW E0 laws_markText_T laws_markText_Ls laws_markText_H (loopAt (bodyOf Tryd.f31) 0) 0 laws_markText_h0 [] [(.exit 0, [])] laws_markText_r0 x := fun x => by kernel_rfl
theorem laws_markText_e : ∀ x, laws_markText_C.F x = runBodyW E0 laws_markText_T laws_markText_Ls laws_markText_H 31 Tryd.f31.results.toList (bodyOf Tryd.f31) [] (laws_markText_arg.mk' x) laws_markText_res := fun x => by kernel_rfl
theorem laws_markText_ok : laws_markText_C.Ok E0 := fn_ok (T := laws_markText_T) (h := laws_markText_H) (Ls := laws_markText_Ls) E0_mixed T_nil Tryd.func31 (bodyOf_some (by kernel_rfl)) (by kernel_rfl) (loops_of (ks := [0]) (by kernel_rfl) ⟨(loop_one (h := laws_markText_H) (own := []) (head := laws_markText_h0) (back := []) (exs := [(.exit 0, [])]) (res := laws_markText_r0) (step := laws_markText_s0) (by kernel_rfl) laws_markText_l0), trivial⟩) laws_markText_e
def laws_markStringS_arg : Sh := ⟨[(0, .c (.own 0)), (1, .c (.int .i64))], [], [(0, .str)]⟩
def laws_markStringS_res : List Sh := [⟨[(0, .c (.int .i64)), (1, .c (.own 0))], [], [(0, .str)]⟩]
noncomputable def laws_markStringS_s0 (x : (Unit × Int × Int × Unit) × Unit × (List ByteArray × Unit)) : Option (((Unit × Int × Int × Unit) × Unit × (List ByteArray × Unit)) ⊕ ((Unit × Int × Unit) × Unit × (List ByteArray × Unit))) :=
 let x1 : Bool := decide (x.1.2.2.1 < (x.2.2.1.length : Int));
 br x1
 ((laws_markText x.1.2.1).bind fun r2 =>
 ck (0 ≤ x.1.2.2.1)
 (ck (x.1.2.2.1.toNat < x.2.2.1.length)
 (ck (x.1.2.2.1.toNat < x.2.2.1.length)
 (let x3 : List ByteArray := x.2.2.1.set x.1.2.2.1.toNat r2.1.1;
 let x4 : Int := w64 (x.1.2.1 + (1 : Int));
 let x5 : Int := w64 (x.1.2.2.1 + (1 : Int));
 some (.inl (((), x4, x5, ()), (), (x3, ())))))))
 (some (.inr (((), x.1.2.1, ()), (), (x.2.2.1, ()))))
def laws_markStringS_h0 : Sh := ⟨[(0, .c (.own 0)), (1, .c (.int .i64)), (5, .c (.int .i64))], [], [(0, .str)]⟩
def laws_markStringS_r0 : List Sh := [⟨[(0, .c (.own 0)), (1, .c (.int .i64))], [], [(0, .str)]⟩]
noncomputable def laws_markStringS_L0 : Lp := ⟨0, [], laws_markStringS_h0, [], [(.exit 0, [])], laws_markStringS_r0, loopC laws_markStringS_s0⟩
noncomputable def laws_markStringS (a1 : Int) (o0 : List ByteArray) : Option ((Int × Unit × Unit) × Unit × (List ByteArray × Unit)) :=
 (loopC laws_markStringS_s0 (((), a1, (0 : Int), ()), (), (o0, ()))).bind fun r6 =>
 some ((r6.1.2.1, (), ()), (), (r6.2.2.1, ()))
noncomputable def laws_markStringS_C : Ctr := ⟨13, laws_markStringS_arg, laws_markStringS_res, fun x => laws_markStringS x.1.2.1 x.2.2.1, none⟩
def laws_markStringS_H : Hint := ⟨[], [], [], fun _ => []⟩
noncomputable def laws_markStringS_T : List Ctr := [laws_markText_C]
noncomputable def laws_markStringS_Ls : List Lp := [laws_markStringS_L0]
theorem laws_markStringS_l0 : ∀ x, laws_markStringS_s0 x = stepW E0 laws_markStringS_T laws_markStringS_Ls laws_markStringS_H (loopAt (bodyOf Tryd.f13) 0) 0 laws_markStringS_h0 [] [(.exit 0, [])] laws_markStringS_r0 x := fun x => by kernel_rfl
theorem laws_markStringS_e : ∀ x, laws_markStringS_C.F x = runBodyW E0 laws_markStringS_T laws_markStringS_Ls laws_markStringS_H 13 Tryd.f13.results.toList (bodyOf Tryd.f13) [] (laws_markStringS_arg.mk' x) laws_markStringS_res := fun x => by kernel_rfl
theorem laws_markStringS_ok : laws_markStringS_C.Ok E0 := fn_ok (T := laws_markStringS_T) (h := laws_markStringS_H) (Ls := laws_markStringS_Ls) E0_mixed (T_cons laws_markText_ok T_nil) Tryd.func13 (bodyOf_some (by kernel_rfl)) (by kernel_rfl) (loops_of (ks := [0]) (by kernel_rfl) ⟨(loop_one (h := laws_markStringS_H) (own := []) (head := laws_markStringS_h0) (back := []) (exs := [(.exit 0, [])]) (res := laws_markStringS_r0) (step := laws_markStringS_s0) (by kernel_rfl) laws_markStringS_l0), trivial⟩) laws_markStringS_e
def laws_heldStringS_arg : Sh := ⟨[(0, .c (.rd [] .str)), (1, .c (.int .i64))], [], []⟩
def laws_heldStringS_res : List Sh := [⟨[(0, .c (.int .i64))], [], []⟩]
noncomputable def laws_heldStringS_s0 (x : (List ByteArray × Int × Int × Unit) × Unit × Unit) : Option (((List ByteArray × Int × Int × Unit) × Unit × Unit) ⊕ (((Int × Unit) × Unit × Unit) ⊕ ((Int × Unit) × Unit × Unit))) :=
 let x1 : Bool := decide (x.1.2.2.1 < (x.1.1.length : Int));
 br x1
 (ck (0 ≤ x.1.2.2.1)
 (ck (x.1.2.2.1.toNat < x.1.1.length)
 (let x2 : ByteArray := x.1.1.getD x.1.2.2.1.toNat ByteArray.empty;
 (laws_markText x.1.2.1).bind fun r3 =>
 let x4 : Bool := !strEq x2 r3.1.1;
 br x4
 (some (.inr (.inl (((-1 : Int), ()), (), ()))))
 (let x5 : Int := w64 (x.1.2.1 + (1 : Int));
 let x6 : Int := w64 (x.1.2.2.1 + (1 : Int));
 some (.inl ((x.1.1, x5, x6, ()), (), ()))))))
 (some (.inr (.inr ((x.1.2.1, ()), (), ()))))
def laws_heldStringS_h0 : Sh := ⟨[(0, .c (.rd [] .str)), (1, .c (.int .i64)), (5, .c (.int .i64))], [], []⟩
def laws_heldStringS_r0 : List Sh := [⟨[(4, .c (.int .i64))], [], []⟩, ⟨[(1, .c (.int .i64))], [], []⟩]
noncomputable def laws_heldStringS_L0 : Lp := ⟨0, [], laws_heldStringS_h0, [], [(.ret, []), (.exit 0, [])], laws_heldStringS_r0, loopC laws_heldStringS_s0⟩
noncomputable def laws_heldStringS (a0 : List ByteArray) (a1 : Int) : Option ((Int × Unit) × Unit × Unit) :=
 (loopC laws_heldStringS_s0 ((a0, a1, (0 : Int), ()), (), ())).bind fun r7 =>
 sumK r7 (fun y10 =>
 some ((y10.1.1, ()), (), ())) (fun y11 =>
 some ((y11.1.1, ()), (), ()))
noncomputable def laws_heldStringS_C : Ctr := ⟨14, laws_heldStringS_arg, laws_heldStringS_res, fun x => laws_heldStringS x.1.1 x.1.2.1, none⟩
def laws_heldStringS_H : Hint := ⟨[], [], [], fun _ => []⟩
noncomputable def laws_heldStringS_T : List Ctr := [laws_markText_C]
noncomputable def laws_heldStringS_Ls : List Lp := [laws_heldStringS_L0]
theorem laws_heldStringS_l0 : ∀ x, laws_heldStringS_s0 x = stepW E0 laws_heldStringS_T laws_heldStringS_Ls laws_heldStringS_H (loopAt (bodyOf Tryd.f14) 0) 0 laws_heldStringS_h0 [] [(.ret, []), (.exit 0, [])] laws_heldStringS_r0 x := fun x => by kernel_rfl
theorem laws_heldStringS_e : ∀ x, laws_heldStringS_C.F x = runBodyW E0 laws_heldStringS_T laws_heldStringS_Ls laws_heldStringS_H 14 Tryd.f14.results.toList (bodyOf Tryd.f14) [] (laws_heldStringS_arg.mk' x) laws_heldStringS_res := fun x => by kernel_rfl
theorem laws_heldStringS_ok : laws_heldStringS_C.Ok E0 := fn_ok (T := laws_heldStringS_T) (h := laws_heldStringS_H) (Ls := laws_heldStringS_Ls) E0_mixed (T_cons laws_markText_ok T_nil) Tryd.func14 (bodyOf_some (by kernel_rfl)) (by kernel_rfl) (loops_of (ks := [0]) (by kernel_rfl) ⟨(loop_one (h := laws_heldStringS_H) (own := []) (head := laws_heldStringS_h0) (back := []) (exs := [(.ret, []), (.exit 0, [])]) (res := laws_heldStringS_r0) (step := laws_heldStringS_s0) (by kernel_rfl) laws_heldStringS_l0), trivial⟩) laws_heldStringS_e
def laws_FnExactSetGalley_arg : Sh := ⟨[(0, .agg [.str, .rd [] .i64, .rd [] .i64]), (1, .agg [.int .i64, .int .i64, .int .i64]), (2, .c (.str))], [], []⟩
def laws_FnExactSetGalley_res : List Sh := [⟨[(0, .c (.bool))], [], []⟩]
noncomputable def laws_FnExactSetGalley (a0_0 : ByteArray) (a0_1 : List Int) (a0_2 : List Int) (a1_0 : Int) (a1_1 : Int) (a1_2 : Int) (a2 : ByteArray) : Option ((Bool × Unit) × Unit × Unit) :=
 let x1 : Bool := decide ((a2.size : Int) > (1048576 : Int));
 br x1
 (some ((true, ()), (), ()))
 ((laws_szFont a0_0 a0_1 a0_2 (1048576 : Int)).bind fun r2 =>
 let x3 : Bool := decide (r2.1.1 < (0 : Int));
 br x3
 (some ((true, ()), (), ()))
 ((laws_toFont a0_0 a0_1 a0_2).bind fun r4 =>
 (laws_toMeasure a1_0 a1_1 a1_2).bind fun r5 =>
 (spec_SetGalley r4.1.1.1 r4.2.2.1 r4.2.2.2.1 r5.1.1.1 r5.1.1.2.1 r5.1.1.2.2.1 a2).bind fun r6 =>
 (laws_toFont a0_0 a0_1 a0_2).bind fun r7 =>
 (laws_toMeasure a1_0 a1_1 a1_2).bind fun r8 =>
 (impl_SetGalley r7.1.1.1 r7.2.2.1 r7.2.2.2.1 r8.1.1.1 r8.1.1.2.1 r8.1.1.2.2.1 a2).bind fun r9 =>
 (laws_eqStringS r9.2.2.1 r6.2.2.1).bind fun r10 =>
 br (!r10.1.1)
 (some ((false, ()), (), ()))
 (let x11 : Bool := r9.1.2.1 != r6.1.2.1;
 br x11
 (some ((false, ()), (), ()))
 ((laws_toFont a0_0 a0_1 a0_2).bind fun r12 =>
 (laws_eqFont r7.1.1.1 r7.2.2.1 r7.2.2.2.1 r12.1.1.1 r12.2.2.1 r12.2.2.2.1).bind fun r13 =>
 br (!r13.1.1)
 (some ((false, ()), (), ()))
 ((laws_markFont r7.1.1.1 (1 : Int) r7.2.2.1 r7.2.2.2.1).bind fun r14 =>
 let x15 : Bool := decide (r14.1.1 < (0 : Int));
 br x15
 (some ((false, ()), (), ()))
 ((laws_eqStringS r9.2.2.1 r6.2.2.1).bind fun r16 =>
 br (!r16.1.1)
 (some ((false, ()), (), ()))
 (br x11
 (some ((false, ()), (), ()))
 ((laws_markStringS (1 : Int) r9.2.2.1).bind fun r17 =>
 (laws_heldStringS r17.2.2.1 (1 : Int)).bind fun r18 =>
 let x19 : Bool := decide (r18.1.1 < (0 : Int));
 br x19
 (some ((false, ()), (), ()))
 (let x20 : Bool := r18.1.1 != r17.1.1;
 br x20
 (some ((false, ()), (), ()))
 ((laws_toFont a0_0 a0_1 a0_2).bind fun r21 =>
 (laws_toMeasure a1_0 a1_1 a1_2).bind fun r22 =>
 (impl_SetGalley r21.1.1.1 r21.2.2.1 r21.2.2.2.1 r22.1.1.1 r22.1.1.2.1 r22.1.1.2.2.1 a2).bind fun r23 =>
 (laws_eqStringS r23.2.2.1 r6.2.2.1).bind fun r24 =>
 br (!r24.1.1)
 (some ((false, ()), (), ()))
 (let x25 : Bool := r23.1.2.1 != r6.1.2.1;
 br x25
 (some ((false, ()), (), ()))
 ((laws_heldStringS r17.2.2.1 (1 : Int)).bind fun r26 =>
 let x27 : Bool := decide (r26.1.1 < (0 : Int));
 br x27
 (some ((false, ()), (), ()))
 (let x28 : Bool := r26.1.1 != r17.1.1;
 br x28
 (some ((false, ()), (), ()))
 (some ((true, ()), (), ())))))))))))))))
noncomputable def laws_FnExactSetGalley_C : Ctr := ⟨3, laws_FnExactSetGalley_arg, laws_FnExactSetGalley_res, fun x => laws_FnExactSetGalley x.1.1.1 x.1.1.2.1 x.1.1.2.2.1 x.1.2.1.1 x.1.2.1.2.1 x.1.2.1.2.2.1 x.1.2.2.1, none⟩
def laws_FnExactSetGalley_H : Hint := ⟨[], [], [], fun _ => []⟩
noncomputable def laws_FnExactSetGalley_T : List Ctr := [laws_szFont_C, laws_toFont_C, laws_toMeasure_C, spec_SetGalley_C, impl_SetGalley_C, laws_eqStringS_C, laws_eqFont_C, laws_markFont_C, laws_markStringS_C, laws_heldStringS_C]
noncomputable def laws_FnExactSetGalley_Ls : List Lp := []
theorem laws_FnExactSetGalley_e : ∀ x, laws_FnExactSetGalley_C.F x = runBodyW E0 laws_FnExactSetGalley_T laws_FnExactSetGalley_Ls laws_FnExactSetGalley_H 3 Tryd.f3.results.toList (bodyOf Tryd.f3) [] (laws_FnExactSetGalley_arg.mk' x) laws_FnExactSetGalley_res := fun x => by kernel_rfl
theorem laws_FnExactSetGalley_ok : laws_FnExactSetGalley_C.Ok E0 := fn_ok (T := laws_FnExactSetGalley_T) (h := laws_FnExactSetGalley_H) (Ls := laws_FnExactSetGalley_Ls) E0_mixed (T_cons laws_szFont_ok (T_cons laws_toFont_ok (T_cons laws_toMeasure_ok (T_cons spec_SetGalley_ok (T_cons impl_SetGalley_ok (T_cons laws_eqStringS_ok (T_cons laws_eqFont_ok (T_cons laws_markFont_ok (T_cons laws_markStringS_ok (T_cons laws_heldStringS_ok T_nil)))))))))) Tryd.func3 (bodyOf_some (by kernel_rfl)) (by kernel_rfl) (loops_of (ks := []) (by kernel_rfl) trivial) laws_FnExactSetGalley_e
end Go.Tree
