/- What each function that the law FnExactNewDesk reaches computes, as a plain function, and the proof that the program's code computes it. No condition but the function's own answer. -/
import Derived.Test.YtkinnkjgdephhaaK8
import Derived.Lib.Hide
import Derived.Shelf.Bits.Mul64
import Derived.Deep.LoopGhost
import Derived.Deep.DeepCutAuto
import Derived.Deep.DeepFit
import Derived.Deep.CutBlock
import Derived.Deep.RegionLaw
import Derived.Deep.RegionHeld
import Derived.WalkKit
import Derived.Test.YtkinnkjgdephhaaProg
import Derived.KernelRfl
namespace Go.Tree
open Go Go.Proofs
set_option linter.unusedVariables false
set_option maxRecDepth 100000
noncomputable def E0 : Env := { P := Try.prog, hint := fun _ => ⟨[], [], [], fun _ => []⟩, mode := fun f => ([0, 0, 0, 0, 0, 0, 0, 0, 0, 0, 0, 0, 0, 0, 0, 0, 0, 0, 0, 0, 0, 0, 0, 0, 2, 2, 0, 0, 0, 0, 0, 0, 0, 0, 0, 2, 0, 0, 0, 0, 0, 0, 2, 0, 0, 0, 0, 0, 0, 0, 0, 0, 0, 0, 0, 0, 0, 0, 0, 0, 0, 0, 0, 0, 0, 0, 0, 0, 0, 0, 0, 0, 0, 0, 0, 0, 0, 2, 2, 0, 0, 0, 0, 0, 0, 0, 0, 0, 0, 0, 0, 0, 0, 0, 2, 0, 0, 0, 0, 0, 0, 0, 1, 1, 0, 0, 0, 0, 0, 0, 0, 0, 0, 0, 0, 0, 0, 0, 0, 0, 0, 0, 0, 0, 0, 0, 0, 0, 0, 0, 0, 1, 1, 1, 1, 1, 0, 0, 0, 0, 0, 0, 0, 0, 0, 0, 0, 1, 1, 1, 1, 0, 0, 0, 0, 0, 0, 0, 0, 0, 0, 0, 0, 0, 0, 0, 0, 0, 0, 0, 0, 0, 0, 0, 0, 0, 0, 0, 0] : List Nat).getD f 0, nres := fun f => ([0, 0, 0, 1, 1, 1, 1, 1, 1, 1, 1, 1, 1, 1, 1, 1, 1, 1, 1, 1, 1, 1, 1, 1, 1, 1, 1, 1, 1, 1, 2, 1, 1, 2, 1, 1, 1, 2, 2, 1, 1, 1, 1, 1, 2, 2, 2, 2, 2, 1, 1, 4, 1, 1, 4, 1, 1, 1, 1, 1, 1, 1, 1, 1, 1, 1, 1, 1, 1, 1, 1, 1, 1, 1, 1, 1, 1, 1, 1, 1, 1, 1, 1, 2, 1, 1, 2, 1, 1, 1, 1, 2, 2, 1, 1, 1, 3, 3, 2, 1, 1, 1, 1, 1, 1, 1, 1, 1, 1, 1, 1, 2, 1, 1, 1, 1, 1, 1, 1, 3, 1, 1, 1, 1, 1, 1, 1, 1, 1, 3, 1, 1, 1, 1, 1, 1, 2, 1, 1, 1, 3, 1, 1, 1, 1, 3, 2, 1, 1, 1, 1, 2, 1, 1, 1, 1, 2, 2, 1, 2, 1, 1, 1, 1, 0, 1, 0, 1, 0, 1, 0, 1, 0, 1, 0, 1, 1, 0, 1] : List Nat).getD f 0 }
theorem E0_mixed : E0.P.follows .mixedOrders = true := by kernel_rfl
def spec_l1In_arg : Sh := ⟨[(0, .c (.int .i64)), (1, .c (.int .i64)), (2, .c (.int .i64))], [], []⟩
def spec_l1In_res : List Sh := [⟨[(0, .c (.bool))], [], []⟩]
noncomputable def spec_l1In (a0 : Int) (a1 : Int) (a2 : Int) : Option ((Bool × Unit) × Unit × Unit) :=
 let x1 : Bool := decide (a0 ≥ a1);
 br x1
 (let x2 : Bool := decide (a0 ≤ a2);
 some ((x2, ()), (), ()))
 (some ((false, ()), (), ()))
noncomputable def spec_l1In_C : Ctr := ⟨58, spec_l1In_arg, spec_l1In_res, fun x => spec_l1In x.1.1 x.1.2.1 x.1.2.2.1, none⟩
def spec_l1In_H : Hint := ⟨[], [], [], fun _ => []⟩
noncomputable def spec_l1In_T : List Ctr := []
noncomputable def spec_l1In_Ls : List Lp := []
theorem spec_l1In_e : ∀ x, spec_l1In_C.F x = runBodyW E0 spec_l1In_T spec_l1In_Ls spec_l1In_H 58 Try.f58.results.toList (bodyOf Try.f58) [] (spec_l1In_arg.mk' x) spec_l1In_res := fun x => by kernel_rfl
theorem spec_l1In_ok : spec_l1In_C.Ok E0 := fn_ok (T := spec_l1In_T) (h := spec_l1In_H) (Ls := spec_l1In_Ls) E0_mixed T_nil Try.func58 (bodyOf_some (by kernel_rfl)) (by kernel_rfl) (loops_of (ks := []) (by kernel_rfl) trivial) spec_l1In_e
def spec_l1Part_arg : Sh := ⟨[(0, .c (.int .i64)), (1, .c (.int .i64))], [], []⟩
def spec_l1Part_res : List Sh := [⟨[(0, .c (.bool))], [], []⟩]
noncomputable def spec_l1Part (a0 : Int) (a1 : Int) : Option ((Bool × Unit) × Unit × Unit) :=
 let x1 : Int := bAndNot .i64 a0 a1;
 let x2 : Bool := x1 == (0 : Int);
 some ((x2, ()), (), ())
noncomputable def spec_l1Part_C : Ctr := ⟨110, spec_l1Part_arg, spec_l1Part_res, fun x => spec_l1Part x.1.1 x.1.2.1, none⟩
def spec_l1Part_H : Hint := ⟨[], [], [], fun _ => []⟩
noncomputable def spec_l1Part_T : List Ctr := []
noncomputable def spec_l1Part_Ls : List Lp := []
theorem spec_l1Part_e : ∀ x, spec_l1Part_C.F x = runBodyW E0 spec_l1Part_T spec_l1Part_Ls spec_l1Part_H 110 Try.f110.results.toList (bodyOf Try.f110) [] (spec_l1Part_arg.mk' x) spec_l1Part_res := fun x => by kernel_rfl
theorem spec_l1Part_ok : spec_l1Part_C.Ok E0 := fn_ok (T := spec_l1Part_T) (h := spec_l1Part_H) (Ls := spec_l1Part_Ls) E0_mixed T_nil Try.func110 (bodyOf_some (by kernel_rfl)) (by kernel_rfl) (loops_of (ks := []) (by kernel_rfl) trivial) spec_l1Part_e
def spec_l1Fall_arg : Sh := ⟨[(0, .c (.rd [] .i64)), (1, .c (.int .i64))], [], []⟩
def spec_l1Fall_res : List Sh := [⟨[(0, .c (.int .i64))], [], []⟩]
noncomputable def spec_l1Fall_s0 (x : (List Int × Int × List Int × Int × Int × Unit) × Unit × Unit) : Option (((List Int × Int × List Int × Int × Int × Unit) × Unit × Unit) ⊕ (((Int × Unit) × Unit × Unit) ⊕ ((List Int × Unit) × Unit × Unit))) :=
 let x1 : Bool := decide (x.1.2.2.2.2.1 < x.1.2.2.2.1);
 br x1
 (ck (0 ≤ x.1.2.2.2.2.1)
 (ck (x.1.2.2.2.2.1.toNat < x.1.2.2.1.length)
 (let x2 : Int := x.1.2.2.1.getD x.1.2.2.2.2.1.toNat 0;
 (spec_l1Part x.1.2.1 x2).bind fun r3 =>
 br r3.1.1
 (some (.inr (.inl ((x.1.2.2.2.2.1, ()), (), ()))))
 (let x4 : Int := w64 (x.1.2.2.2.2.1 + (1 : Int));
 some (.inl ((x.1.1, x.1.2.1, x.1.2.2.1, x.1.2.2.2.1, x4, ()), (), ()))))))
 (some (.inr (.inr ((x.1.1, ()), (), ()))))
def spec_l1Fall_h0 : Sh := ⟨[(0, .c (.rd [] .i64)), (1, .c (.int .i64)), (7, .c (.rd [] .i64)), (8, .c (.int .i64)), (9, .c (.int .i64))], [], []⟩
def spec_l1Fall_r0 : List Sh := [⟨[(4, .c (.int .i64))], [], []⟩, ⟨[(0, .c (.rd [] .i64))], [], []⟩]
noncomputable def spec_l1Fall_L0 : Lp := ⟨0, [], spec_l1Fall_h0, [], [(.ret, []), (.exit 0, [])], spec_l1Fall_r0, loopC spec_l1Fall_s0⟩
noncomputable def spec_l1Fall (a0 : List Int) (a1 : Int) : Option ((Int × Unit) × Unit × Unit) :=
 (loopC spec_l1Fall_s0 ((a0, a1, a0, (a0.length : Int), (0 : Int), ()), (), ())).bind fun r5 =>
 sumK r5 (fun y8 =>
 some ((y8.1.1, ()), (), ())) (fun y9 =>
 some (((y9.1.1.length : Int), ()), (), ()))
noncomputable def spec_l1Fall_C : Ctr := ⟨127, spec_l1Fall_arg, spec_l1Fall_res, fun x => spec_l1Fall x.1.1 x.1.2.1, none⟩
def spec_l1Fall_H : Hint := ⟨[], [], [], fun _ => []⟩
noncomputable def spec_l1Fall_T : List Ctr := [spec_l1Part_C]
noncomputable def spec_l1Fall_Ls : List Lp := [spec_l1Fall_L0]
theorem spec_l1Fall_l0 : ∀ x, spec_l1Fall_s0 x = stepW E0 spec_l1Fall_T spec_l1Fall_Ls spec_l1Fall_H (loopAt (bodyOf Try.f127) 0) 0 spec_l1Fall_h0 [] [(.ret, []), (.exit 0, [])] spec_l1Fall_r0 x := fun x => by kernel_rfl
theorem spec_l1Fall_e : ∀ x, spec_l1Fall_C.F x = runBodyW E0 spec_l1Fall_T spec_l1Fall_Ls spec_l1Fall_H 127 Try.f127.results.toList (bodyOf Try.f127) [] (spec_l1Fall_arg.mk' x) spec_l1Fall_res := fun x => by kernel_rfl
theorem spec_l1Fall_ok : spec_l1Fall_C.Ok E0 := fn_ok (T := spec_l1Fall_T) (h := spec_l1Fall_H) (Ls := spec_l1Fall_Ls) E0_mixed (T_cons spec_l1Part_ok T_nil) Try.func127 (bodyOf_some (by kernel_rfl)) (by kernel_rfl) (loops_of (ks := [0]) (by kernel_rfl) ⟨(loop_one (h := spec_l1Fall_H) (own := []) (head := spec_l1Fall_h0) (back := []) (exs := [(.ret, []), (.exit 0, [])]) (res := spec_l1Fall_r0) (step := spec_l1Fall_s0) (by kernel_rfl) spec_l1Fall_l0), trivial⟩) spec_l1Fall_e
def spec_l1Set_arg : Sh := ⟨[(0, .c (.int .i64))], [], []⟩
def spec_l1Set_res : List Sh := [⟨[(0, .c (.bool))], [], []⟩]
noncomputable def spec_l1Set (a0 : Int) : Option ((Bool × Unit) × Unit × Unit) :=
 (spec_l1In a0 (0 : Int) (127 : Int)).bind fun r1 =>
 some ((r1.1.1, ()), (), ())
noncomputable def spec_l1Set_C : Ctr := ⟨109, spec_l1Set_arg, spec_l1Set_res, fun x => spec_l1Set x.1.1, none⟩
def spec_l1Set_H : Hint := ⟨[], [], [], fun _ => []⟩
noncomputable def spec_l1Set_T : List Ctr := [spec_l1In_C]
noncomputable def spec_l1Set_Ls : List Lp := []
theorem spec_l1Set_e : ∀ x, spec_l1Set_C.F x = runBodyW E0 spec_l1Set_T spec_l1Set_Ls spec_l1Set_H 109 Try.f109.results.toList (bodyOf Try.f109) [] (spec_l1Set_arg.mk' x) spec_l1Set_res := fun x => by kernel_rfl
theorem spec_l1Set_ok : spec_l1Set_C.Ok E0 := fn_ok (T := spec_l1Set_T) (h := spec_l1Set_H) (Ls := spec_l1Set_Ls) E0_mixed (T_cons spec_l1In_ok T_nil) Try.func109 (bodyOf_some (by kernel_rfl)) (by kernel_rfl) (loops_of (ks := []) (by kernel_rfl) trivial) spec_l1Set_e
def spec_IsBar_arg : Sh := ⟨[(0, .c (.rd [] .i64))], [], []⟩
def spec_IsBar_res : List Sh := [⟨[(0, .c (.bool))], [], []⟩]
noncomputable def spec_IsBar_s0 (x : (List Int × List Int × Int × Int × Unit) × Unit × Unit) : Option (((List Int × List Int × Int × Int × Unit) × Unit × Unit) ⊕ (((Bool × Unit) × Unit × Unit) ⊕ ((List Int × Unit) × Unit × Unit))) :=
 let x1 : Bool := decide (x.1.2.2.2.1 < x.1.2.2.1);
 br x1
 (ck (0 ≤ x.1.2.2.2.1)
 (ck (x.1.2.2.2.1.toNat < x.1.2.1.length)
 (let x2 : Int := x.1.2.1.getD x.1.2.2.2.1.toNat 0;
 (spec_l1Set x2).bind fun r3 =>
 br (!r3.1.1)
 (some (.inr (.inl ((false, ()), (), ()))))
 (let x4 : Int := w64 (x.1.2.2.2.1 + (1 : Int));
 some (.inl ((x.1.1, x.1.2.1, x.1.2.2.1, x4, ()), (), ()))))))
 (some (.inr (.inr ((x.1.1, ()), (), ()))))
def spec_IsBar_h0 : Sh := ⟨[(0, .c (.rd [] .i64)), (5, .c (.rd [] .i64)), (6, .c (.int .i64)), (7, .c (.int .i64))], [], []⟩
def spec_IsBar_r0 : List Sh := [⟨[(2, .c (.bool))], [], []⟩, ⟨[(0, .c (.rd [] .i64))], [], []⟩]
noncomputable def spec_IsBar_L0 : Lp := ⟨0, [], spec_IsBar_h0, [], [(.ret, []), (.exit 0, [])], spec_IsBar_r0, loopC spec_IsBar_s0⟩
noncomputable def spec_IsBar (a0 : List Int) : Option ((Bool × Unit) × Unit × Unit) :=
 (loopC spec_IsBar_s0 ((a0, a0, (a0.length : Int), (0 : Int), ()), (), ())).bind fun r5 =>
 sumK r5 (fun y8 =>
 some ((y8.1.1, ()), (), ())) (fun y9 =>
 (spec_l1In (y9.1.1.length : Int) (1 : Int) (40 : Int)).bind fun r10 =>
 some ((r10.1.1, ()), (), ()))
noncomputable def spec_IsBar_C : Ctr := ⟨152, spec_IsBar_arg, spec_IsBar_res, fun x => spec_IsBar x.1.1, none⟩
def spec_IsBar_H : Hint := ⟨[], [], [], fun _ => []⟩
noncomputable def spec_IsBar_T : List Ctr := [spec_l1Set_C, spec_l1In_C]
noncomputable def spec_IsBar_Ls : List Lp := [spec_IsBar_L0]
theorem spec_IsBar_l0 : ∀ x, spec_IsBar_s0 x = stepW E0 spec_IsBar_T spec_IsBar_Ls spec_IsBar_H (loopAt (bodyOf Try.f152) 0) 0 spec_IsBar_h0 [] [(.ret, []), (.exit 0, [])] spec_IsBar_r0 x := fun x => by kernel_rfl
theorem spec_IsBar_e : ∀ x, spec_IsBar_C.F x = runBodyW E0 spec_IsBar_T spec_IsBar_Ls spec_IsBar_H 152 Try.f152.results.toList (bodyOf Try.f152) [] (spec_IsBar_arg.mk' x) spec_IsBar_res := fun x => by kernel_rfl
theorem spec_IsBar_ok : spec_IsBar_C.Ok E0 := fn_ok (T := spec_IsBar_T) (h := spec_IsBar_H) (Ls := spec_IsBar_Ls) E0_mixed (T_cons spec_l1Set_ok (T_cons spec_l1In_ok T_nil)) Try.func152 (bodyOf_some (by kernel_rfl)) (by kernel_rfl) (loops_of (ks := [0]) (by kernel_rfl) ⟨(loop_one (h := spec_IsBar_H) (own := []) (head := spec_IsBar_h0) (back := []) (exs := [(.ret, []), (.exit 0, [])]) (res := spec_IsBar_r0) (step := spec_IsBar_s0) (by kernel_rfl) spec_IsBar_l0), trivial⟩) spec_IsBar_e
def spec_SortsAll_arg : Sh := ⟨[(0, .c (.rd [] .i64))], [], []⟩
def spec_SortsAll_res : List Sh := [⟨[(0, .c (.bool))], [], []⟩]
noncomputable def spec_SortsAll_s0 (x : (List Int × List Int × Int × Int × Unit) × Unit × Unit) : Option (((List Int × List Int × Int × Int × Unit) × Unit × Unit) ⊕ (((Bool × Unit) × Unit × Unit) ⊕ ((List Int × Unit) × Unit × Unit))) :=
 let x1 : Bool := decide (x.1.2.2.2.1 < x.1.2.2.1);
 br x1
 (ck (0 ≤ x.1.2.2.2.1)
 (ck (x.1.2.2.2.1.toNat < x.1.2.1.length)
 (let x2 : Int := x.1.2.1.getD x.1.2.2.2.1.toNat 0;
 (spec_l1Fall x.1.1 x2).bind fun r3 =>
 let x4 : Bool := r3.1.1 != x.1.2.2.2.1;
 br x4
 (some (.inr (.inl ((false, ()), (), ()))))
 (let x5 : Int := w64 (x.1.2.2.2.1 + (1 : Int));
 some (.inl ((x.1.1, x.1.2.1, x.1.2.2.1, x5, ()), (), ()))))))
 (some (.inr (.inr ((x.1.1, ()), (), ()))))
def spec_SortsAll_h0 : Sh := ⟨[(0, .c (.rd [] .i64)), (5, .c (.rd [] .i64)), (6, .c (.int .i64)), (7, .c (.int .i64))], [], []⟩
def spec_SortsAll_r0 : List Sh := [⟨[(2, .c (.bool))], [], []⟩, ⟨[(0, .c (.rd [] .i64))], [], []⟩]
noncomputable def spec_SortsAll_L0 : Lp := ⟨0, [], spec_SortsAll_h0, [], [(.ret, []), (.exit 0, [])], spec_SortsAll_r0, loopC spec_SortsAll_s0⟩
noncomputable def spec_SortsAll (a0 : List Int) : Option ((Bool × Unit) × Unit × Unit) :=
 (loopC spec_SortsAll_s0 ((a0, a0, (a0.length : Int), (0 : Int), ()), (), ())).bind fun r6 =>
 sumK r6 (fun y9 =>
 some ((y9.1.1, ()), (), ())) (fun y10 =>
 (spec_IsBar y10.1.1).bind fun r11 =>
 some ((r11.1.1, ()), (), ()))
noncomputable def spec_SortsAll_C : Ctr := ⟨142, spec_SortsAll_arg, spec_SortsAll_res, fun x => spec_SortsAll x.1.1, none⟩
def spec_SortsAll_H : Hint := ⟨[], [], [], fun _ => []⟩
noncomputable def spec_SortsAll_T : List Ctr := [spec_l1Fall_C, spec_IsBar_C]
noncomputable def spec_SortsAll_Ls : List Lp := [spec_SortsAll_L0]
theorem spec_SortsAll_l0 : ∀ x, spec_SortsAll_s0 x = stepW E0 spec_SortsAll_T spec_SortsAll_Ls spec_SortsAll_H (loopAt (bodyOf Try.f142) 0) 0 spec_SortsAll_h0 [] [(.ret, []), (.exit 0, [])] spec_SortsAll_r0 x := fun x => by kernel_rfl
theorem spec_SortsAll_e : ∀ x, spec_SortsAll_C.F x = runBodyW E0 spec_SortsAll_T spec_SortsAll_Ls spec_SortsAll_H 142 Try.f142.results.toList (bodyOf Try.f142) [] (spec_SortsAll_arg.mk' x) spec_SortsAll_res := fun x => by kernel_rfl
theorem spec_SortsAll_ok : spec_SortsAll_C.Ok E0 := fn_ok (T := spec_SortsAll_T) (h := spec_SortsAll_H) (Ls := spec_SortsAll_Ls) E0_mixed (T_cons spec_l1Fall_ok (T_cons spec_IsBar_ok T_nil)) Try.func142 (bodyOf_some (by kernel_rfl)) (by kernel_rfl) (loops_of (ks := [0]) (by kernel_rfl) ⟨(loop_one (h := spec_SortsAll_H) (own := []) (head := spec_SortsAll_h0) (back := []) (exs := [(.ret, []), (.exit 0, [])]) (res := spec_SortsAll_r0) (step := spec_SortsAll_s0) (by kernel_rfl) spec_SortsAll_l0), trivial⟩) spec_SortsAll_e
def spec_FontOk_arg : Sh := ⟨[(0, .agg [.str, .rd [] .i64, .rd [] .i64])], [], []⟩
def spec_FontOk_res : List Sh := [⟨[(0, .c (.bool))], [], []⟩]
noncomputable def spec_FontOk_s2 (x : (Unit × Int × Int × Int × Unit × ByteArray × Int × Int × Bool × Unit × List Int × Int × (Int × Unit) × Int × Bool × Bool × Unit) × ((ByteArray × List Int × List Int × Unit) × Unit) × Unit) : Option (((Unit × Int × Int × Int × Unit × ByteArray × Int × Int × Bool × Unit × List Int × Int × (Int × Unit) × Int × Bool × Bool × Unit) × ((ByteArray × List Int × List Int × Unit) × Unit) × Unit) ⊕ (((Bool × Unit) × Unit × Unit) ⊕ ((Unit × Int × Int × Unit × ByteArray × Int × Int × Bool × Unit × List Int × Int × (Int × Unit) × Int × Bool × Bool × Unit) × ((ByteArray × List Int × List Int × Unit) × Unit) × Unit))) :=
 let x11 : Bool := decide (x.1.2.2.2.1 < x.1.2.2.1);
 br x11
 (ck (0 ≤ x.1.2.2.1 ∧ x.1.2.2.1.toNat < x.2.1.1.1.size)
 (let x12 : Int := byteAt x.2.1.1.1 x.1.2.2.1.toNat;
 ck (0 ≤ x.1.2.2.2.1 ∧ x.1.2.2.2.1.toNat < x.2.1.1.1.size)
 (let x13 : Int := byteAt x.2.1.1.1 x.1.2.2.2.1.toNat;
 let x14 : Bool := x12 == x13;
 br x14
 (some (.inr (.inl ((false, ()), (), ()))))
 (let x15 : Int := w64 (x.1.2.2.2.1 + (1 : Int));
 some (.inl (((), x.1.2.1, x.1.2.2.1, x15, (), x.1.2.2.2.2.2.1, x.1.2.2.2.2.2.2.1, x.1.2.2.2.2.2.2.2.1, x.1.2.2.2.2.2.2.2.2.1, (), x.1.2.2.2.2.2.2.2.2.2.2.1, x.1.2.2.2.2.2.2.2.2.2.2.2.1, (x.1.2.2.2.2.2.2.2.2.2.2.2.2.1.1, ()), x.1.2.2.2.2.2.2.2.2.2.2.2.2.2.1, x.1.2.2.2.2.2.2.2.2.2.2.2.2.2.2.1, x.1.2.2.2.2.2.2.2.2.2.2.2.2.2.2.2.1, ()), ((x.2.1.1.1, x.2.1.1.2.1, x.2.1.1.2.2.1, ()), ()), ()))))))
 (some (.inr (.inr (((), x.1.2.1, x.1.2.2.1, (), x.1.2.2.2.2.2.1, x.1.2.2.2.2.2.2.1, x.1.2.2.2.2.2.2.2.1, x.1.2.2.2.2.2.2.2.2.1, (), x.1.2.2.2.2.2.2.2.2.2.2.1, x.1.2.2.2.2.2.2.2.2.2.2.2.1, (x.1.2.2.2.2.2.2.2.2.2.2.2.2.1.1, ()), x.1.2.2.2.2.2.2.2.2.2.2.2.2.2.1, x.1.2.2.2.2.2.2.2.2.2.2.2.2.2.2.1, x.1.2.2.2.2.2.2.2.2.2.2.2.2.2.2.2.1, ()), ((x.2.1.1.1, x.2.1.1.2.1, x.2.1.1.2.2.1, ()), ()), ()))))
def spec_FontOk_h2 : Sh := ⟨[(1, .c (.box 0 0)), (3, .c (.int .i64)), (4, .c (.int .i64)), (5, .c (.int .i64)), (43, .c (.box 0 0)), (44, .c (.str)), (45, .c (.int .i64)), (46, .c (.int .u8)), (47, .c (.bool)), (50, .c (.box 0 1)), (51, .c (.rd [] .i64)), (52, .c (.int .i64)), (53, .c (.rad [] [.int .i64])), (54, .c (.int .i64)), (55, .c (.bool)), (56, .c (.bool))], [(0, .cells [.str, .rd [] .i64, .rd [] .i64])], []⟩
def spec_FontOk_r2 : List Sh := [⟨[(2, .c (.bool))], [], []⟩, ⟨[(1, .c (.box 0 0)), (3, .c (.int .i64)), (4, .c (.int .i64)), (43, .c (.box 0 0)), (44, .c (.str)), (45, .c (.int .i64)), (46, .c (.int .u8)), (47, .c (.bool)), (50, .c (.box 0 1)), (51, .c (.rd [] .i64)), (52, .c (.int .i64)), (53, .c (.rad [] [.int .i64])), (54, .c (.int .i64)), (55, .c (.bool)), (56, .c (.bool))], [(0, .cells [.str, .rd [] .i64, .rd [] .i64])], []⟩]
noncomputable def spec_FontOk_L2 : Lp := ⟨2, [], spec_FontOk_h2, [], [(.ret, []), (.exit 2, [])], spec_FontOk_r2, loopC spec_FontOk_s2⟩
noncomputable def spec_FontOk_s0 (x : (Unit × Int × Int × Unit) × ((ByteArray × List Int × List Int × Unit) × Unit) × Unit) : Option (((Unit × Int × Int × Unit) × ((ByteArray × List Int × List Int × Unit) × Unit) × Unit) ⊕ (((Bool × Unit) × Unit × Unit) ⊕ (Unit × Unit × Unit))) :=
 let x5 : Bool := decide (x.1.2.2.1 < x.1.2.1);
 br x5
 (ck (0 ≤ x.1.2.2.1 ∧ x.1.2.2.1.toNat < x.2.1.1.1.size)
 (let x6 : Int := byteAt x.2.1.1.1 x.1.2.2.1.toNat;
 let x7 : Bool := decide (x6 < (33 : Int));
 br x7
 (some (.inr (.inl ((false, ()), (), ()))))
 (ck (0 ≤ x.1.2.2.1 ∧ x.1.2.2.1.toNat < x.2.1.1.1.size)
 (let x8 : Bool := decide (x6 > (126 : Int));
 br x8
 (some (.inr (.inl ((false, ()), (), ()))))
 (ck (0 ≤ x.1.2.2.1)
 (ck (x.1.2.2.1.toNat < x.2.1.1.2.1.length)
 (let x9 : Int := x.2.1.1.2.1.getD x.1.2.2.1.toNat 0;
 (spec_l1In x9 (1 : Int) (60 : Int)).bind fun r10 =>
 br (!r10.1.1)
 (some (.inr (.inl ((false, ()), (), ()))))
 ((loopC spec_FontOk_s2 (((), x.1.2.1, x.1.2.2.1, (0 : Int), (), x.2.1.1.1, x.1.2.2.1, x6, x8, (), x.2.1.1.2.1, x.1.2.2.1, (x9, ()), x9, r10.1.1, !r10.1.1, ()), ((x.2.1.1.1, x.2.1.1.2.1, x.2.1.1.2.2.1, ()), ()), ())).bind fun r16 =>
 sumK r16 (fun y19 =>
 some (.inr (.inl ((y19.1.1, ()), (), ())))) (fun y20 =>
 let x21 : Int := w64 (y20.1.2.2.1 + (1 : Int));
 some (.inl (((), y20.1.2.1, x21, ()), ((y20.2.1.1.1, y20.2.1.1.2.1, y20.2.1.1.2.2.1, ()), ()), ())))))))))))
 (some (.inr (.inr ((), (), ()))))
def spec_FontOk_h0 : Sh := ⟨[(1, .c (.box 0 0)), (3, .c (.int .i64)), (4, .c (.int .i64))], [(0, .cells [.str, .rd [] .i64, .rd [] .i64])], []⟩
def spec_FontOk_r0 : List Sh := [⟨[(2, .c (.bool))], [], []⟩, ⟨[], [], []⟩]
noncomputable def spec_FontOk_L0 : Lp := ⟨0, [], spec_FontOk_h0, [], [(.ret, []), (.exit 0, [])], spec_FontOk_r0, loopC spec_FontOk_s0⟩
noncomputable def spec_FontOk (a0_0 : ByteArray) (a0_1 : List Int) (a0_2 : List Int) : Option ((Bool × Unit) × Unit × Unit) :=
 (spec_l1In (a0_0.size : Int) (1 : Int) (40 : Int)).bind fun r1 =>
 br (!r1.1.1)
 (some ((false, ()), (), ()))
 (let x2 : Bool := (a0_1.length : Int) != (a0_0.size : Int);
 br x2
 (some ((false, ()), (), ()))
 (let x3 : Bool := (a0_2.length : Int) != (a0_0.size : Int);
 br x3
 (some ((false, ()), (), ()))
 ((spec_SortsAll a0_2).bind fun r4 =>
 br (!r4.1.1)
 (some ((false, ()), (), ()))
 ((loopC spec_FontOk_s0 (((), (a0_0.size : Int), (0 : Int), ()), ((a0_0, a0_1, a0_2, ()), ()), ())).bind fun r22 =>
 sumK r22 (fun y25 =>
 some ((y25.1.1, ()), (), ())) (fun y26 =>
 some ((true, ()), (), ()))))))
noncomputable def spec_FontOk_C : Ctr := ⟨108, spec_FontOk_arg, spec_FontOk_res, fun x => spec_FontOk x.1.1.1 x.1.1.2.1 x.1.1.2.2.1, none⟩
def spec_FontOk_H : Hint := ⟨[], [], [], fun _ => []⟩
noncomputable def spec_FontOk_T : List Ctr := [spec_l1In_C, spec_SortsAll_C]
noncomputable def spec_FontOk_Ls : List Lp := [spec_FontOk_L2, spec_FontOk_L0]
theorem spec_FontOk_l0 : ∀ x, spec_FontOk_s0 x = stepW E0 spec_FontOk_T spec_FontOk_Ls spec_FontOk_H (loopAt (bodyOf Try.f108) 0) 0 spec_FontOk_h0 [] [(.ret, []), (.exit 0, [])] spec_FontOk_r0 x := fun x => by kernel_rfl
theorem spec_FontOk_l2 : ∀ x, spec_FontOk_s2 x = stepW E0 spec_FontOk_T spec_FontOk_Ls spec_FontOk_H (loopAt (bodyOf Try.f108) 1) 2 spec_FontOk_h2 [] [(.ret, []), (.exit 2, [])] spec_FontOk_r2 x := fun x => by kernel_rfl
theorem spec_FontOk_e : ∀ x, spec_FontOk_C.F x = runBodyW E0 spec_FontOk_T spec_FontOk_Ls spec_FontOk_H 108 Try.f108.results.toList (bodyOf Try.f108) [] (spec_FontOk_arg.mk' x) spec_FontOk_res := fun x => by kernel_rfl
theorem spec_FontOk_ok : spec_FontOk_C.Ok E0 := fn_ok (T := spec_FontOk_T) (h := spec_FontOk_H) (Ls := spec_FontOk_Ls) E0_mixed (T_cons spec_l1In_ok (T_cons spec_SortsAll_ok T_nil)) Try.func108 (bodyOf_some (by kernel_rfl)) (by kernel_rfl) (loops_of (ks := [0, 2]) (by kernel_rfl) ⟨(loop_one (h := spec_FontOk_H) (own := []) (head := spec_FontOk_h0) (back := []) (exs := [(.ret, []), (.exit 0, [])]) (res := spec_FontOk_r0) (step := spec_FontOk_s0) (by kernel_rfl) spec_FontOk_l0), (loop_one (h := spec_FontOk_H) (own := []) (head := spec_FontOk_h2) (back := []) (exs := [(.ret, []), (.exit 2, [])]) (res := spec_FontOk_r2) (step := spec_FontOk_s2) (by kernel_rfl) spec_FontOk_l2), trivial⟩) spec_FontOk_e
def spec_FillMagazine_arg : Sh := ⟨[(0, .agg [.str, .rd [] .i64, .rd [] .i64]), (1, .c (.int .i64))], [], []⟩
def spec_FillMagazine_res : List Sh := [⟨[(0, .c (.own 0)), (1, .c (.bool))], [], [(0, .mats)]⟩]
noncomputable def spec_FillMagazine_s2 (x : (Int × Unit × Int × Int × Int × List Int × Int × Int × Unit) × Unit × (List (List (Int × Int)) × Unit)) : Option (((Int × Unit × Int × Int × Int × List Int × Int × Int × Unit) × Unit × (List (List (Int × Int)) × Unit)) ⊕ ((Int × Unit × List Int × Int × Int × Unit) × Unit × (List (List (Int × Int)) × Unit))) :=
 let x6 : Bool := decide (x.1.2.2.2.2.1 < x.1.1);
 br x6
 (ck (0 ≤ x.1.2.2.1)
 (ck (x.1.2.2.1.toNat < x.2.2.1.length)
 (ck (x.1.2.2.1.toNat < x.2.2.1.length)
 (ck (x.1.2.2.1.toNat < x.2.2.1.length)
 (let x7 : List (Int × Int) := x.2.2.1.getD x.1.2.2.1.toNat [];
 ck ((x7.length + [(x.1.2.2.1, x.1.2.2.2.1)].length) * 16 ≤ 140737488355328 ∧ (x7.length + [(x.1.2.2.1, x.1.2.2.2.1)].length) ≤ 9223372036854775807)
 (let x8 : List (Int × Int) := x7 ++ [(x.1.2.2.1, x.1.2.2.2.1)];
 ck (0 ≤ x.1.2.2.1)
 (ck (x.1.2.2.1.toNat < x.2.2.1.length)
 (ck (x.1.2.2.1.toNat = x.1.2.2.1.toNat ∧ x.1.2.2.1.toNat < x.2.2.1.length)
 (let x9 : List (List (Int × Int)) := x.2.2.1.set x.1.2.2.1.toNat x8;
 let x10 : Int := w64 (x.1.2.2.2.2.1 + (1 : Int));
 some (.inl ((x.1.1, (), x.1.2.2.1, x.1.2.2.2.1, x10, x.1.2.2.2.2.2.1, x.1.2.2.2.2.2.2.1, x.1.2.2.2.2.2.2.2.1, ()), (), (x9, ()))))))))))))
 (some (.inr ((x.1.1, (), x.1.2.2.2.2.2.1, x.1.2.2.2.2.2.2.1, x.1.2.2.2.2.2.2.2.1, ()), (), (x.2.2.1, ()))))
def spec_FillMagazine_h2 : Sh := ⟨[(1, .c (.int .i64)), (6, .c (.own 0)), (7, .c (.int .i64)), (8, .c (.int .i64)), (9, .c (.int .i64)), (23, .c (.rd [] .i64)), (24, .c (.int .i64)), (25, .c (.int .i64))], [], [(0, .mats)]⟩
def spec_FillMagazine_r2 : List Sh := [⟨[(1, .c (.int .i64)), (6, .c (.own 0)), (23, .c (.rd [] .i64)), (24, .c (.int .i64)), (25, .c (.int .i64))], [], [(0, .mats)]⟩]
noncomputable def spec_FillMagazine_L2 : Lp := ⟨2, [], spec_FillMagazine_h2, [], [(.exit 2, [])], spec_FillMagazine_r2, loopC spec_FillMagazine_s2⟩
noncomputable def spec_FillMagazine_s0 (x : (Int × Unit × List Int × Int × Int × Unit) × Unit × (List (List (Int × Int)) × Unit)) : Option (((Int × Unit × List Int × Int × Int × Unit) × Unit × (List (List (Int × Int)) × Unit)) ⊕ ((Unit × Unit) × Unit × (List (List (Int × Int)) × Unit))) :=
 let x4 : Bool := decide (x.1.2.2.2.2.1 < x.1.2.2.2.1);
 br x4
 (ck (0 ≤ x.1.2.2.2.2.1)
 (ck (x.1.2.2.2.2.1.toNat < x.1.2.2.1.length)
 (let x5 : Int := x.1.2.2.1.getD x.1.2.2.2.2.1.toNat 0;
 (loopC spec_FillMagazine_s2 ((x.1.1, (), x.1.2.2.2.2.1, x5, (0 : Int), x.1.2.2.1, x.1.2.2.2.1, x.1.2.2.2.2.1, ()), (), (x.2.2.1, ()))).bind fun r11 =>
 let x12 : Int := w64 (r11.1.2.2.2.2.1 + (1 : Int));
 some (.inl ((r11.1.1, (), r11.1.2.2.1, r11.1.2.2.2.1, x12, ()), (), (r11.2.2.1, ()))))))
 (some (.inr (((), ()), (), (x.2.2.1, ()))))
def spec_FillMagazine_h0 : Sh := ⟨[(1, .c (.int .i64)), (6, .c (.own 0)), (23, .c (.rd [] .i64)), (24, .c (.int .i64)), (25, .c (.int .i64))], [], [(0, .mats)]⟩
def spec_FillMagazine_r0 : List Sh := [⟨[(6, .c (.own 0))], [], [(0, .mats)]⟩]
noncomputable def spec_FillMagazine_L0 : Lp := ⟨0, [], spec_FillMagazine_h0, [], [(.exit 0, [])], spec_FillMagazine_r0, loopC spec_FillMagazine_s0⟩
noncomputable def spec_FillMagazine (a0_0 : ByteArray) (a0_1 : List Int) (a0_2 : List Int) (a1 : Int) : Option ((Unit × Bool × Unit) × Unit × (List (List (Int × Int)) × Unit)) :=
 (spec_FontOk a0_0 a0_1 a0_2).bind fun r1 =>
 br (!r1.1.1)
 (some (((), false, ()), (), ([], ())))
 ((spec_l1In a1 (0 : Int) (20 : Int)).bind fun r2 =>
 br (!r2.1.1)
 (some (((), false, ()), (), ([], ())))
 (ck (0 ≤ (a0_0.size : Int))
 (ck (0 ≤ (a0_0.size : Int))
 (ck ((a0_0.size : Int).toNat = (a0_0.size : Int).toNat ∧ (a0_0.size : Int).toNat * 24 ≤ 140737488355328 ∧ (a0_0.size : Int).toNat ≤ 9223372036854775807)
 (let x3 : List (List (Int × Int)) := List.replicate ((a0_0.size : Int).toNat) [];
 (loopC spec_FillMagazine_s0 ((a1, (), a0_2, (a0_2.length : Int), (0 : Int), ()), (), (x3, ()))).bind fun r13 =>
 some (((), true, ()), (), (r13.2.2.1, ())))))))
noncomputable def spec_FillMagazine_C : Ctr := ⟨83, spec_FillMagazine_arg, spec_FillMagazine_res, fun x => spec_FillMagazine x.1.1.1 x.1.1.2.1 x.1.1.2.2.1 x.1.2.1, none⟩
def spec_FillMagazine_H : Hint := ⟨[], [], [], fun _ => []⟩
noncomputable def spec_FillMagazine_T : List Ctr := [spec_FontOk_C, spec_l1In_C]
noncomputable def spec_FillMagazine_Ls : List Lp := [spec_FillMagazine_L2, spec_FillMagazine_L0]
theorem spec_FillMagazine_l0 : ∀ x, spec_FillMagazine_s0 x = stepW E0 spec_FillMagazine_T spec_FillMagazine_Ls spec_FillMagazine_H (loopAt (bodyOf Try.f83) 0) 0 spec_FillMagazine_h0 [] [(.exit 0, [])] spec_FillMagazine_r0 x := fun x => by kernel_rfl
theorem spec_FillMagazine_l2 : ∀ x, spec_FillMagazine_s2 x = stepW E0 spec_FillMagazine_T spec_FillMagazine_Ls spec_FillMagazine_H (loopAt (bodyOf Try.f83) 1) 2 spec_FillMagazine_h2 [] [(.exit 2, [])] spec_FillMagazine_r2 x := fun x => by kernel_rfl
theorem spec_FillMagazine_e : ∀ x, spec_FillMagazine_C.F x = runBodyW E0 spec_FillMagazine_T spec_FillMagazine_Ls spec_FillMagazine_H 83 Try.f83.results.toList (bodyOf Try.f83) [(.tm 4, 6000000, .mats)] (spec_FillMagazine_arg.mk' x) spec_FillMagazine_res := fun x => by kernel_rfl
theorem spec_FillMagazine_ok : spec_FillMagazine_C.Ok E0 := fn_ok (T := spec_FillMagazine_T) (h := spec_FillMagazine_H) (Ls := spec_FillMagazine_Ls) E0_mixed (T_cons spec_FontOk_ok (T_cons spec_l1In_ok T_nil)) Try.func83 (bodyOf_some (by kernel_rfl)) (by kernel_rfl) (loops_of (ks := [0, 2]) (by kernel_rfl) ⟨(loop_one (h := spec_FillMagazine_H) (own := []) (head := spec_FillMagazine_h0) (back := []) (exs := [(.exit 0, [])]) (res := spec_FillMagazine_r0) (step := spec_FillMagazine_s0) (by kernel_rfl) spec_FillMagazine_l0), (loop_one (h := spec_FillMagazine_H) (own := []) (head := spec_FillMagazine_h2) (back := []) (exs := [(.exit 2, [])]) (res := spec_FillMagazine_r2) (step := spec_FillMagazine_s2) (by kernel_rfl) spec_FillMagazine_l2), trivial⟩) spec_FillMagazine_e
def spec_l2Matrix_arg : Sh := ⟨[(0, .agg [.str, .rd [] .i64, .rd [] .i64]), (1, .agg [.int .i64, .int .i64])], [], []⟩
def spec_l2Matrix_res : List Sh := [⟨[(0, .c (.bool))], [], []⟩]
noncomputable def spec_l2Matrix (a0_0 : ByteArray) (a0_1 : List Int) (a0_2 : List Int) (a1_0 : Int) (a1_1 : Int) : Option ((Bool × Unit) × Unit × Unit) :=
 let x1 : Int := w64 ((a0_0.size : Int) - (1 : Int));
 (spec_l1In a1_0 (0 : Int) x1).bind fun r2 =>
 br r2.1.1
 ((spec_l1Set a1_1).bind fun r3 =>
 br r3.1.1
 (ck (0 ≤ a1_0)
 (ck (a1_0.toNat < a0_2.length)
 (let x4 : Int := a0_2.getD a1_0.toNat 0;
 (spec_l1Part a1_1 x4).bind fun r5 =>
 some ((r5.1.1, ()), (), ()))))
 (some ((false, ()), (), ())))
 (some ((false, ()), (), ()))
noncomputable def spec_l2Matrix_C : Ctr := ⟨60, spec_l2Matrix_arg, spec_l2Matrix_res, fun x => spec_l2Matrix x.1.1.1 x.1.1.2.1 x.1.1.2.2.1 x.1.2.1.1 x.1.2.1.2.1, none⟩
def spec_l2Matrix_H : Hint := ⟨[], [], [], fun _ => []⟩
noncomputable def spec_l2Matrix_T : List Ctr := [spec_l1In_C, spec_l1Set_C, spec_l1Part_C]
noncomputable def spec_l2Matrix_Ls : List Lp := []
theorem spec_l2Matrix_e : ∀ x, spec_l2Matrix_C.F x = runBodyW E0 spec_l2Matrix_T spec_l2Matrix_Ls spec_l2Matrix_H 60 Try.f60.results.toList (bodyOf Try.f60) [] (spec_l2Matrix_arg.mk' x) spec_l2Matrix_res := fun x => by kernel_rfl
theorem spec_l2Matrix_ok : spec_l2Matrix_C.Ok E0 := fn_ok (T := spec_l2Matrix_T) (h := spec_l2Matrix_H) (Ls := spec_l2Matrix_Ls) E0_mixed (T_cons spec_l1In_ok (T_cons spec_l1Set_ok (T_cons spec_l1Part_ok T_nil))) Try.func60 (bodyOf_some (by kernel_rfl)) (by kernel_rfl) (loops_of (ks := []) (by kernel_rfl) trivial) spec_l2Matrix_e
def spec_MagazineOk_arg : Sh := ⟨[(0, .agg [.str, .rd [] .i64, .rd [] .i64]), (1, .c (.rd [] .mats))], [], []⟩
def spec_MagazineOk_res : List Sh := [⟨[(0, .c (.bool))], [], []⟩]
noncomputable def spec_MagazineOk_s2 (x : (Unit × List (List (Int × Int)) × Int × Int × List (Int × Int) × Int × Int × Unit) × ((ByteArray × List Int × List Int × Unit) × Unit) × Unit) : Option (((Unit × List (List (Int × Int)) × Int × Int × List (Int × Int) × Int × Int × Unit) × ((ByteArray × List Int × List Int × Unit) × Unit) × Unit) ⊕ (((Bool × Unit) × Unit × Unit) ⊕ ((Unit × List (List (Int × Int)) × Int × Int × Unit) × ((ByteArray × List Int × List Int × Unit) × Unit) × Unit))) :=
 let x6 : Bool := decide (x.1.2.2.2.2.2.2.1 < x.1.2.2.2.2.2.1);
 br x6
 (ck (0 ≤ x.1.2.2.2.2.2.2.1)
 (ck (x.1.2.2.2.2.2.2.1.toNat < x.1.2.2.2.2.1.length)
 (let x7 : Int × Int := x.1.2.2.2.2.1.getD x.1.2.2.2.2.2.2.1.toNat (0, 0);
 (spec_l2Matrix x.2.1.1.1 x.2.1.1.2.1 x.2.1.1.2.2.1 x7.1 x7.2).bind fun r8 =>
 br (!r8.1.1)
 (some (.inr (.inl ((false, ()), (), ()))))
 (let x9 : Int := w64 (x.1.2.2.2.2.2.2.1 + (1 : Int));
 some (.inl (((), x.1.2.1, x.1.2.2.1, x.1.2.2.2.1, x.1.2.2.2.2.1, x.1.2.2.2.2.2.1, x9, ()), ((x.2.1.1.1, x.2.1.1.2.1, x.2.1.1.2.2.1, ()), ()), ()))))))
 (some (.inr (.inr (((), x.1.2.1, x.1.2.2.1, x.1.2.2.2.1, ()), ((x.2.1.1.1, x.2.1.1.2.1, x.2.1.1.2.2.1, ()), ()), ()))))
def spec_MagazineOk_h2 : Sh := ⟨[(2, .c (.box 0 0)), (20, .c (.rd [] .mats)), (21, .c (.int .i64)), (22, .c (.int .i64)), (29, .c (.rd [] .mat)), (30, .c (.int .i64)), (31, .c (.int .i64))], [(0, .cells [.str, .rd [] .i64, .rd [] .i64])], []⟩
def spec_MagazineOk_r2 : List Sh := [⟨[(4, .c (.bool))], [], []⟩, ⟨[(2, .c (.box 0 0)), (20, .c (.rd [] .mats)), (21, .c (.int .i64)), (22, .c (.int .i64))], [(0, .cells [.str, .rd [] .i64, .rd [] .i64])], []⟩]
noncomputable def spec_MagazineOk_L2 : Lp := ⟨2, [], spec_MagazineOk_h2, [], [(.ret, []), (.exit 2, [])], spec_MagazineOk_r2, loopC spec_MagazineOk_s2⟩
noncomputable def spec_MagazineOk_s0 (x : (Unit × List (List (Int × Int)) × Int × Int × Unit) × ((ByteArray × List Int × List Int × Unit) × Unit) × Unit) : Option (((Unit × List (List (Int × Int)) × Int × Int × Unit) × ((ByteArray × List Int × List Int × Unit) × Unit) × Unit) ⊕ (((Bool × Unit) × Unit × Unit) ⊕ (Unit × Unit × Unit))) :=
 let x3 : Bool := decide (x.1.2.2.2.1 < x.1.2.2.1);
 br x3
 (ck (0 ≤ x.1.2.2.2.1)
 (ck (x.1.2.2.2.1.toNat < x.1.2.1.length)
 (let x4 : List (Int × Int) := x.1.2.1.getD x.1.2.2.2.1.toNat [];
 let x5 : Bool := decide ((x4.length : Int) > (20 : Int));
 br x5
 (some (.inr (.inl ((false, ()), (), ()))))
 ((loopC spec_MagazineOk_s2 (((), x.1.2.1, x.1.2.2.1, x.1.2.2.2.1, x4, (x4.length : Int), (0 : Int), ()), ((x.2.1.1.1, x.2.1.1.2.1, x.2.1.1.2.2.1, ()), ()), ())).bind fun r10 =>
 sumK r10 (fun y13 =>
 some (.inr (.inl ((y13.1.1, ()), (), ())))) (fun y14 =>
 let x15 : Int := w64 (y14.1.2.2.2.1 + (1 : Int));
 some (.inl (((), y14.1.2.1, y14.1.2.2.1, x15, ()), ((y14.2.1.1.1, y14.2.1.1.2.1, y14.2.1.1.2.2.1, ()), ()), ())))))))
 (some (.inr (.inr ((), (), ()))))
def spec_MagazineOk_h0 : Sh := ⟨[(2, .c (.box 0 0)), (20, .c (.rd [] .mats)), (21, .c (.int .i64)), (22, .c (.int .i64))], [(0, .cells [.str, .rd [] .i64, .rd [] .i64])], []⟩
def spec_MagazineOk_r0 : List Sh := [⟨[(4, .c (.bool))], [], []⟩, ⟨[], [], []⟩]
noncomputable def spec_MagazineOk_L0 : Lp := ⟨0, [], spec_MagazineOk_h0, [], [(.ret, []), (.exit 0, [])], spec_MagazineOk_r0, loopC spec_MagazineOk_s0⟩
noncomputable def spec_MagazineOk (a0_0 : ByteArray) (a0_1 : List Int) (a0_2 : List Int) (a1 : List (List (Int × Int))) : Option ((Bool × Unit) × Unit × Unit) :=
 (spec_FontOk a0_0 a0_1 a0_2).bind fun r1 =>
 br (!r1.1.1)
 (some ((false, ()), (), ()))
 (let x2 : Bool := (a1.length : Int) != (a0_0.size : Int);
 br x2
 (some ((false, ()), (), ()))
 ((loopC spec_MagazineOk_s0 (((), a1, (a1.length : Int), (0 : Int), ()), ((a0_0, a0_1, a0_2, ()), ()), ())).bind fun r16 =>
 sumK r16 (fun y19 =>
 some ((y19.1.1, ()), (), ())) (fun y20 =>
 some ((true, ()), (), ()))))
noncomputable def spec_MagazineOk_C : Ctr := ⟨57, spec_MagazineOk_arg, spec_MagazineOk_res, fun x => spec_MagazineOk x.1.1.1 x.1.1.2.1 x.1.1.2.2.1 x.1.2.1, none⟩
def spec_MagazineOk_H : Hint := ⟨[], [], [], fun _ => []⟩
noncomputable def spec_MagazineOk_T : List Ctr := [spec_FontOk_C, spec_l2Matrix_C]
noncomputable def spec_MagazineOk_Ls : List Lp := [spec_MagazineOk_L2, spec_MagazineOk_L0]
theorem spec_MagazineOk_l0 : ∀ x, spec_MagazineOk_s0 x = stepW E0 spec_MagazineOk_T spec_MagazineOk_Ls spec_MagazineOk_H (loopAt (bodyOf Try.f57) 0) 0 spec_MagazineOk_h0 [] [(.ret, []), (.exit 0, [])] spec_MagazineOk_r0 x := fun x => by kernel_rfl
theorem spec_MagazineOk_l2 : ∀ x, spec_MagazineOk_s2 x = stepW E0 spec_MagazineOk_T spec_MagazineOk_Ls spec_MagazineOk_H (loopAt (bodyOf Try.f57) 1) 2 spec_MagazineOk_h2 [] [(.ret, []), (.exit 2, [])] spec_MagazineOk_r2 x := fun x => by kernel_rfl
theorem spec_MagazineOk_e : ∀ x, spec_MagazineOk_C.F x = runBodyW E0 spec_MagazineOk_T spec_MagazineOk_Ls spec_MagazineOk_H 57 Try.f57.results.toList (bodyOf Try.f57) [] (spec_MagazineOk_arg.mk' x) spec_MagazineOk_res := fun x => by kernel_rfl
theorem spec_MagazineOk_ok : spec_MagazineOk_C.Ok E0 := fn_ok (T := spec_MagazineOk_T) (h := spec_MagazineOk_H) (Ls := spec_MagazineOk_Ls) E0_mixed (T_cons spec_FontOk_ok (T_cons spec_l2Matrix_ok T_nil)) Try.func57 (bodyOf_some (by kernel_rfl)) (by kernel_rfl) (loops_of (ks := [0, 2]) (by kernel_rfl) ⟨(loop_one (h := spec_MagazineOk_H) (own := []) (head := spec_MagazineOk_h0) (back := []) (exs := [(.ret, []), (.exit 0, [])]) (res := spec_MagazineOk_r0) (step := spec_MagazineOk_s0) (by kernel_rfl) spec_MagazineOk_l0), (loop_one (h := spec_MagazineOk_H) (own := []) (head := spec_MagazineOk_h2) (back := []) (exs := [(.ret, []), (.exit 2, [])]) (res := spec_MagazineOk_r2) (step := spec_MagazineOk_s2) (by kernel_rfl) spec_MagazineOk_l2), trivial⟩) spec_MagazineOk_e
def spec_MeasureOk_arg : Sh := ⟨[(0, .agg [.int .i64, .int .i64, .int .i64])], [], []⟩
def spec_MeasureOk_res : List Sh := [⟨[(0, .c (.bool))], [], []⟩]
noncomputable def spec_MeasureOk (a0_0 : Int) (a0_1 : Int) (a0_2 : Int) : Option ((Bool × Unit) × Unit × Unit) :=
 (spec_l1In a0_0 (1 : Int) (2000 : Int)).bind fun r1 =>
 br r1.1.1
 ((spec_l1In a0_1 (1 : Int) (100 : Int)).bind fun r2 =>
 br r2.1.1
 ((spec_l1In a0_2 a0_1 (100 : Int)).bind fun r3 =>
 some ((r3.1.1, ()), (), ()))
 (some ((false, ()), (), ())))
 (some ((false, ()), (), ()))
noncomputable def spec_MeasureOk_C : Ctr := ⟨59, spec_MeasureOk_arg, spec_MeasureOk_res, fun x => spec_MeasureOk x.1.1.1 x.1.1.2.1 x.1.1.2.2.1, none⟩
def spec_MeasureOk_H : Hint := ⟨[], [], [], fun _ => []⟩
noncomputable def spec_MeasureOk_T : List Ctr := [spec_l1In_C]
noncomputable def spec_MeasureOk_Ls : List Lp := []
theorem spec_MeasureOk_e : ∀ x, spec_MeasureOk_C.F x = runBodyW E0 spec_MeasureOk_T spec_MeasureOk_Ls spec_MeasureOk_H 59 Try.f59.results.toList (bodyOf Try.f59) [] (spec_MeasureOk_arg.mk' x) spec_MeasureOk_res := fun x => by kernel_rfl
theorem spec_MeasureOk_ok : spec_MeasureOk_C.Ok E0 := fn_ok (T := spec_MeasureOk_T) (h := spec_MeasureOk_H) (Ls := spec_MeasureOk_Ls) E0_mixed (T_cons spec_l1In_ok T_nil) Try.func59 (bodyOf_some (by kernel_rfl)) (by kernel_rfl) (loops_of (ks := []) (by kernel_rfl) trivial) spec_MeasureOk_e
def spec_l5Items_arg : Sh := ⟨[(0, .agg [.str, .rd [] .i64, .rd [] .i64]), (1, .c (.rd [] .mat))], [], []⟩
def spec_l5Items_res : List Sh := [⟨[(0, .c (.own 0))], [], [(0, .i64)]⟩]
noncomputable def spec_l5Items_s0 (x : (Unit × Unit × List (Int × Int) × Int × Int × Unit) × ((ByteArray × List Int × List Int × Unit) × Unit) × (List Int × Unit)) : Option (((Unit × Unit × List (Int × Int) × Int × Int × Unit) × ((ByteArray × List Int × List Int × Unit) × Unit) × (List Int × Unit)) ⊕ ((Unit × Unit) × Unit × (List Int × Unit))) :=
 let x1 : Bool := decide (x.1.2.2.2.2.1 < x.1.2.2.2.1);
 br x1
 (ck (0 ≤ x.1.2.2.2.2.1)
 (ck (x.1.2.2.2.2.1.toNat < x.1.2.2.1.length)
 (let x2 : Int × Int := x.1.2.2.1.getD x.1.2.2.2.2.1.toNat (0, 0);
 let x3 : Bool := decide (x2.1 < (0 : Int));
 br x3
 (ck ((x.2.2.1.length + [(0 : Int)].length) * 8 ≤ 140737488355328 ∧ (x.2.2.1.length + [(0 : Int)].length) ≤ 9223372036854775807)
 (let x4 : List Int := x.2.2.1 ++ [(0 : Int)];
 let x5 : Int := w64 (x.1.2.2.2.2.1 + (1 : Int));
 some (.inl (((), (), x.1.2.2.1, x.1.2.2.2.1, x5, ()), ((x.2.1.1.1, x.2.1.1.2.1, x.2.1.1.2.2.1, ()), ()), (x4, ())))))
 (ck (0 ≤ x2.1)
 (ck (x2.1.toNat < x.2.1.1.2.1.length)
 (let x6 : Int := x.2.1.1.2.1.getD x2.1.toNat 0;
 ck ((x.2.2.1.length + [x6].length) * 8 ≤ 140737488355328 ∧ (x.2.2.1.length + [x6].length) ≤ 9223372036854775807)
 (let x7 : List Int := x.2.2.1 ++ [x6];
 let x8 : Int := w64 (x.1.2.2.2.2.1 + (1 : Int));
 some (.inl (((), (), x.1.2.2.1, x.1.2.2.2.1, x8, ()), ((x.2.1.1.1, x.2.1.1.2.1, x.2.1.1.2.2.1, ()), ()), (x7, ()))))))))))
 (some (.inr (((), ()), (), (x.2.2.1, ()))))
def spec_l5Items_h0 : Sh := ⟨[(2, .c (.box 0 0)), (5, .c (.own 0)), (9, .c (.rd [] .mat)), (10, .c (.int .i64)), (11, .c (.int .i64))], [(0, .cells [.str, .rd [] .i64, .rd [] .i64])], [(0, .i64)]⟩
def spec_l5Items_r0 : List Sh := [⟨[(5, .c (.own 0))], [], [(0, .i64)]⟩]
noncomputable def spec_l5Items_L0 : Lp := ⟨0, [], spec_l5Items_h0, [], [(.exit 0, [])], spec_l5Items_r0, loopC spec_l5Items_s0⟩
noncomputable def spec_l5Items (a0_0 : ByteArray) (a0_1 : List Int) (a0_2 : List Int) (a1 : List (Int × Int)) : Option ((Unit × Unit) × Unit × (List Int × Unit)) :=
 (loopC spec_l5Items_s0 (((), (), a1, (a1.length : Int), (0 : Int), ()), ((a0_0, a0_1, a0_2, ()), ()), ([], ()))).bind fun r9 =>
 some (((), ()), (), (r9.2.2.1, ()))
noncomputable def spec_l5Items_C : Ctr := ⟨62, spec_l5Items_arg, spec_l5Items_res, fun x => spec_l5Items x.1.1.1 x.1.1.2.1 x.1.1.2.2.1 x.1.2.1, none⟩
def spec_l5Items_H : Hint := ⟨[], [], [], fun _ => []⟩
noncomputable def spec_l5Items_T : List Ctr := []
noncomputable def spec_l5Items_Ls : List Lp := [spec_l5Items_L0]
theorem spec_l5Items_l0 : ∀ x, spec_l5Items_s0 x = stepW E0 spec_l5Items_T spec_l5Items_Ls spec_l5Items_H (loopAt (bodyOf Try.f62) 0) 0 spec_l5Items_h0 [] [(.exit 0, [])] spec_l5Items_r0 x := fun x => by kernel_rfl
theorem spec_l5Items_e : ∀ x, spec_l5Items_C.F x = runBodyW E0 spec_l5Items_T spec_l5Items_Ls spec_l5Items_H 62 Try.f62.results.toList (bodyOf Try.f62) [] (spec_l5Items_arg.mk' x) spec_l5Items_res := fun x => by kernel_rfl
theorem spec_l5Items_ok : spec_l5Items_C.Ok E0 := fn_ok (T := spec_l5Items_T) (h := spec_l5Items_H) (Ls := spec_l5Items_Ls) E0_mixed T_nil Try.func62 (bodyOf_some (by kernel_rfl)) (by kernel_rfl) (loops_of (ks := [0]) (by kernel_rfl) ⟨(loop_one (h := spec_l5Items_H) (own := []) (head := spec_l5Items_h0) (back := []) (exs := [(.exit 0, [])]) (res := spec_l5Items_r0) (step := spec_l5Items_s0) (by kernel_rfl) spec_l5Items_l0), trivial⟩) spec_l5Items_e
def spec_l3Sum_arg : Sh := ⟨[(0, .c (.rd [] .i64))], [], []⟩
def spec_l3Sum_res : List Sh := [⟨[(0, .c (.int .i64)), (1, .c (.int .i64))], [], []⟩]
noncomputable def spec_l3Sum_s0 (x : (Int × Int × List Int × Int × Int × Unit) × Unit × Unit) : Option (((Int × Int × List Int × Int × Int × Unit) × Unit × Unit) ⊕ ((Int × Int × Unit) × Unit × Unit)) :=
 let x1 : Bool := decide (x.1.2.2.2.2.1 < x.1.2.2.2.1);
 br x1
 (ck (0 ≤ x.1.2.2.2.2.1)
 (ck (x.1.2.2.2.2.1.toNat < x.1.2.2.1.length)
 (let x2 : Int := x.1.2.2.1.getD x.1.2.2.2.2.1.toNat 0;
 let x3 : Int := w64 (x.1.1 + x2);
 let x4 : Bool := x2 == (0 : Int);
 br x4
 (let x5 : Int := w64 (x.1.2.1 + (1 : Int));
 let x6 : Int := w64 (x.1.2.2.2.2.1 + (1 : Int));
 some (.inl ((x3, x5, x.1.2.2.1, x.1.2.2.2.1, x6, ()), (), ())))
 (let x7 : Int := w64 (x.1.2.2.2.2.1 + (1 : Int));
 some (.inl ((x3, x.1.2.1, x.1.2.2.1, x.1.2.2.2.1, x7, ()), (), ()))))))
 (some (.inr ((x.1.1, x.1.2.1, ()), (), ())))
def spec_l3Sum_h0 : Sh := ⟨[(4, .c (.int .i64)), (5, .c (.int .i64)), (8, .c (.rd [] .i64)), (9, .c (.int .i64)), (10, .c (.int .i64))], [], []⟩
def spec_l3Sum_r0 : List Sh := [⟨[(4, .c (.int .i64)), (5, .c (.int .i64))], [], []⟩]
noncomputable def spec_l3Sum_L0 : Lp := ⟨0, [], spec_l3Sum_h0, [], [(.exit 0, [])], spec_l3Sum_r0, loopC spec_l3Sum_s0⟩
noncomputable def spec_l3Sum (a0 : List Int) : Option ((Int × Int × Unit) × Unit × Unit) :=
 (loopC spec_l3Sum_s0 (((0 : Int), (0 : Int), a0, (a0.length : Int), (0 : Int), ()), (), ())).bind fun r8 =>
 some ((r8.1.1, r8.1.2.1, ()), (), ())
noncomputable def spec_l3Sum_C : Ctr := ⟨111, spec_l3Sum_arg, spec_l3Sum_res, fun x => spec_l3Sum x.1.1, none⟩
def spec_l3Sum_H : Hint := ⟨[], [], [], fun _ => []⟩
noncomputable def spec_l3Sum_T : List Ctr := []
noncomputable def spec_l3Sum_Ls : List Lp := [spec_l3Sum_L0]
theorem spec_l3Sum_l0 : ∀ x, spec_l3Sum_s0 x = stepW E0 spec_l3Sum_T spec_l3Sum_Ls spec_l3Sum_H (loopAt (bodyOf Try.f111) 0) 0 spec_l3Sum_h0 [] [(.exit 0, [])] spec_l3Sum_r0 x := fun x => by kernel_rfl
theorem spec_l3Sum_e : ∀ x, spec_l3Sum_C.F x = runBodyW E0 spec_l3Sum_T spec_l3Sum_Ls spec_l3Sum_H 111 Try.f111.results.toList (bodyOf Try.f111) [] (spec_l3Sum_arg.mk' x) spec_l3Sum_res := fun x => by kernel_rfl
theorem spec_l3Sum_ok : spec_l3Sum_C.Ok E0 := fn_ok (T := spec_l3Sum_T) (h := spec_l3Sum_H) (Ls := spec_l3Sum_Ls) E0_mixed T_nil Try.func111 (bodyOf_some (by kernel_rfl)) (by kernel_rfl) (loops_of (ks := [0]) (by kernel_rfl) ⟨(loop_one (h := spec_l3Sum_H) (own := []) (head := spec_l3Sum_h0) (back := []) (exs := [(.exit 0, [])]) (res := spec_l3Sum_r0) (step := spec_l3Sum_s0) (by kernel_rfl) spec_l3Sum_l0), trivial⟩) spec_l3Sum_e
def spec_LineOk_arg : Sh := ⟨[(0, .c (.rd [] .i64))], [], []⟩
def spec_LineOk_res : List Sh := [⟨[(0, .c (.bool))], [], []⟩]
noncomputable def spec_LineOk_s0 (x : (List Int × List Int × Int × Int × Unit) × Unit × Unit) : Option (((List Int × List Int × Int × Int × Unit) × Unit × Unit) ⊕ (((Bool × Unit) × Unit × Unit) ⊕ ((List Int × Unit) × Unit × Unit))) :=
 let x1 : Bool := decide (x.1.2.2.2.1 < x.1.2.2.1);
 br x1
 (ck (0 ≤ x.1.2.2.2.1)
 (ck (x.1.2.2.2.1.toNat < x.1.2.1.length)
 (let x2 : Int := x.1.2.1.getD x.1.2.2.2.1.toNat 0;
 (spec_l1In x2 (0 : Int) (60 : Int)).bind fun r3 =>
 br (!r3.1.1)
 (some (.inr (.inl ((false, ()), (), ()))))
 (let x4 : Int := w64 (x.1.2.2.2.1 + (1 : Int));
 some (.inl ((x.1.1, x.1.2.1, x.1.2.2.1, x4, ()), (), ()))))))
 (some (.inr (.inr ((x.1.1, ()), (), ()))))
def spec_LineOk_h0 : Sh := ⟨[(0, .c (.rd [] .i64)), (5, .c (.rd [] .i64)), (6, .c (.int .i64)), (7, .c (.int .i64))], [], []⟩
def spec_LineOk_r0 : List Sh := [⟨[(2, .c (.bool))], [], []⟩, ⟨[(0, .c (.rd [] .i64))], [], []⟩]
noncomputable def spec_LineOk_L0 : Lp := ⟨0, [], spec_LineOk_h0, [], [(.ret, []), (.exit 0, [])], spec_LineOk_r0, loopC spec_LineOk_s0⟩
noncomputable def spec_LineOk (a0 : List Int) : Option ((Bool × Unit) × Unit × Unit) :=
 (loopC spec_LineOk_s0 ((a0, a0, (a0.length : Int), (0 : Int), ()), (), ())).bind fun r5 =>
 sumK r5 (fun y8 =>
 some ((y8.1.1, ()), (), ())) (fun y9 =>
 let x10 : Bool := decide ((y9.1.1.length : Int) ≤ (120 : Int));
 some ((x10, ()), (), ()))
noncomputable def spec_LineOk_C : Ctr := ⟨112, spec_LineOk_arg, spec_LineOk_res, fun x => spec_LineOk x.1.1, none⟩
def spec_LineOk_H : Hint := ⟨[], [], [], fun _ => []⟩
noncomputable def spec_LineOk_T : List Ctr := [spec_l1In_C]
noncomputable def spec_LineOk_Ls : List Lp := [spec_LineOk_L0]
theorem spec_LineOk_l0 : ∀ x, spec_LineOk_s0 x = stepW E0 spec_LineOk_T spec_LineOk_Ls spec_LineOk_H (loopAt (bodyOf Try.f112) 0) 0 spec_LineOk_h0 [] [(.ret, []), (.exit 0, [])] spec_LineOk_r0 x := fun x => by kernel_rfl
theorem spec_LineOk_e : ∀ x, spec_LineOk_C.F x = runBodyW E0 spec_LineOk_T spec_LineOk_Ls spec_LineOk_H 112 Try.f112.results.toList (bodyOf Try.f112) [] (spec_LineOk_arg.mk' x) spec_LineOk_res := fun x => by kernel_rfl
theorem spec_LineOk_ok : spec_LineOk_C.Ok E0 := fn_ok (T := spec_LineOk_T) (h := spec_LineOk_H) (Ls := spec_LineOk_Ls) E0_mixed (T_cons spec_l1In_ok T_nil) Try.func112 (bodyOf_some (by kernel_rfl)) (by kernel_rfl) (loops_of (ks := [0]) (by kernel_rfl) ⟨(loop_one (h := spec_LineOk_H) (own := []) (head := spec_LineOk_h0) (back := []) (exs := [(.ret, []), (.exit 0, [])]) (res := spec_LineOk_r0) (step := spec_LineOk_s0) (by kernel_rfl) spec_LineOk_l0), trivial⟩) spec_LineOk_e
def spec_l3Fits_arg : Sh := ⟨[(0, .agg [.int .i64, .int .i64, .int .i64]), (1, .c (.rd [] .i64))], [], []⟩
def spec_l3Fits_res : List Sh := [⟨[(0, .c (.bool))], [], []⟩]
noncomputable def spec_l3Fits (a0_0 : Int) (a0_1 : Int) (a0_2 : Int) (a1 : List Int) : Option ((Bool × Unit) × Unit × Unit) :=
 (spec_l3Sum a1).bind fun r1 =>
 (spec_LineOk a1).bind fun r2 =>
 br r2.1.1
 (let x3 : Int := w64 (r1.1.2.1 * a0_1);
 let x4 : Int := w64 (r1.1.1 + x3);
 let x5 : Bool := decide (x4 ≤ a0_0);
 some ((x5, ()), (), ()))
 (some ((false, ()), (), ()))
noncomputable def spec_l3Fits_C : Ctr := ⟨61, spec_l3Fits_arg, spec_l3Fits_res, fun x => spec_l3Fits x.1.1.1 x.1.1.2.1 x.1.1.2.2.1 x.1.2.1, none⟩
def spec_l3Fits_H : Hint := ⟨[], [], [], fun _ => []⟩
noncomputable def spec_l3Fits_T : List Ctr := [spec_l3Sum_C, spec_LineOk_C]
noncomputable def spec_l3Fits_Ls : List Lp := []
theorem spec_l3Fits_e : ∀ x, spec_l3Fits_C.F x = runBodyW E0 spec_l3Fits_T spec_l3Fits_Ls spec_l3Fits_H 61 Try.f61.results.toList (bodyOf Try.f61) [] (spec_l3Fits_arg.mk' x) spec_l3Fits_res := fun x => by kernel_rfl
theorem spec_l3Fits_ok : spec_l3Fits_C.Ok E0 := fn_ok (T := spec_l3Fits_T) (h := spec_l3Fits_H) (Ls := spec_l3Fits_Ls) E0_mixed (T_cons spec_l3Sum_ok (T_cons spec_LineOk_ok T_nil)) Try.func61 (bodyOf_some (by kernel_rfl)) (by kernel_rfl) (loops_of (ks := []) (by kernel_rfl) trivial) spec_l3Fits_e
def spec_MachineOk_arg : Sh := ⟨[(0, .agg [.str, .rd [] .i64, .rd [] .i64, .rd [] .mats, .int .i64, .int .i64, .int .i64, .int .i64, .rd [] .mat, .rd [] .mat])], [], []⟩
def spec_MachineOk_res : List Sh := [⟨[(0, .c (.bool))], [], []⟩]
noncomputable def spec_MachineOk_s0 (x : (Unit × List (Int × Int) × Int × Int × Unit) × ((ByteArray × List Int × List Int × List (List (Int × Int)) × Int × Int × Int × Int × List (Int × Int) × List (Int × Int) × Unit) × Unit) × Unit) : Option (((Unit × List (Int × Int) × Int × Int × Unit) × ((ByteArray × List Int × List Int × List (List (Int × Int)) × Int × Int × Int × Int × List (Int × Int) × List (Int × Int) × Unit) × Unit) × Unit) ⊕ (((Bool × Unit) × Unit × Unit) ⊕ ((Unit × Unit) × ((ByteArray × List Int × List Int × List (List (Int × Int)) × Int × Int × Int × Int × List (Int × Int) × List (Int × Int) × Unit) × Unit) × Unit))) :=
 let x5 : Bool := decide (x.1.2.2.2.1 < x.1.2.2.1);
 br x5
 (ck (0 ≤ x.1.2.2.2.1)
 (ck (x.1.2.2.2.1.toNat < x.1.2.1.length)
 (let x6 : Int × Int := x.1.2.1.getD x.1.2.2.2.1.toNat (0, 0);
 (spec_l2Matrix x.2.1.1.1 x.2.1.1.2.1 x.2.1.1.2.2.1 x6.1 x6.2).bind fun r7 =>
 br (!r7.1.1)
 (let x8 : Bool := x6.1 != (-1 : Int);
 br x8
 (some (.inr (.inl ((false, ()), (), ()))))
 (let x9 : Bool := x6.2 != (0 : Int);
 br x9
 (some (.inr (.inl ((false, ()), (), ()))))
 (let x10 : Int := w64 (x.1.2.2.2.1 + (1 : Int));
 some (.inl (((), x.1.2.1, x.1.2.2.1, x10, ()), ((x.2.1.1.1, x.2.1.1.2.1, x.2.1.1.2.2.1, x.2.1.1.2.2.2.1, x.2.1.1.2.2.2.2.1, x.2.1.1.2.2.2.2.2.1, x.2.1.1.2.2.2.2.2.2.1, x.2.1.1.2.2.2.2.2.2.2.1, x.2.1.1.2.2.2.2.2.2.2.2.1, x.2.1.1.2.2.2.2.2.2.2.2.2.1, ()), ()), ())))))
 (let x11 : Int := w64 (x.1.2.2.2.1 + (1 : Int));
 some (.inl (((), x.1.2.1, x.1.2.2.1, x11, ()), ((x.2.1.1.1, x.2.1.1.2.1, x.2.1.1.2.2.1, x.2.1.1.2.2.2.1, x.2.1.1.2.2.2.2.1, x.2.1.1.2.2.2.2.2.1, x.2.1.1.2.2.2.2.2.2.1, x.2.1.1.2.2.2.2.2.2.2.1, x.2.1.1.2.2.2.2.2.2.2.2.1, x.2.1.1.2.2.2.2.2.2.2.2.2.1, ()), ()), ()))))))
 (some (.inr (.inr (((), ()), ((x.2.1.1.1, x.2.1.1.2.1, x.2.1.1.2.2.1, x.2.1.1.2.2.2.1, x.2.1.1.2.2.2.2.1, x.2.1.1.2.2.2.2.2.1, x.2.1.1.2.2.2.2.2.2.1, x.2.1.1.2.2.2.2.2.2.2.1, x.2.1.1.2.2.2.2.2.2.2.2.1, x.2.1.1.2.2.2.2.2.2.2.2.2.1, ()), ()), ()))))
def spec_MachineOk_h0 : Sh := ⟨[(1, .c (.box 0 0)), (32, .c (.rd [] .mat)), (33, .c (.int .i64)), (34, .c (.int .i64))], [(0, .cells [.str, .rd [] .i64, .rd [] .i64, .rd [] .mats, .int .i64, .int .i64, .int .i64, .int .i64, .rd [] .mat, .rd [] .mat])], []⟩
def spec_MachineOk_r0 : List Sh := [⟨[(2, .c (.bool))], [], []⟩, ⟨[(1, .c (.box 0 0))], [(0, .cells [.str, .rd [] .i64, .rd [] .i64, .rd [] .mats, .int .i64, .int .i64, .int .i64, .int .i64, .rd [] .mat, .rd [] .mat])], []⟩]
noncomputable def spec_MachineOk_L0 : Lp := ⟨0, [], spec_MachineOk_h0, [], [(.ret, []), (.exit 0, [])], spec_MachineOk_r0, loopC spec_MachineOk_s0⟩
noncomputable def spec_MachineOk_s2 (x : (Unit × List (Int × Int) × Int × Int × Unit) × ((ByteArray × List Int × List Int × List (List (Int × Int)) × Int × Int × Int × Int × List (Int × Int) × List (Int × Int) × Unit) × Unit) × Unit) : Option (((Unit × List (Int × Int) × Int × Int × Unit) × ((ByteArray × List Int × List Int × List (List (Int × Int)) × Int × Int × Int × Int × List (Int × Int) × List (Int × Int) × Unit) × Unit) × Unit) ⊕ (((Bool × Unit) × Unit × Unit) ⊕ ((Unit × Unit) × ((ByteArray × List Int × List Int × List (List (Int × Int)) × Int × Int × Int × Int × List (Int × Int) × List (Int × Int) × Unit) × Unit) × Unit))) :=
 let x17 : Bool := decide (x.1.2.2.2.1 < x.1.2.2.1);
 br x17
 (ck (0 ≤ x.1.2.2.2.1)
 (ck (x.1.2.2.2.1.toNat < x.1.2.1.length)
 (let x18 : Int × Int := x.1.2.1.getD x.1.2.2.2.1.toNat (0, 0);
 (spec_l2Matrix x.2.1.1.1 x.2.1.1.2.1 x.2.1.1.2.2.1 x18.1 x18.2).bind fun r19 =>
 br (!r19.1.1)
 (some (.inr (.inl ((false, ()), (), ()))))
 (let x20 : Int := w64 (x.1.2.2.2.1 + (1 : Int));
 some (.inl (((), x.1.2.1, x.1.2.2.1, x20, ()), ((x.2.1.1.1, x.2.1.1.2.1, x.2.1.1.2.2.1, x.2.1.1.2.2.2.1, x.2.1.1.2.2.2.2.1, x.2.1.1.2.2.2.2.2.1, x.2.1.1.2.2.2.2.2.2.1, x.2.1.1.2.2.2.2.2.2.2.1, x.2.1.1.2.2.2.2.2.2.2.2.1, x.2.1.1.2.2.2.2.2.2.2.2.2.1, ()), ()), ()))))))
 (some (.inr (.inr (((), ()), ((x.2.1.1.1, x.2.1.1.2.1, x.2.1.1.2.2.1, x.2.1.1.2.2.2.1, x.2.1.1.2.2.2.2.1, x.2.1.1.2.2.2.2.2.1, x.2.1.1.2.2.2.2.2.2.1, x.2.1.1.2.2.2.2.2.2.2.1, x.2.1.1.2.2.2.2.2.2.2.2.1, x.2.1.1.2.2.2.2.2.2.2.2.2.1, ()), ()), ()))))
def spec_MachineOk_h2 : Sh := ⟨[(1, .c (.box 0 0)), (55, .c (.rd [] .mat)), (56, .c (.int .i64)), (57, .c (.int .i64))], [(0, .cells [.str, .rd [] .i64, .rd [] .i64, .rd [] .mats, .int .i64, .int .i64, .int .i64, .int .i64, .rd [] .mat, .rd [] .mat])], []⟩
def spec_MachineOk_r2 : List Sh := [⟨[(2, .c (.bool))], [], []⟩, ⟨[(1, .c (.box 0 0))], [(0, .cells [.str, .rd [] .i64, .rd [] .i64, .rd [] .mats, .int .i64, .int .i64, .int .i64, .int .i64, .rd [] .mat, .rd [] .mat])], []⟩]
noncomputable def spec_MachineOk_L2 : Lp := ⟨2, [], spec_MachineOk_h2, [], [(.ret, []), (.exit 2, [])], spec_MachineOk_r2, loopC spec_MachineOk_s2⟩
noncomputable def spec_MachineOk (a0_0 : ByteArray) (a0_1 : List Int) (a0_2 : List Int) (a0_3 : List (List (Int × Int))) (a0_4 : Int) (a0_5 : Int) (a0_6 : Int) (a0_7 : Int) (a0_8 : List (Int × Int)) (a0_9 : List (Int × Int)) : Option ((Bool × Unit) × Unit × Unit) :=
 (spec_MagazineOk a0_0 a0_1 a0_2 a0_3).bind fun r1 =>
 br (!r1.1.1)
 (some ((false, ()), (), ()))
 ((spec_l1In a0_4 (0 : Int) (60 : Int)).bind fun r2 =>
 br (!r2.1.1)
 (some ((false, ()), (), ()))
 ((spec_MeasureOk a0_5 a0_6 a0_7).bind fun r3 =>
 br (!r3.1.1)
 (some ((false, ()), (), ()))
 (let x4 : Bool := decide ((a0_9.length : Int) > (240 : Int));
 br x4
 (some ((false, ()), (), ()))
 ((loopC spec_MachineOk_s0 (((), a0_8, (a0_8.length : Int), (0 : Int), ()), ((a0_0, a0_1, a0_2, a0_3, a0_4, a0_5, a0_6, a0_7, a0_8, a0_9, ()), ()), ())).bind fun r12 =>
 sumK r12 (fun y15 =>
 some ((y15.1.1, ()), (), ())) (fun y16 =>
 (loopC spec_MachineOk_s2 (((), y16.2.1.1.2.2.2.2.2.2.2.2.2.1, (y16.2.1.1.2.2.2.2.2.2.2.2.2.1.length : Int), (0 : Int), ()), ((y16.2.1.1.1, y16.2.1.1.2.1, y16.2.1.1.2.2.1, y16.2.1.1.2.2.2.1, y16.2.1.1.2.2.2.2.1, y16.2.1.1.2.2.2.2.2.1, y16.2.1.1.2.2.2.2.2.2.1, y16.2.1.1.2.2.2.2.2.2.2.1, y16.2.1.1.2.2.2.2.2.2.2.2.1, y16.2.1.1.2.2.2.2.2.2.2.2.2.1, ()), ()), ())).bind fun r21 =>
 sumK r21 (fun y24 =>
 some ((y24.1.1, ()), (), ())) (fun y25 =>
 (spec_l5Items y25.2.1.1.1 y25.2.1.1.2.1 y25.2.1.1.2.2.1 y25.2.1.1.2.2.2.2.2.2.2.2.1).bind fun r26 =>
 (spec_l3Fits y25.2.1.1.2.2.2.2.2.1 y25.2.1.1.2.2.2.2.2.2.1 y25.2.1.1.2.2.2.2.2.2.2.1 r26.2.2.1).bind fun r27 =>
 some ((r27.1.1, ()), (), ())))))))
noncomputable def spec_MachineOk_C : Ctr := ⟨15, spec_MachineOk_arg, spec_MachineOk_res, fun x => spec_MachineOk x.1.1.1 x.1.1.2.1 x.1.1.2.2.1 x.1.1.2.2.2.1 x.1.1.2.2.2.2.1 x.1.1.2.2.2.2.2.1 x.1.1.2.2.2.2.2.2.1 x.1.1.2.2.2.2.2.2.2.1 x.1.1.2.2.2.2.2.2.2.2.1 x.1.1.2.2.2.2.2.2.2.2.2.1, none⟩
def spec_MachineOk_H : Hint := ⟨[], [], [], fun _ => []⟩
noncomputable def spec_MachineOk_T : List Ctr := [spec_MagazineOk_C, spec_l1In_C, spec_MeasureOk_C, spec_l2Matrix_C, spec_l5Items_C, spec_l3Fits_C]
noncomputable def spec_MachineOk_Ls : List Lp := [spec_MachineOk_L0, spec_MachineOk_L2]
theorem spec_MachineOk_l0 : ∀ x, spec_MachineOk_s0 x = stepW E0 spec_MachineOk_T spec_MachineOk_Ls spec_MachineOk_H (loopAt (bodyOf Try.f15) 0) 0 spec_MachineOk_h0 [] [(.ret, []), (.exit 0, [])] spec_MachineOk_r0 x := fun x => by kernel_rfl
theorem spec_MachineOk_l2 : ∀ x, spec_MachineOk_s2 x = stepW E0 spec_MachineOk_T spec_MachineOk_Ls spec_MachineOk_H (loopAt (bodyOf Try.f15) 1) 2 spec_MachineOk_h2 [] [(.ret, []), (.exit 2, [])] spec_MachineOk_r2 x := fun x => by kernel_rfl
theorem spec_MachineOk_e : ∀ x, spec_MachineOk_C.F x = runBodyW E0 spec_MachineOk_T spec_MachineOk_Ls spec_MachineOk_H 15 Try.f15.results.toList (bodyOf Try.f15) [] (spec_MachineOk_arg.mk' x) spec_MachineOk_res := fun x => by kernel_rfl
theorem spec_MachineOk_ok : spec_MachineOk_C.Ok E0 := fn_ok (T := spec_MachineOk_T) (h := spec_MachineOk_H) (Ls := spec_MachineOk_Ls) E0_mixed (T_cons spec_MagazineOk_ok (T_cons spec_l1In_ok (T_cons spec_MeasureOk_ok (T_cons spec_l2Matrix_ok (T_cons spec_l5Items_ok (T_cons spec_l3Fits_ok T_nil)))))) Try.func15 (bodyOf_some (by kernel_rfl)) (by kernel_rfl) (loops_of (ks := [0, 2]) (by kernel_rfl) ⟨(loop_one (h := spec_MachineOk_H) (own := []) (head := spec_MachineOk_h0) (back := []) (exs := [(.ret, []), (.exit 0, [])]) (res := spec_MachineOk_r0) (step := spec_MachineOk_s0) (by kernel_rfl) spec_MachineOk_l0), (loop_one (h := spec_MachineOk_H) (own := []) (head := spec_MachineOk_h2) (back := []) (exs := [(.ret, []), (.exit 2, [])]) (res := spec_MachineOk_r2) (step := spec_MachineOk_s2) (by kernel_rfl) spec_MachineOk_l2), trivial⟩) spec_MachineOk_e
def spec_l2Copy_arg : Sh := ⟨[(0, .c (.rd [] .mats))], [], []⟩
def spec_l2Copy_res : List Sh := [⟨[(0, .c (.own 0))], [], [(0, .mats)]⟩]
noncomputable def spec_l2Copy_s0 (x : (Unit × List (List (Int × Int)) × Int × Int × Unit) × Unit × (List (List (Int × Int)) × Unit)) : Option (((Unit × List (List (Int × Int)) × Int × Int × Unit) × Unit × (List (List (Int × Int)) × Unit)) ⊕ ((Unit × Unit) × Unit × (List (List (Int × Int)) × Unit))) :=
 let x1 : Bool := decide (x.1.2.2.2.1 < x.1.2.2.1);
 br x1
 (ck (0 ≤ x.1.2.2.2.1)
 (ck (x.1.2.2.2.1.toNat < x.1.2.1.length)
 (let x2 : List (Int × Int) := x.1.2.1.getD x.1.2.2.2.1.toNat [];
 ck ((([] : List Int).length + x2.length) * 16 ≤ 140737488355328 ∧ (([] : List Int).length + x2.length) ≤ 9223372036854775807)
 (let x3 : List (Int × Int) := [] ++ x2;
 ck ((x.2.2.1.length + 1) * 24 ≤ 140737488355328 ∧ (x.2.2.1.length + 1) ≤ 9223372036854775807)
 (let x4 : List (List (Int × Int)) := x.2.2.1 ++ [x3];
 let x5 : Int := w64 (x.1.2.2.2.1 + (1 : Int));
 some (.inl (((), x.1.2.1, x.1.2.2.1, x5, ()), (), (x4, ()))))))))
 (some (.inr (((), ()), (), (x.2.2.1, ()))))
def spec_l2Copy_h0 : Sh := ⟨[(3, .c (.own 0)), (7, .c (.rd [] .mats)), (8, .c (.int .i64)), (9, .c (.int .i64))], [], [(0, .mats)]⟩
def spec_l2Copy_r0 : List Sh := [⟨[(3, .c (.own 0))], [], [(0, .mats)]⟩]
noncomputable def spec_l2Copy_L0 : Lp := ⟨0, [], spec_l2Copy_h0, [], [(.exit 0, [])], spec_l2Copy_r0, loopC spec_l2Copy_s0⟩
noncomputable def spec_l2Copy (a0 : List (List (Int × Int))) : Option ((Unit × Unit) × Unit × (List (List (Int × Int)) × Unit)) :=
 (loopC spec_l2Copy_s0 (((), a0, (a0.length : Int), (0 : Int), ()), (), ([], ()))).bind fun r6 =>
 some (((), ()), (), (r6.2.2.1, ()))
noncomputable def spec_l2Copy_C : Ctr := ⟨122, spec_l2Copy_arg, spec_l2Copy_res, fun x => spec_l2Copy x.1.1, none⟩
def spec_l2Copy_H : Hint := ⟨[], [], [], fun _ => []⟩
noncomputable def spec_l2Copy_T : List Ctr := []
noncomputable def spec_l2Copy_Ls : List Lp := [spec_l2Copy_L0]
theorem spec_l2Copy_l0 : ∀ x, spec_l2Copy_s0 x = stepW E0 spec_l2Copy_T spec_l2Copy_Ls spec_l2Copy_H (loopAt (bodyOf Try.f122) 0) 0 spec_l2Copy_h0 [] [(.exit 0, [])] spec_l2Copy_r0 x := fun x => by kernel_rfl
theorem spec_l2Copy_e : ∀ x, spec_l2Copy_C.F x = runBodyW E0 spec_l2Copy_T spec_l2Copy_Ls spec_l2Copy_H 122 Try.f122.results.toList (bodyOf Try.f122) [] (spec_l2Copy_arg.mk' x) spec_l2Copy_res := fun x => by kernel_rfl
theorem spec_l2Copy_ok : spec_l2Copy_C.Ok E0 := fn_ok (T := spec_l2Copy_T) (h := spec_l2Copy_H) (Ls := spec_l2Copy_Ls) E0_mixed T_nil Try.func122 (bodyOf_some (by kernel_rfl)) (by kernel_rfl) (loops_of (ks := [0]) (by kernel_rfl) ⟨(loop_one (h := spec_l2Copy_H) (own := []) (head := spec_l2Copy_h0) (back := []) (exs := [(.exit 0, [])]) (res := spec_l2Copy_r0) (step := spec_l2Copy_s0) (by kernel_rfl) spec_l2Copy_l0), trivial⟩) spec_l2Copy_e
def spec_l5Copy_arg : Sh := ⟨[(0, .agg [.str, .rd [] .i64, .rd [] .i64, .rd [] .mats, .int .i64, .int .i64, .int .i64, .int .i64, .rd [] .mat, .rd [] .mat])], [], []⟩
def spec_l5Copy_res : List Sh := [⟨[(0, .agg [.str, .own 0, .own 1, .own 2, .int .i64, .int .i64, .int .i64, .int .i64, .own 3, .own 4])], [], [(0, .i64), (1, .i64), (2, .mats), (3, .mat), (4, .mat)]⟩]
noncomputable def spec_l5Copy (a0_0 : ByteArray) (a0_1 : List Int) (a0_2 : List Int) (a0_3 : List (List (Int × Int))) (a0_4 : Int) (a0_5 : Int) (a0_6 : Int) (a0_7 : Int) (a0_8 : List (Int × Int)) (a0_9 : List (Int × Int)) : Option (((ByteArray × Unit × Unit × Unit × Int × Int × Int × Int × Unit × Unit × Unit) × Unit) × Unit × (List Int × List Int × List (List (Int × Int)) × List (Int × Int) × List (Int × Int) × Unit)) :=
 ck ((([] : List Int).length + a0_1.length) * 8 ≤ 140737488355328 ∧ (([] : List Int).length + a0_1.length) ≤ 9223372036854775807)
 (let x1 : List Int := [] ++ a0_1;
 ck ((([] : List Int).length + a0_2.length) * 8 ≤ 140737488355328 ∧ (([] : List Int).length + a0_2.length) ≤ 9223372036854775807)
 (let x2 : List Int := [] ++ a0_2;
 (spec_l2Copy a0_3).bind fun r3 =>
 ck ((([] : List Int).length + a0_8.length) * 16 ≤ 140737488355328 ∧ (([] : List Int).length + a0_8.length) ≤ 9223372036854775807)
 (let x4 : List (Int × Int) := [] ++ a0_8;
 ck ((([] : List Int).length + a0_9.length) * 16 ≤ 140737488355328 ∧ (([] : List Int).length + a0_9.length) ≤ 9223372036854775807)
 (let x5 : List (Int × Int) := [] ++ a0_9;
 some (((a0_0, (), (), (), a0_4, a0_5, a0_6, a0_7, (), (), ()), ()), (), (x1, x2, r3.2.2.1, x4, x5, ()))))))
noncomputable def spec_l5Copy_C : Ctr := ⟨84, spec_l5Copy_arg, spec_l5Copy_res, fun x => spec_l5Copy x.1.1.1 x.1.1.2.1 x.1.1.2.2.1 x.1.1.2.2.2.1 x.1.1.2.2.2.2.1 x.1.1.2.2.2.2.2.1 x.1.1.2.2.2.2.2.2.1 x.1.1.2.2.2.2.2.2.2.1 x.1.1.2.2.2.2.2.2.2.2.1 x.1.1.2.2.2.2.2.2.2.2.2.1, none⟩
def spec_l5Copy_H : Hint := ⟨[], [], [], fun _ => []⟩
noncomputable def spec_l5Copy_T : List Ctr := [spec_l2Copy_C]
noncomputable def spec_l5Copy_Ls : List Lp := []
theorem spec_l5Copy_e : ∀ x, spec_l5Copy_C.F x = runBodyW E0 spec_l5Copy_T spec_l5Copy_Ls spec_l5Copy_H 84 Try.f84.results.toList (bodyOf Try.f84) [] (spec_l5Copy_arg.mk' x) spec_l5Copy_res := fun x => by kernel_rfl
theorem spec_l5Copy_ok : spec_l5Copy_C.Ok E0 := fn_ok (T := spec_l5Copy_T) (h := spec_l5Copy_H) (Ls := spec_l5Copy_Ls) E0_mixed (T_cons spec_l2Copy_ok T_nil) Try.func84 (bodyOf_some (by kernel_rfl)) (by kernel_rfl) (loops_of (ks := []) (by kernel_rfl) trivial) spec_l5Copy_e
def spec_NewMachine_arg : Sh := ⟨[(0, .agg [.str, .rd [] .i64, .rd [] .i64]), (1, .c (.int .i64)), (2, .c (.int .i64)), (3, .agg [.int .i64, .int .i64, .int .i64])], [], []⟩
def spec_NewMachine_res : List Sh := [⟨[(0, .agg [.str, .own 0, .own 1, .own 2, .int .i64, .int .i64, .int .i64, .int .i64, .own 3, .own 4]), (1, .c (.bool))], [], [(0, .i64), (1, .i64), (2, .mats), (3, .mat), (4, .mat)]⟩]
noncomputable def spec_NewMachine (a0_0 : ByteArray) (a0_1 : List Int) (a0_2 : List Int) (a1 : Int) (a2 : Int) (a3_0 : Int) (a3_1 : Int) (a3_2 : Int) : Option (((ByteArray × Unit × Unit × Unit × Int × Int × Int × Int × Unit × Unit × Unit) × Bool × Unit) × Unit × (List Int × List Int × List (List (Int × Int)) × List (Int × Int) × List (Int × Int) × Unit)) :=
 (spec_FillMagazine a0_0 a0_1 a0_2 a1).bind fun r1 =>
 br (!r1.1.2.1)
 (some (((ByteArray.empty, (), (), (), (0 : Int), (0 : Int), (0 : Int), (0 : Int), (), (), ()), false, ()), (), ([], [], [], [], [], ())))
 ((spec_MachineOk a0_0 a0_1 a0_2 r1.2.2.1 a2 a3_0 a3_1 a3_2 [] []).bind fun r2 =>
 br (!r2.1.1)
 (some (((ByteArray.empty, (), (), (), (0 : Int), (0 : Int), (0 : Int), (0 : Int), (), (), ()), false, ()), (), ([], [], [], [], [], ())))
 ((spec_l5Copy a0_0 a0_1 a0_2 r1.2.2.1 a2 a3_0 a3_1 a3_2 [] []).bind fun r3 =>
 some (((r3.1.1.1, (), (), (), r3.1.1.2.2.2.2.1, r3.1.1.2.2.2.2.2.1, r3.1.1.2.2.2.2.2.2.1, r3.1.1.2.2.2.2.2.2.2.1, (), (), ()), true, ()), (), (r3.2.2.1, r3.2.2.2.1, r3.2.2.2.2.1, r3.2.2.2.2.2.1, r3.2.2.2.2.2.2.1, ()))))
noncomputable def spec_NewMachine_C : Ctr := ⟨30, spec_NewMachine_arg, spec_NewMachine_res, fun x => spec_NewMachine x.1.1.1 x.1.1.2.1 x.1.1.2.2.1 x.1.2.1 x.1.2.2.1 x.1.2.2.2.1.1 x.1.2.2.2.1.2.1 x.1.2.2.2.1.2.2.1, none⟩
def spec_NewMachine_H : Hint := ⟨[], [], [], fun _ => []⟩
noncomputable def spec_NewMachine_T : List Ctr := [spec_FillMagazine_C, spec_MachineOk_C, spec_l5Copy_C]
noncomputable def spec_NewMachine_Ls : List Lp := []
theorem spec_NewMachine_e : ∀ x, spec_NewMachine_C.F x = runBodyW E0 spec_NewMachine_T spec_NewMachine_Ls spec_NewMachine_H 30 Try.f30.results.toList (bodyOf Try.f30) [(.bx 8 1, 6000000, .i64), (.bx 8 2, 6000001, .i64), (.bx 8 3, 6000002, .mats), (.bx 8 8, 6000003, .mat), (.bx 8 9, 6000004, .mat)] (spec_NewMachine_arg.mk' x) spec_NewMachine_res := fun x => by kernel_rfl
theorem spec_NewMachine_ok : spec_NewMachine_C.Ok E0 := fn_ok (T := spec_NewMachine_T) (h := spec_NewMachine_H) (Ls := spec_NewMachine_Ls) E0_mixed (T_cons spec_FillMagazine_ok (T_cons spec_MachineOk_ok (T_cons spec_l5Copy_ok T_nil))) Try.func30 (bodyOf_some (by kernel_rfl)) (by kernel_rfl) (loops_of (ks := []) (by kernel_rfl) trivial) spec_NewMachine_e
def spec_NewDesk_arg : Sh := ⟨[], [], []⟩
def spec_NewDesk_res : List Sh := [⟨[(0, .agg [.str, .own 0, .own 1, .own 2, .int .i64, .int .i64, .int .i64, .int .i64, .own 3, .own 4, .nil])], [], [(0, .i64), (1, .i64), (2, .mats), (3, .mat), (4, .mat)]⟩]
noncomputable def spec_NewDesk : Option (((ByteArray × Unit × Unit × Unit × Int × Int × Int × Int × Unit × Unit × Unit × Unit) × Unit) × Unit × (List Int × List Int × List (List (Int × Int)) × List (Int × Int) × List (Int × Int) × Unit)) :=
 (spec_NewMachine (ByteArray.mk #[97, 101, 105, 110, 111, 115, 116]) [(5 : Int), (5 : Int), (3 : Int), (6 : Int), (6 : Int), (5 : Int), (4 : Int)] [(3 : Int), (5 : Int), (6 : Int), (9 : Int), (10 : Int), (12 : Int), (17 : Int)] (10 : Int) (20 : Int) (60 : Int) (2 : Int) (8 : Int)).bind fun r1 =>
 some (((r1.1.1.1, (), (), (), r1.1.1.2.2.2.2.1, r1.1.1.2.2.2.2.2.1, r1.1.1.2.2.2.2.2.2.1, r1.1.1.2.2.2.2.2.2.2.1, (), (), (), ()), ()), (), (r1.2.2.1, r1.2.2.2.1, r1.2.2.2.2.1, r1.2.2.2.2.2.1, r1.2.2.2.2.2.2.1, ()))
noncomputable def spec_NewDesk_C : Ctr := ⟨39, spec_NewDesk_arg, spec_NewDesk_res, fun x => spec_NewDesk, none⟩
def spec_NewDesk_H : Hint := ⟨[], [], [], fun _ => []⟩
noncomputable def spec_NewDesk_T : List Ctr := [spec_NewMachine_C]
noncomputable def spec_NewDesk_Ls : List Lp := []
theorem spec_NewDesk_e : ∀ x, spec_NewDesk_C.F x = runBodyW E0 spec_NewDesk_T spec_NewDesk_Ls spec_NewDesk_H 39 Try.f39.results.toList (bodyOf Try.f39) [] (spec_NewDesk_arg.mk' x) spec_NewDesk_res := fun x => by kernel_rfl
theorem spec_NewDesk_ok : spec_NewDesk_C.Ok E0 := fn_ok (T := spec_NewDesk_T) (h := spec_NewDesk_H) (Ls := spec_NewDesk_Ls) E0_mixed (T_cons spec_NewMachine_ok T_nil) Try.func39 (bodyOf_some (by kernel_rfl)) (by kernel_rfl) (loops_of (ks := []) (by kernel_rfl) trivial) spec_NewDesk_e
def impl_between_1_arg : Sh := ⟨[(0, .c (.int .i64)), (1, .c (.rad [] [.int .i64])), (2, .c (.rad [] [.int .i64]))], [], []⟩
def impl_between_1_res : List Sh := [⟨[(0, .c (.bool))], [], []⟩]
noncomputable def impl_between_1 (a0 : Int) (a1_0 : Int) (a2_0 : Int) : Option ((Bool × Unit) × Unit × Unit) :=
 let x1 : Bool := decide (a0 < a1_0);
 br x1
 (some ((true, ()), (), ()))
 (let x2 : Bool := decide (a0 > a2_0);
 some ((x2, ()), (), ()))
noncomputable def impl_between_1_C : Ctr := ⟨154, impl_between_1_arg, impl_between_1_res, fun x => impl_between_1 x.1.1 x.1.2.1.1 x.1.2.2.1.1, none⟩
def impl_between_1_H : Hint := ⟨[], [], [], fun _ => []⟩
noncomputable def impl_between_1_T : List Ctr := []
noncomputable def impl_between_1_Ls : List Lp := []
theorem impl_between_1_e : ∀ x, impl_between_1_C.F x = runBodyW E0 impl_between_1_T impl_between_1_Ls impl_between_1_H 154 Try.f154.results.toList (bodyOf Try.f154) [] (impl_between_1_arg.mk' x) impl_between_1_res := fun x => by kernel_rfl
theorem impl_between_1_ok : impl_between_1_C.Ok E0 := fn_ok (T := impl_between_1_T) (h := impl_between_1_H) (Ls := impl_between_1_Ls) E0_mixed T_nil Try.func154 (bodyOf_some (by kernel_rfl)) (by kernel_rfl) (loops_of (ks := []) (by kernel_rfl) trivial) impl_between_1_e
def IndexFunc_int_impl_between_1_arg : Sh := ⟨[(0, .c (.rd [] .i64)), (1, .c (.fnr 154 [[.int .i64], [.int .i64]]))], [], []⟩
def IndexFunc_int_impl_between_1_res : List Sh := [⟨[(0, .c (.int .i64))], [], []⟩]
noncomputable def IndexFunc_int_impl_between_1_s0 (x : (List Int × ((Int × Unit) × (Int × Unit) × Unit) × Int × Int × Unit) × Unit × Unit) : Option (((List Int × ((Int × Unit) × (Int × Unit) × Unit) × Int × Int × Unit) × Unit × Unit) ⊕ (((Int × Unit) × Unit × Unit) ⊕ (Unit × Unit × Unit))) :=
 let x1 : Bool := decide (x.1.2.2.2.1 < x.1.2.2.1);
 br x1
 (ck (0 ≤ x.1.2.2.2.1)
 (ck (x.1.2.2.2.1.toNat < x.1.1.length)
 (let x2 : Int := x.1.1.getD x.1.2.2.2.1.toNat 0;
 (impl_between_1 x2 x.1.2.1.1.1 x.1.2.1.2.1.1).bind fun r3 =>
 br r3.1.1
 (some (.inr (.inl ((x.1.2.2.2.1, ()), (), ()))))
 (let x4 : Int := w64 (x.1.2.2.2.1 + (1 : Int));
 some (.inl ((x.1.1, ((x.1.2.1.1.1, ()), (x.1.2.1.2.1.1, ()), ()), x.1.2.2.1, x4, ()), (), ()))))))
 (some (.inr (.inr ((), (), ()))))
def IndexFunc_int_impl_between_1_h0 : Sh := ⟨[(0, .c (.rd [] .i64)), (1, .c (.fnr 154 [[.int .i64], [.int .i64]])), (7, .c (.int .i64)), (8, .c (.int .i64))], [], []⟩
def IndexFunc_int_impl_between_1_r0 : List Sh := [⟨[(4, .c (.int .i64))], [], []⟩, ⟨[], [], []⟩]
noncomputable def IndexFunc_int_impl_between_1_L0 : Lp := ⟨0, [], IndexFunc_int_impl_between_1_h0, [], [(.ret, []), (.exit 0, [])], IndexFunc_int_impl_between_1_r0, loopC IndexFunc_int_impl_between_1_s0⟩
noncomputable def IndexFunc_int_impl_between_1 (a0 : List Int) (a1_0_0 : Int) (a1_1_0 : Int) : Option ((Int × Unit) × Unit × Unit) :=
 (loopC IndexFunc_int_impl_between_1_s0 ((a0, ((a1_0_0, ()), (a1_1_0, ()), ()), (a0.length : Int), (0 : Int), ()), (), ())).bind fun r5 =>
 sumK r5 (fun y8 =>
 some ((y8.1.1, ()), (), ())) (fun y9 =>
 some (((-1 : Int), ()), (), ()))
noncomputable def IndexFunc_int_impl_between_1_C : Ctr := ⟨160, IndexFunc_int_impl_between_1_arg, IndexFunc_int_impl_between_1_res, fun x => IndexFunc_int_impl_between_1 x.1.1 x.1.2.1.1.1 x.1.2.1.2.1.1, none⟩
def IndexFunc_int_impl_between_1_H : Hint := ⟨[], [], [], fun _ => []⟩
noncomputable def IndexFunc_int_impl_between_1_T : List Ctr := [impl_between_1_C]
noncomputable def IndexFunc_int_impl_between_1_Ls : List Lp := [IndexFunc_int_impl_between_1_L0]
theorem IndexFunc_int_impl_between_1_l0 : ∀ x, IndexFunc_int_impl_between_1_s0 x = stepW E0 IndexFunc_int_impl_between_1_T IndexFunc_int_impl_between_1_Ls IndexFunc_int_impl_between_1_H (loopAt (bodyOf Try.f160) 0) 0 IndexFunc_int_impl_between_1_h0 [] [(.ret, []), (.exit 0, [])] IndexFunc_int_impl_between_1_r0 x := fun x => by kernel_rfl
theorem IndexFunc_int_impl_between_1_e : ∀ x, IndexFunc_int_impl_between_1_C.F x = runBodyW E0 IndexFunc_int_impl_between_1_T IndexFunc_int_impl_between_1_Ls IndexFunc_int_impl_between_1_H 160 Try.f160.results.toList (bodyOf Try.f160) [] (IndexFunc_int_impl_between_1_arg.mk' x) IndexFunc_int_impl_between_1_res := fun x => by kernel_rfl
theorem IndexFunc_int_impl_between_1_ok : IndexFunc_int_impl_between_1_C.Ok E0 := fn_ok (T := IndexFunc_int_impl_between_1_T) (h := IndexFunc_int_impl_between_1_H) (Ls := IndexFunc_int_impl_between_1_Ls) E0_mixed (T_cons impl_between_1_ok T_nil) Try.func160 (bodyOf_some (by kernel_rfl)) (by kernel_rfl) (loops_of (ks := [0]) (by kernel_rfl) ⟨(loop_one (h := IndexFunc_int_impl_between_1_H) (own := []) (head := IndexFunc_int_impl_between_1_h0) (back := []) (exs := [(.ret, []), (.exit 0, [])]) (res := IndexFunc_int_impl_between_1_r0) (step := IndexFunc_int_impl_between_1_s0) (by kernel_rfl) IndexFunc_int_impl_between_1_l0), trivial⟩) IndexFunc_int_impl_between_1_e
def ContainsFunc_int_impl_between_1_arg : Sh := ⟨[(0, .c (.rd [] .i64)), (1, .c (.fnr 154 [[.int .i64], [.int .i64]]))], [], []⟩
def ContainsFunc_int_impl_between_1_res : List Sh := [⟨[(0, .c (.bool))], [], []⟩]
noncomputable def ContainsFunc_int_impl_between_1 (a0 : List Int) (a1_0_0 : Int) (a1_1_0 : Int) : Option ((Bool × Unit) × Unit × Unit) :=
 (IndexFunc_int_impl_between_1 a0 a1_0_0 a1_1_0).bind fun r1 =>
 let x2 : Bool := decide (r1.1.1 ≥ (0 : Int));
 some ((x2, ()), (), ())
noncomputable def ContainsFunc_int_impl_between_1_C : Ctr := ⟨153, ContainsFunc_int_impl_between_1_arg, ContainsFunc_int_impl_between_1_res, fun x => ContainsFunc_int_impl_between_1 x.1.1 x.1.2.1.1.1 x.1.2.1.2.1.1, none⟩
def ContainsFunc_int_impl_between_1_H : Hint := ⟨[], [], [], fun _ => []⟩
noncomputable def ContainsFunc_int_impl_between_1_T : List Ctr := [IndexFunc_int_impl_between_1_C]
noncomputable def ContainsFunc_int_impl_between_1_Ls : List Lp := []
theorem ContainsFunc_int_impl_between_1_e : ∀ x, ContainsFunc_int_impl_between_1_C.F x = runBodyW E0 ContainsFunc_int_impl_between_1_T ContainsFunc_int_impl_between_1_Ls ContainsFunc_int_impl_between_1_H 153 Try.f153.results.toList (bodyOf Try.f153) [] (ContainsFunc_int_impl_between_1_arg.mk' x) ContainsFunc_int_impl_between_1_res := fun x => by kernel_rfl
theorem ContainsFunc_int_impl_between_1_ok : ContainsFunc_int_impl_between_1_C.Ok E0 := fn_ok (T := ContainsFunc_int_impl_between_1_T) (h := ContainsFunc_int_impl_between_1_H) (Ls := ContainsFunc_int_impl_between_1_Ls) E0_mixed (T_cons IndexFunc_int_impl_between_1_ok T_nil) Try.func153 (bodyOf_some (by kernel_rfl)) (by kernel_rfl) (loops_of (ks := []) (by kernel_rfl) trivial) ContainsFunc_int_impl_between_1_e
def impl_between_arg : Sh := ⟨[(0, .c (.rd [] .i64)), (1, .c (.int .i64)), (2, .c (.int .i64))], [], []⟩
def impl_between_res : List Sh := [⟨[(0, .c (.bool))], [], []⟩]
noncomputable def impl_between (a0 : List Int) (a1 : Int) (a2 : Int) : Option ((Bool × Unit) × Unit × Unit) :=
 (ContainsFunc_int_impl_between_1 a0 a1 a2).bind fun r1 =>
 some ((!r1.1.1, ()), (), ())
noncomputable def impl_between_C : Ctr := ⟨143, impl_between_arg, impl_between_res, fun x => impl_between x.1.1 x.1.2.1 x.1.2.2.1, none⟩
def impl_between_H : Hint := ⟨[], [], [], fun _ => []⟩
noncomputable def impl_between_T : List Ctr := [ContainsFunc_int_impl_between_1_C]
noncomputable def impl_between_Ls : List Lp := []
theorem impl_between_e : ∀ x, impl_between_C.F x = runBodyW E0 impl_between_T impl_between_Ls impl_between_H 143 Try.f143.results.toList (bodyOf Try.f143) [] (impl_between_arg.mk' x) impl_between_res := fun x => by kernel_rfl
theorem impl_between_ok : impl_between_C.Ok E0 := fn_ok (T := impl_between_T) (h := impl_between_H) (Ls := impl_between_Ls) E0_mixed (T_cons ContainsFunc_int_impl_between_1_ok T_nil) Try.func143 (bodyOf_some (by kernel_rfl)) (by kernel_rfl) (loops_of (ks := []) (by kernel_rfl) trivial) impl_between_e
def impl_isSet_arg : Sh := ⟨[(0, .c (.int .i64))], [], []⟩
def impl_isSet_res : List Sh := [⟨[(0, .c (.bool))], [], []⟩]
noncomputable def impl_isSet (a0 : Int) : Option ((Bool × Unit) × Unit × Unit) :=
 let x1 : Bool := decide (a0 ≥ (0 : Int));
 br x1
 (let x2 : Bool := decide (a0 ≤ (127 : Int));
 some ((x2, ()), (), ()))
 (some ((false, ()), (), ()))
noncomputable def impl_isSet_C : Ctr := ⟨117, impl_isSet_arg, impl_isSet_res, fun x => impl_isSet x.1.1, none⟩
def impl_isSet_H : Hint := ⟨[], [], [], fun _ => []⟩
noncomputable def impl_isSet_T : List Ctr := []
noncomputable def impl_isSet_Ls : List Lp := []
theorem impl_isSet_e : ∀ x, impl_isSet_C.F x = runBodyW E0 impl_isSet_T impl_isSet_Ls impl_isSet_H 117 Try.f117.results.toList (bodyOf Try.f117) [] (impl_isSet_arg.mk' x) impl_isSet_res := fun x => by kernel_rfl
theorem impl_isSet_ok : impl_isSet_C.Ok E0 := fn_ok (T := impl_isSet_T) (h := impl_isSet_H) (Ls := impl_isSet_Ls) E0_mixed T_nil Try.func117 (bodyOf_some (by kernel_rfl)) (by kernel_rfl) (loops_of (ks := []) (by kernel_rfl) trivial) impl_isSet_e
def impl_IsBar_1_arg : Sh := ⟨[(0, .c (.int .i64))], [], []⟩
def impl_IsBar_1_res : List Sh := [⟨[(0, .c (.bool))], [], []⟩]
noncomputable def impl_IsBar_1 (a0 : Int) : Option ((Bool × Unit) × Unit × Unit) :=
 (impl_isSet a0).bind fun r1 =>
 some ((!r1.1.1, ()), (), ())
noncomputable def impl_IsBar_1_C : Ctr := ⟨161, impl_IsBar_1_arg, impl_IsBar_1_res, fun x => impl_IsBar_1 x.1.1, none⟩
def impl_IsBar_1_H : Hint := ⟨[], [], [], fun _ => []⟩
noncomputable def impl_IsBar_1_T : List Ctr := [impl_isSet_C]
noncomputable def impl_IsBar_1_Ls : List Lp := []
theorem impl_IsBar_1_e : ∀ x, impl_IsBar_1_C.F x = runBodyW E0 impl_IsBar_1_T impl_IsBar_1_Ls impl_IsBar_1_H 161 Try.f161.results.toList (bodyOf Try.f161) [] (impl_IsBar_1_arg.mk' x) impl_IsBar_1_res := fun x => by kernel_rfl
theorem impl_IsBar_1_ok : impl_IsBar_1_C.Ok E0 := fn_ok (T := impl_IsBar_1_T) (h := impl_IsBar_1_H) (Ls := impl_IsBar_1_Ls) E0_mixed (T_cons impl_isSet_ok T_nil) Try.func161 (bodyOf_some (by kernel_rfl)) (by kernel_rfl) (loops_of (ks := []) (by kernel_rfl) trivial) impl_IsBar_1_e
def IndexFunc_int_impl_IsBar_1_arg : Sh := ⟨[(0, .c (.rd [] .i64)), (1, .c (.fnr 161 []))], [], []⟩
def IndexFunc_int_impl_IsBar_1_res : List Sh := [⟨[(0, .c (.int .i64))], [], []⟩]
noncomputable def IndexFunc_int_impl_IsBar_1_s0 (x : (List Int × Unit × Int × Int × Unit) × Unit × Unit) : Option (((List Int × Unit × Int × Int × Unit) × Unit × Unit) ⊕ (((Int × Unit) × Unit × Unit) ⊕ (Unit × Unit × Unit))) :=
 let x1 : Bool := decide (x.1.2.2.2.1 < x.1.2.2.1);
 br x1
 (ck (0 ≤ x.1.2.2.2.1)
 (ck (x.1.2.2.2.1.toNat < x.1.1.length)
 (let x2 : Int := x.1.1.getD x.1.2.2.2.1.toNat 0;
 (impl_IsBar_1 x2).bind fun r3 =>
 br r3.1.1
 (some (.inr (.inl ((x.1.2.2.2.1, ()), (), ()))))
 (let x4 : Int := w64 (x.1.2.2.2.1 + (1 : Int));
 some (.inl ((x.1.1, (), x.1.2.2.1, x4, ()), (), ()))))))
 (some (.inr (.inr ((), (), ()))))
def IndexFunc_int_impl_IsBar_1_h0 : Sh := ⟨[(0, .c (.rd [] .i64)), (1, .c (.fnr 161 [])), (7, .c (.int .i64)), (8, .c (.int .i64))], [], []⟩
def IndexFunc_int_impl_IsBar_1_r0 : List Sh := [⟨[(4, .c (.int .i64))], [], []⟩, ⟨[], [], []⟩]
noncomputable def IndexFunc_int_impl_IsBar_1_L0 : Lp := ⟨0, [], IndexFunc_int_impl_IsBar_1_h0, [], [(.ret, []), (.exit 0, [])], IndexFunc_int_impl_IsBar_1_r0, loopC IndexFunc_int_impl_IsBar_1_s0⟩
noncomputable def IndexFunc_int_impl_IsBar_1 (a0 : List Int) : Option ((Int × Unit) × Unit × Unit) :=
 (loopC IndexFunc_int_impl_IsBar_1_s0 ((a0, (), (a0.length : Int), (0 : Int), ()), (), ())).bind fun r5 =>
 sumK r5 (fun y8 =>
 some ((y8.1.1, ()), (), ())) (fun y9 =>
 some (((-1 : Int), ()), (), ()))
noncomputable def IndexFunc_int_impl_IsBar_1_C : Ctr := ⟨160, IndexFunc_int_impl_IsBar_1_arg, IndexFunc_int_impl_IsBar_1_res, fun x => IndexFunc_int_impl_IsBar_1 x.1.1, none⟩
def IndexFunc_int_impl_IsBar_1_H : Hint := ⟨[], [], [], fun _ => []⟩
noncomputable def IndexFunc_int_impl_IsBar_1_T : List Ctr := [impl_IsBar_1_C]
noncomputable def IndexFunc_int_impl_IsBar_1_Ls : List Lp := [IndexFunc_int_impl_IsBar_1_L0]
theorem IndexFunc_int_impl_IsBar_1_l0 : ∀ x, IndexFunc_int_impl_IsBar_1_s0 x = stepW E0 IndexFunc_int_impl_IsBar_1_T IndexFunc_int_impl_IsBar_1_Ls IndexFunc_int_impl_IsBar_1_H (loopAt (bodyOf Try.f160) 0) 0 IndexFunc_int_impl_IsBar_1_h0 [] [(.ret, []), (.exit 0, [])] IndexFunc_int_impl_IsBar_1_r0 x := fun x => by kernel_rfl
theorem IndexFunc_int_impl_IsBar_1_e : ∀ x, IndexFunc_int_impl_IsBar_1_C.F x = runBodyW E0 IndexFunc_int_impl_IsBar_1_T IndexFunc_int_impl_IsBar_1_Ls IndexFunc_int_impl_IsBar_1_H 160 Try.f160.results.toList (bodyOf Try.f160) [] (IndexFunc_int_impl_IsBar_1_arg.mk' x) IndexFunc_int_impl_IsBar_1_res := fun x => by kernel_rfl
theorem IndexFunc_int_impl_IsBar_1_ok : IndexFunc_int_impl_IsBar_1_C.Ok E0 := fn_ok (T := IndexFunc_int_impl_IsBar_1_T) (h := IndexFunc_int_impl_IsBar_1_H) (Ls := IndexFunc_int_impl_IsBar_1_Ls) E0_mixed (T_cons impl_IsBar_1_ok T_nil) Try.func160 (bodyOf_some (by kernel_rfl)) (by kernel_rfl) (loops_of (ks := [0]) (by kernel_rfl) ⟨(loop_one (h := IndexFunc_int_impl_IsBar_1_H) (own := []) (head := IndexFunc_int_impl_IsBar_1_h0) (back := []) (exs := [(.ret, []), (.exit 0, [])]) (res := IndexFunc_int_impl_IsBar_1_r0) (step := IndexFunc_int_impl_IsBar_1_s0) (by kernel_rfl) IndexFunc_int_impl_IsBar_1_l0), trivial⟩) IndexFunc_int_impl_IsBar_1_e
def ContainsFunc_int_impl_IsBar_1_arg : Sh := ⟨[(0, .c (.rd [] .i64)), (1, .c (.fnr 161 []))], [], []⟩
def ContainsFunc_int_impl_IsBar_1_res : List Sh := [⟨[(0, .c (.bool))], [], []⟩]
noncomputable def ContainsFunc_int_impl_IsBar_1 (a0 : List Int) : Option ((Bool × Unit) × Unit × Unit) :=
 (IndexFunc_int_impl_IsBar_1 a0).bind fun r1 =>
 let x2 : Bool := decide (r1.1.1 ≥ (0 : Int));
 some ((x2, ()), (), ())
noncomputable def ContainsFunc_int_impl_IsBar_1_C : Ctr := ⟨153, ContainsFunc_int_impl_IsBar_1_arg, ContainsFunc_int_impl_IsBar_1_res, fun x => ContainsFunc_int_impl_IsBar_1 x.1.1, none⟩
def ContainsFunc_int_impl_IsBar_1_H : Hint := ⟨[], [], [], fun _ => []⟩
noncomputable def ContainsFunc_int_impl_IsBar_1_T : List Ctr := [IndexFunc_int_impl_IsBar_1_C]
noncomputable def ContainsFunc_int_impl_IsBar_1_Ls : List Lp := []
theorem ContainsFunc_int_impl_IsBar_1_e : ∀ x, ContainsFunc_int_impl_IsBar_1_C.F x = runBodyW E0 ContainsFunc_int_impl_IsBar_1_T ContainsFunc_int_impl_IsBar_1_Ls ContainsFunc_int_impl_IsBar_1_H 153 Try.f153.results.toList (bodyOf Try.f153) [] (ContainsFunc_int_impl_IsBar_1_arg.mk' x) ContainsFunc_int_impl_IsBar_1_res := fun x => by kernel_rfl
theorem ContainsFunc_int_impl_IsBar_1_ok : ContainsFunc_int_impl_IsBar_1_C.Ok E0 := fn_ok (T := ContainsFunc_int_impl_IsBar_1_T) (h := ContainsFunc_int_impl_IsBar_1_H) (Ls := ContainsFunc_int_impl_IsBar_1_Ls) E0_mixed (T_cons IndexFunc_int_impl_IsBar_1_ok T_nil) Try.func153 (bodyOf_some (by kernel_rfl)) (by kernel_rfl) (loops_of (ks := []) (by kernel_rfl) trivial) ContainsFunc_int_impl_IsBar_1_e
def impl_IsBar_arg : Sh := ⟨[(0, .c (.rd [] .i64))], [], []⟩
def impl_IsBar_res : List Sh := [⟨[(0, .c (.bool))], [], []⟩]
noncomputable def impl_IsBar (a0 : List Int) : Option ((Bool × Unit) × Unit × Unit) :=
 let x1 : Bool := decide ((a0.length : Int) ≥ (1 : Int));
 br x1
 (let x2 : Bool := decide ((a0.length : Int) ≤ (40 : Int));
 br x2
 ((ContainsFunc_int_impl_IsBar_1 a0).bind fun r3 =>
 some ((!r3.1.1, ()), (), ()))
 (some ((false, ()), (), ())))
 (some ((false, ()), (), ()))
noncomputable def impl_IsBar_C : Ctr := ⟨155, impl_IsBar_arg, impl_IsBar_res, fun x => impl_IsBar x.1.1, none⟩
def impl_IsBar_H : Hint := ⟨[], [], [], fun _ => []⟩
noncomputable def impl_IsBar_T : List Ctr := [ContainsFunc_int_impl_IsBar_1_C]
noncomputable def impl_IsBar_Ls : List Lp := []
theorem impl_IsBar_e : ∀ x, impl_IsBar_C.F x = runBodyW E0 impl_IsBar_T impl_IsBar_Ls impl_IsBar_H 155 Try.f155.results.toList (bodyOf Try.f155) [] (impl_IsBar_arg.mk' x) impl_IsBar_res := fun x => by kernel_rfl
theorem impl_IsBar_ok : impl_IsBar_C.Ok E0 := fn_ok (T := impl_IsBar_T) (h := impl_IsBar_H) (Ls := impl_IsBar_Ls) E0_mixed (T_cons ContainsFunc_int_impl_IsBar_1_ok T_nil) Try.func155 (bodyOf_some (by kernel_rfl)) (by kernel_rfl) (loops_of (ks := []) (by kernel_rfl) trivial) impl_IsBar_e
def impl_part_arg : Sh := ⟨[(0, .c (.int .i64)), (1, .c (.int .i64))], [], []⟩
def impl_part_res : List Sh := [⟨[(0, .c (.bool))], [], []⟩]
noncomputable def impl_part (a0 : Int) (a1 : Int) : Option ((Bool × Unit) × Unit × Unit) :=
 let x1 : Int := bAndNot .i64 a0 a1;
 let x2 : Bool := x1 == (0 : Int);
 some ((x2, ()), (), ())
noncomputable def impl_part_C : Ctr := ⟨118, impl_part_arg, impl_part_res, fun x => impl_part x.1.1 x.1.2.1, none⟩
def impl_part_H : Hint := ⟨[], [], [], fun _ => []⟩
noncomputable def impl_part_T : List Ctr := []
noncomputable def impl_part_Ls : List Lp := []
theorem impl_part_e : ∀ x, impl_part_C.F x = runBodyW E0 impl_part_T impl_part_Ls impl_part_H 118 Try.f118.results.toList (bodyOf Try.f118) [] (impl_part_arg.mk' x) impl_part_res := fun x => by kernel_rfl
theorem impl_part_ok : impl_part_C.Ok E0 := fn_ok (T := impl_part_T) (h := impl_part_H) (Ls := impl_part_Ls) E0_mixed T_nil Try.func118 (bodyOf_some (by kernel_rfl)) (by kernel_rfl) (loops_of (ks := []) (by kernel_rfl) trivial) impl_part_e
def impl_fall_arg : Sh := ⟨[(0, .c (.rd [] .i64)), (1, .c (.int .i64))], [], []⟩
def impl_fall_res : List Sh := [⟨[(0, .c (.int .i64))], [], []⟩]
noncomputable def impl_fall_s0 (x : (List Int × Int × List Int × Int × Int × Unit) × Unit × Unit) : Option (((List Int × Int × List Int × Int × Int × Unit) × Unit × Unit) ⊕ (((Int × Unit) × Unit × Unit) ⊕ ((List Int × Unit) × Unit × Unit))) :=
 let x1 : Bool := decide (x.1.2.2.2.2.1 < x.1.2.2.2.1);
 br x1
 (ck (0 ≤ x.1.2.2.2.2.1)
 (ck (x.1.2.2.2.2.1.toNat < x.1.2.2.1.length)
 (let x2 : Int := x.1.2.2.1.getD x.1.2.2.2.2.1.toNat 0;
 (impl_part x.1.2.1 x2).bind fun r3 =>
 br r3.1.1
 (some (.inr (.inl ((x.1.2.2.2.2.1, ()), (), ()))))
 (let x4 : Int := w64 (x.1.2.2.2.2.1 + (1 : Int));
 some (.inl ((x.1.1, x.1.2.1, x.1.2.2.1, x.1.2.2.2.1, x4, ()), (), ()))))))
 (some (.inr (.inr ((x.1.1, ()), (), ()))))
def impl_fall_h0 : Sh := ⟨[(0, .c (.rd [] .i64)), (1, .c (.int .i64)), (7, .c (.rd [] .i64)), (8, .c (.int .i64)), (9, .c (.int .i64))], [], []⟩
def impl_fall_r0 : List Sh := [⟨[(4, .c (.int .i64))], [], []⟩, ⟨[(0, .c (.rd [] .i64))], [], []⟩]
noncomputable def impl_fall_L0 : Lp := ⟨0, [], impl_fall_h0, [], [(.ret, []), (.exit 0, [])], impl_fall_r0, loopC impl_fall_s0⟩
noncomputable def impl_fall (a0 : List Int) (a1 : Int) : Option ((Int × Unit) × Unit × Unit) :=
 (loopC impl_fall_s0 ((a0, a1, a0, (a0.length : Int), (0 : Int), ()), (), ())).bind fun r5 =>
 sumK r5 (fun y8 =>
 some ((y8.1.1, ()), (), ())) (fun y9 =>
 some (((y9.1.1.length : Int), ()), (), ()))
noncomputable def impl_fall_C : Ctr := ⟨128, impl_fall_arg, impl_fall_res, fun x => impl_fall x.1.1 x.1.2.1, none⟩
def impl_fall_H : Hint := ⟨[], [], [], fun _ => []⟩
noncomputable def impl_fall_T : List Ctr := [impl_part_C]
noncomputable def impl_fall_Ls : List Lp := [impl_fall_L0]
theorem impl_fall_l0 : ∀ x, impl_fall_s0 x = stepW E0 impl_fall_T impl_fall_Ls impl_fall_H (loopAt (bodyOf Try.f128) 0) 0 impl_fall_h0 [] [(.ret, []), (.exit 0, [])] impl_fall_r0 x := fun x => by kernel_rfl
theorem impl_fall_e : ∀ x, impl_fall_C.F x = runBodyW E0 impl_fall_T impl_fall_Ls impl_fall_H 128 Try.f128.results.toList (bodyOf Try.f128) [] (impl_fall_arg.mk' x) impl_fall_res := fun x => by kernel_rfl
theorem impl_fall_ok : impl_fall_C.Ok E0 := fn_ok (T := impl_fall_T) (h := impl_fall_H) (Ls := impl_fall_Ls) E0_mixed (T_cons impl_part_ok T_nil) Try.func128 (bodyOf_some (by kernel_rfl)) (by kernel_rfl) (loops_of (ks := [0]) (by kernel_rfl) ⟨(loop_one (h := impl_fall_H) (own := []) (head := impl_fall_h0) (back := []) (exs := [(.ret, []), (.exit 0, [])]) (res := impl_fall_r0) (step := impl_fall_s0) (by kernel_rfl) impl_fall_l0), trivial⟩) impl_fall_e
def impl_SortsAll_arg : Sh := ⟨[(0, .c (.rd [] .i64))], [], []⟩
def impl_SortsAll_res : List Sh := [⟨[(0, .c (.bool))], [], []⟩]
noncomputable def impl_SortsAll_s0 (x : (List Int × List Int × Int × Int × Unit) × Unit × Unit) : Option (((List Int × List Int × Int × Int × Unit) × Unit × Unit) ⊕ (((Bool × Unit) × Unit × Unit) ⊕ (Unit × Unit × Unit))) :=
 let x2 : Bool := decide (x.1.2.2.2.1 < x.1.2.2.1);
 br x2
 (ck (0 ≤ x.1.2.2.2.1)
 (ck (x.1.2.2.2.1.toNat < x.1.2.1.length)
 (let x3 : Int := x.1.2.1.getD x.1.2.2.2.1.toNat 0;
 (impl_fall x.1.1 x3).bind fun r4 =>
 let x5 : Bool := r4.1.1 != x.1.2.2.2.1;
 br x5
 (some (.inr (.inl ((false, ()), (), ()))))
 (let x6 : Int := w64 (x.1.2.2.2.1 + (1 : Int));
 some (.inl ((x.1.1, x.1.2.1, x.1.2.2.1, x6, ()), (), ()))))))
 (some (.inr (.inr ((), (), ()))))
def impl_SortsAll_h0 : Sh := ⟨[(0, .c (.rd [] .i64)), (8, .c (.rd [] .i64)), (9, .c (.int .i64)), (10, .c (.int .i64))], [], []⟩
def impl_SortsAll_r0 : List Sh := [⟨[(2, .c (.bool))], [], []⟩, ⟨[], [], []⟩]
noncomputable def impl_SortsAll_L0 : Lp := ⟨0, [], impl_SortsAll_h0, [], [(.ret, []), (.exit 0, [])], impl_SortsAll_r0, loopC impl_SortsAll_s0⟩
noncomputable def impl_SortsAll (a0 : List Int) : Option ((Bool × Unit) × Unit × Unit) :=
 (impl_IsBar a0).bind fun r1 =>
 br (!r1.1.1)
 (some ((false, ()), (), ()))
 ((loopC impl_SortsAll_s0 ((a0, a0, (a0.length : Int), (0 : Int), ()), (), ())).bind fun r7 =>
 sumK r7 (fun y10 =>
 some ((y10.1.1, ()), (), ())) (fun y11 =>
 some ((true, ()), (), ())))
noncomputable def impl_SortsAll_C : Ctr := ⟨144, impl_SortsAll_arg, impl_SortsAll_res, fun x => impl_SortsAll x.1.1, none⟩
def impl_SortsAll_H : Hint := ⟨[], [], [], fun _ => []⟩
noncomputable def impl_SortsAll_T : List Ctr := [impl_IsBar_C, impl_fall_C]
noncomputable def impl_SortsAll_Ls : List Lp := [impl_SortsAll_L0]
theorem impl_SortsAll_l0 : ∀ x, impl_SortsAll_s0 x = stepW E0 impl_SortsAll_T impl_SortsAll_Ls impl_SortsAll_H (loopAt (bodyOf Try.f144) 0) 0 impl_SortsAll_h0 [] [(.ret, []), (.exit 0, [])] impl_SortsAll_r0 x := fun x => by kernel_rfl
theorem impl_SortsAll_e : ∀ x, impl_SortsAll_C.F x = runBodyW E0 impl_SortsAll_T impl_SortsAll_Ls impl_SortsAll_H 144 Try.f144.results.toList (bodyOf Try.f144) [] (impl_SortsAll_arg.mk' x) impl_SortsAll_res := fun x => by kernel_rfl
theorem impl_SortsAll_ok : impl_SortsAll_C.Ok E0 := fn_ok (T := impl_SortsAll_T) (h := impl_SortsAll_H) (Ls := impl_SortsAll_Ls) E0_mixed (T_cons impl_IsBar_ok (T_cons impl_fall_ok T_nil)) Try.func144 (bodyOf_some (by kernel_rfl)) (by kernel_rfl) (loops_of (ks := [0]) (by kernel_rfl) ⟨(loop_one (h := impl_SortsAll_H) (own := []) (head := impl_SortsAll_h0) (back := []) (exs := [(.ret, []), (.exit 0, [])]) (res := impl_SortsAll_r0) (step := impl_SortsAll_s0) (by kernel_rfl) impl_SortsAll_l0), trivial⟩) impl_SortsAll_e
def impl_FontOk_arg : Sh := ⟨[(0, .agg [.str, .rd [] .i64, .rd [] .i64])], [], []⟩
def impl_FontOk_res : List Sh := [⟨[(0, .c (.bool))], [], []⟩]
noncomputable def impl_FontOk_s0 (x : (Unit × Unit × Int × Int × Unit) × ((ByteArray × List Int × List Int × Unit) × List Bool × Unit) × Unit) : Option (((Unit × Unit × Int × Int × Unit) × ((ByteArray × List Int × List Int × Unit) × List Bool × Unit) × Unit) ⊕ (((Bool × Unit) × Unit × Unit) ⊕ ((Unit × Unit) × ((ByteArray × List Int × List Int × Unit) × Unit) × Unit))) :=
 let x5 : Bool := decide (x.1.2.2.2.1 < x.1.2.2.1);
 br x5
 (ck (0 ≤ x.1.2.2.2.1 ∧ x.1.2.2.2.1.toNat < x.2.1.1.1.size)
 (let x6 : Int := byteAt x.2.1.1.1 x.1.2.2.2.1.toNat;
 let x7 : Bool := decide (x6 < (33 : Int));
 br x7
 (some (.inr (.inl ((false, ()), (), ()))))
 (let x8 : Bool := decide (x6 > (126 : Int));
 br x8
 (some (.inr (.inl ((false, ()), (), ()))))
 (ck (0 ≤ x6)
 (ck (x6.toNat < 256)
 (ck (x6.toNat < x.2.1.2.1.length)
 (let x9 : Bool := x.2.1.2.1.getD x6.toNat false;
 br x9
 (some (.inr (.inl ((false, ()), (), ()))))
 (ck (0 ≤ x6)
 (ck (x6.toNat < 256)
 (ck (x6.toNat < x.2.1.2.1.length)
 (let x10 : List Bool := x.2.1.2.1.set x6.toNat true;
 let x11 : Int := w64 (x.1.2.2.2.1 + (1 : Int));
 some (.inl (((), (), x.1.2.2.1, x11, ()), ((x.2.1.1.1, x.2.1.1.2.1, x.2.1.1.2.2.1, ()), x10, ()), ())))))))))))))
 (some (.inr (.inr (((), ()), ((x.2.1.1.1, x.2.1.1.2.1, x.2.1.1.2.2.1, ()), ()), ()))))
def impl_FontOk_h0 : Sh := ⟨[(1, .c (.box 0 0)), (3, .c (.box 1 0)), (36, .c (.int .i64)), (37, .c (.int .i64))], [(0, .cells [.str, .rd [] .i64, .rd [] .i64]), (1, .arr)], []⟩
def impl_FontOk_r0 : List Sh := [⟨[(2, .c (.bool))], [], []⟩, ⟨[(1, .c (.box 0 0))], [(0, .cells [.str, .rd [] .i64, .rd [] .i64])], []⟩]
noncomputable def impl_FontOk_L0 : Lp := ⟨0, [], impl_FontOk_h0, [], [(.ret, []), (.exit 0, [])], impl_FontOk_r0, loopC impl_FontOk_s0⟩
noncomputable def impl_FontOk (a0_0 : ByteArray) (a0_1 : List Int) (a0_2 : List Int) : Option ((Bool × Unit) × Unit × Unit) :=
 let x1 : Bool := decide ((a0_0.size : Int) < (1 : Int));
 br x1
 (some ((false, ()), (), ()))
 (let x2 : Bool := decide ((a0_0.size : Int) > (40 : Int));
 br x2
 (some ((false, ()), (), ()))
 (let x3 : Bool := (a0_1.length : Int) != (a0_0.size : Int);
 br x3
 (some ((false, ()), (), ()))
 (let x4 : Bool := (a0_2.length : Int) != (a0_0.size : Int);
 br x4
 (some ((false, ()), (), ()))
 ((loopC impl_FontOk_s0 (((), (), (a0_0.size : Int), (0 : Int), ()), ((a0_0, a0_1, a0_2, ()), (List.replicate 256 false), ()), ())).bind fun r12 =>
 sumK r12 (fun y15 =>
 some ((y15.1.1, ()), (), ())) (fun y16 =>
 (impl_between y16.2.1.1.2.1 (1 : Int) (60 : Int)).bind fun r17 =>
 br r17.1.1
 ((impl_SortsAll y16.2.1.1.2.2.1).bind fun r18 =>
 some ((r18.1.1, ()), (), ()))
 (some ((false, ()), (), ())))))))
noncomputable def impl_FontOk_C : Ctr := ⟨114, impl_FontOk_arg, impl_FontOk_res, fun x => impl_FontOk x.1.1.1 x.1.1.2.1 x.1.1.2.2.1, none⟩
def impl_FontOk_H : Hint := ⟨[], [], [], fun _ => []⟩
noncomputable def impl_FontOk_T : List Ctr := [impl_between_C, impl_SortsAll_C]
noncomputable def impl_FontOk_Ls : List Lp := [impl_FontOk_L0]
theorem impl_FontOk_l0 : ∀ x, impl_FontOk_s0 x = stepW E0 impl_FontOk_T impl_FontOk_Ls impl_FontOk_H (loopAt (bodyOf Try.f114) 0) 0 impl_FontOk_h0 [] [(.ret, []), (.exit 0, [])] impl_FontOk_r0 x := fun x => by kernel_rfl
theorem impl_FontOk_e : ∀ x, impl_FontOk_C.F x = runBodyW E0 impl_FontOk_T impl_FontOk_Ls impl_FontOk_H 114 Try.f114.results.toList (bodyOf Try.f114) [] (impl_FontOk_arg.mk' x) impl_FontOk_res := fun x => by kernel_rfl
theorem impl_FontOk_ok : impl_FontOk_C.Ok E0 := fn_ok (T := impl_FontOk_T) (h := impl_FontOk_H) (Ls := impl_FontOk_Ls) E0_mixed (T_cons impl_between_ok (T_cons impl_SortsAll_ok T_nil)) Try.func114 (bodyOf_some (by kernel_rfl)) (by kernel_rfl) (loops_of (ks := [0]) (by kernel_rfl) ⟨(loop_one (h := impl_FontOk_H) (own := []) (head := impl_FontOk_h0) (back := []) (exs := [(.ret, []), (.exit 0, [])]) (res := impl_FontOk_r0) (step := impl_FontOk_s0) (by kernel_rfl) impl_FontOk_l0), trivial⟩) impl_FontOk_e
def Repeat_Matrix_arg : Sh := ⟨[(0, .c (.rd [] .mat)), (1, .c (.int .i64))], [], []⟩
def Repeat_Matrix_res : List Sh := [⟨[(0, .c (.own 0))], [], [(0, .mat)]⟩]
def Repeat_Matrix (l : List (Int × Int)) (n : Int) : Option ((Unit × Unit) × Unit × (List (Int × Int) × Unit)) := repMF l n
noncomputable def Repeat_Matrix_C : Ctr := ⟨123, Repeat_Matrix_arg, Repeat_Matrix_res, fun x => Repeat_Matrix x.1.1 x.1.2.1, some 2⟩
end Go.Tree
namespace Go.Proofs
section
open Go Go.Shelf Go.RowKit Go.Lib Go.Tree Go.Sort
def Repeat_Matrix_ren : Go.Shelf.Ren := ⟨fun | 212 => 146 | 263 => 156 | 264 => 157 | n => n, fun | 46 => 143 | 51 => 152 | 53 => 155 | 146 => 153 | 148 => 156 | n => n, fun n => n⟩
theorem Repeat_Matrix_lays : Lays.n212 Try.prog Repeat_Matrix_ren := {
  mixed := by kernel_rfl
  f212 := Try.func146.trans (congrArg some (by kernel_rfl))
  f263 := Try.func156.trans (congrArg some (by kernel_rfl))
  f264 := Try.func157.trans (congrArg some (by kernel_rfl))
  t46 := Try.underlying143
  a46 := Try.isAgg143
  z46 := Try.sizeOf143
  v46 := Try.zeroValue143
  t51 := Try.underlying152
  a51 := Try.isAgg152
  z51 := Try.sizeOf152
  v51 := Try.zeroValue152
  t53 := Try.underlying155
  a53 := Try.isAgg155
  z53 := Try.sizeOf155
  v53 := Try.zeroValue155
  t146 := Try.underlying153
  a146 := Try.isAgg153
  z146 := Try.sizeOf153
  v146 := Try.zeroValue153
  t148 := Try.underlying156
  a148 := Try.isAgg156
  z148 := Try.sizeOf156
  v148 := Try.zeroValue156
}

set_option maxHeartbeats 1600000 in
set_option maxRecDepth 1000000 in
theorem Repeat_Matrix_walk (w : World) (a : Addr) (l c n : Nat) (cs : List Value) (hl : cs.length = l * 2) (hb : l * n ≤ 1000000) (hl1 : 1 ≤ l) (hn0 : n ≤ 1000000) (hl0 : l ≤ 1000000)
    (hcs : ∀ j v, cs[j]? = some v → w.cell? (a.add j) = some v) (h1 : ∀ v ∈ cs, v.oneCell' = true)
    (hn1 : ¬ ((n : Int) < 0)) (hw1 : IntKind.u64.wrap (l : Int) = l) (hw2 : IntKind.u64.wrap (n : Int) = n) :
    Calls Try.prog 123 #[.slice (some a) l c, .int .i64 n] w fun e w' => e = .returned (.slice (some ⟨w.heap.size, 0, none⟩) (l * n) (l * n)) ∧ Below w.heap.size w w' ∧
      w'.heap[w.heap.size]? = some (.cells (List.replicate n cs).flatten.toArray 84 (0, 0)) := by
  have hMul := Any.bits_Mul Repeat_Matrix_lays l n (by omega) (by omega) w
  rw [Nat.div_eq_of_lt (by omega : l * n < 18446744073709551616), Nat.mod_eq_of_lt (by omega : l * n < 18446744073709551616)] at hMul
  replace hMul : Calls Try.prog 146 #[.int .u64 l, .int .u64 n] w fun e w' => e = .returned (.tuple #[.int .u64 0, .int .u64 ((l * n : Nat) : Int)]) ∧ w' = w := by rw [show Repeat_Matrix_ren.f 212 = (146 : FuncId) from rfl] at hMul; simpa using hMul
  obtain ⟨m, hm⟩ : ∃ m, l * n = m := ⟨_, rfl⟩
  rw [hm] at hMul hb ⊢
  have HM : Aside (l * n = m) := hm
  clear hm
  have mixed : Try.prog.follows .mixedOrders = true := by kernel_rfl
  have t3 := Try.underlying3; have a3 := Try.isAgg3; have z3 := Try.sizeOf3; have v3 := Try.zeroValue3
  have t4 := Try.underlying4; have a4 := Try.isAgg4; have z4 := Try.sizeOf4; have v4 := Try.zeroValue4
  have t36 := Try.underlying36; have a36 := Try.isAgg36; have z36 := Try.sizeOf36; have v36 := Try.zeroValue36
  have t143 := Try.underlying143; have a143 := Try.isAgg143; have z143 := Try.sizeOf143; have v143 := Try.zeroValue143
  have t144 := Try.underlying144; have a144 := Try.isAgg144; have z144 := Try.sizeOf144; have v144 := Try.zeroValue144
  have e146 : ∀ args w, (callFunc 146 args).run Try.prog w = .ok (.enter 146 args) w := enters_of Try.func146 (by kernel_rfl) rfl
  have hI : (Try.prog.info? 84).map (fun i => (i.zero, i.size, i.bytes)) = some (some (.agg #[.int .i64 0, .int .i64 0]), 2, 16) := by kernel_rfl
  obtain ⟨i0, hi0, hI⟩ := Option.map_eq_some_iff.1 hI
  simp only [Prod.mk.injEq] at hI
  obtain ⟨hz0, hzs, hzb⟩ := hI
  have hmk : ∀ W, (Instr.makeSlice 36 (.int .i64 (m : Int)) (.int .i64 (m : Int))).run Try.prog W = .ok (.slice (some ⟨W.heap.size, 0, none⟩) m m) (W.alloc (.cells (madeCells (Value.agg #[.int .i64 0, .int .i64 0]).cells (m * 2)) 84)) := fun W => by
    have h := run_make (P := Try.prog) W 36 84 i0 _ t36 hi0 hz0 .i64 .i64 m m (by omega) (Int.le_refl _) (by rw [hzb]; omega) (by omega)
    rw [hzs] at h
    simpa using h
  have hci : (Try.prog.info? 84).map (·.size) = some 2 := by rw [hi0]; simp [hzs]
  have hcp : ∀ ty, (Builtin.copy_ #[36, 36] ty #[.slice (some ⟨w.heap.size, 0, none⟩) m m, .slice (some a) l c]).run Try.prog (w.alloc (.cells (madeCells #[.int .i64 0, .int .i64 0] (m * 2)) 84)) =
      .ok (goInt (Nat.min l m)) ((w.alloc (.cells (madeCells #[.int .i64 0, .int .i64 0] (m * 2)) 84)).setRow w.heap.size ((madeCells #[.int .i64 0, .int .i64 0] (m * 2)).toList.take 0 ++ cs.take (Nat.min l m * 2) ++ (madeCells #[.int .i64 0, .int .i64 0] (m * 2)).toList.drop (0 + (cs.take (Nat.min l m * 2)).length)).toArray) := fun ty => by
    have hmin : Nat.min l m * 2 ≤ cs.length := by rw [hl]; exact Nat.mul_le_mul_right _ (Nat.min_le_left _ _)
    have hlen : (cs.take (Nat.min l m * 2)).length = Nat.min l m * 2 := by rw [List.length_take]; exact Nat.min_eq_left hmin
    have hmz : (madeCells #[.int .i64 0, .int .i64 0] (m * 2)).size = m * 2 := size_madeCells _ _
    refine Go.Tree.run_copy_wide _ 36 36 ty 84 w.heap.size 0 m m a l c 2 _ 84 (cs.take (Nat.min l m * 2)) t36 hci (heap_alloc_new w _) hlen ?_ ?_ (fun v hv => h1 v (List.mem_of_mem_take hv))
    · intro j v hj
      rw [List.getElem?_take] at hj
      split at hj
      · have hA := hcs j v hj
        rw [World.cell?_alloc_some _ _ _ (by rw [hA]; rfl)]; exact hA
      · cases hj
    · rw [hlen, hmz, Nat.zero_add]; exact Nat.mul_le_mul_right _ (Nat.min_le_right _ _)
  go_enter Try.func123, Try.ntmps123
  go_wp2_with (go_at_fn 146; refine hMul.mono ?_; rintro e w' ⟨rfl, hw⟩; rw [hw])
  go_loopg [8] n (fun g s8 wx => ∃ q : Nat, n ≤ q + g ∧ q ≤ n ∧ (1 ≤ q ∨ n = 0) ∧ s8 = .int .i64 ((q * l : Nat) : Int) ∧ Below w.heap.size w wx ∧
      wx.heap[w.heap.size]? = some (.cells ((List.replicate q cs).flatten ++ (madeCells #[.int .i64 0, .int .i64 0] (m * 2)).toList.drop (q * l * 2)).toArray 84 (0, 0)))
  case atStart =>
    have hb0 : Below w.heap.size w (w.alloc (.cells (madeCells #[.int .i64 0, .int .i64 0] (m * 2)) 84)) := (Below.refl _ w).alloc (Nat.le_refl _) _
    rcases Nat.eq_zero_or_pos n with h | h
    · subst h
      obtain rfl : m = 0 := by have := HM.out; simpa using this.symm
      refine ⟨0, by omega, by omega, Or.inr rfl, by simp, below_setRow hb0 (Nat.le_refl _) _, ?_⟩
      rw [setRow_heap _ _ _ _ 84 _ (heap_alloc_new w _)]
      simp
    · have hlm : l ≤ m := by rw [← HM.out]; exact Nat.le_mul_of_pos_right _ h
      have e : Nat.min l m = l := Nat.min_eq_left hlm
      have e' : min l m = l := Nat.min_eq_left hlm
      refine ⟨1, by omega, h, Or.inl (Nat.le_refl _), by rw [e, Nat.one_mul], below_setRow hb0 (Nat.le_refl _) _, ?_⟩
      rw [setRow_heap _ _ _ _ 84 _ (heap_alloc_new w _), e, e', List.take_of_length_le (by omega)]
      simp
  case round =>
    obtain ⟨q, hqg, hqn, hq1, rfl, hbx, hrow⟩ := hrel
    obtain ⟨Q, hQ⟩ : ∃ Q, q * l = Q := ⟨_, rfl⟩
    rw [hQ] at hrow ⊢
    rcases Nat.lt_or_ge q n with h | h
    · have hQlt : (Q : Int) < (m : Int) := by
        have h2 : (q + 1) * l ≤ n * l := Nat.mul_le_mul_right _ h
        have := HM.out
        rw [Nat.mul_comm n l, this, Nat.succ_mul, hQ] at h2
        omega
      have hQle : Q ≤ m := by omega
      have hQle' : (Q : Int) ≤ (m : Int) := by omega
      have hQne : ¬ m = Q := by omega
      have z84 := Try.sizeOf84
      go_wp2
      obtain ⟨R, hR⟩ : ∃ R, (List.replicate q cs).flatten ++ (madeCells #[.int .i64 0, .int .i64 0] (m * 2)).toList.drop (Q * 2) = R := ⟨_, rfl⟩
      rw [hR] at hrow
      have hRl : R.length = m * 2 := by
        rw [← hR, List.length_append, rep_len, hl, List.length_drop, Array.length_toList, size_madeCells, ← Nat.mul_assoc, hQ]
        omega
      have hRc : ∀ v ∈ R, v.oneCell' = true := fun v hv => by
        rw [← hR] at hv
        rcases List.mem_append.1 hv with hv | hv
        · obtain ⟨c, hc, hv⟩ := List.mem_flatten.1 hv
          rw [List.eq_of_mem_replicate hc] at hv
          exact h1 v hv
        · rw [mem_made (List.mem_of_mem_drop hv)]; rfl
      have hnw : (R.take (Nat.min Q (m - Q) * 2)).length = Nat.min Q (m - Q) * 2 := by
        rw [List.length_take, hRl]; exact Nat.min_eq_left (Nat.mul_le_mul_right _ (Nat.le_trans (Nat.min_le_left _ _) hQle))
      have hsrc : ∀ (W : World), W.heap = wr.heap → ∀ j v, (R.take (Nat.min Q (m - Q) * 2))[j]? = some v → W.cell? ((⟨w.heap.size, 0, none⟩ : Addr).add j) = some v := fun W hW j v hj => by
        rw [List.getElem?_take] at hj
        split at hj
        · have e : (⟨w.heap.size, 0, none⟩ : Addr).add j = ⟨w.heap.size, j, none⟩ := by
            unfold Addr.add
            split
            · rename_i h0; rw [h0]
            · rw [Nat.zero_add]
          rw [e]
          simp [World.cell?, hW, hrow, hj]
        · cases hj
      have hfit : Q * 2 + (R.take (Nat.min Q (m - Q) * 2)).length ≤ R.toArray.size := by
        have h2 := Nat.min_le_right Q (m - Q)
        have h3 : Nat.min Q (m - Q) * 2 ≤ (m - Q) * 2 := Nat.mul_le_mul_right _ h2
        rw [hnw, List.size_toArray, hRl]
        omega
      have S1 := Lib.hid hsrc
      have S2 := Lib.hid hfit
      have S3 := Lib.hid hRc
      have S4 := Lib.hid hnw
      have S5 := Lib.hid hrow
      have S6 := Lib.hid hR
      clear hsrc hfit hRc hnw hrow hR hcs h1 hcp
      go_region_law (refine Go.Tree.step_copy_wide rfl (.tmp 41) (.tmp 44) 36 36 rfl 84 2 t36 hci w.heap.size (Q * 2) (m - Q) (m - Q) Q m ⟨w.heap.size, 0, none⟩ (by simp [Act.eval, Act.put]) (by simp [Act.eval, Act.put]) R.toArray 84 S5.out (R.take (Nat.min Q (m - Q) * 2)) S4.out (S1.out _ rfl) S2.out (fun v hv => S3.out v (List.mem_of_mem_take hv)) ?_)
      go_wp2
      have hl1' : 1 ≤ q := by omega
      have hmin : 1 ≤ min q (n - q) := by omega
      go_roundg (n - (q + min q (n - q)))
      case measure => omega
      case rel =>
        have e1 : min Q (m - Q) = min q (n - q) * l := by
          rw [← hQ, ← HM.out, Nat.mul_comm l n, ← Nat.sub_mul]
          rcases Nat.le_total q (n - q) with h' | h'
          · rw [Nat.min_eq_left h', Nat.min_eq_left (Nat.mul_le_mul_right _ h')]
          · rw [Nat.min_eq_right h', Nat.min_eq_right (Nat.mul_le_mul_right _ h')]
        have e1' : Nat.min Q (m - Q) = min q (n - q) * l := e1
        refine ⟨q + min q (n - q), by omega, by omega, Or.inl (by omega), ?_, below_setRow (show Below w.heap.size w wr.drew from ⟨hbx.os, hbx.tape, hbx.output, hbx.size, hbx.block⟩) (Nat.le_refl _) _, ?_⟩
        · rw [e1', Nat.add_mul, hQ]
          have hle : min q (n - q) * l ≤ m - Q := by rw [← e1]; exact Nat.min_le_right _ _
          rw [← Int.natCast_add, wrap_i64N _ (by omega)]
        · rw [setRow_heap _ _ _ _ 84 _ (show wr.drew.heap[w.heap.size]? = _ from S5.out)]
          have := rep_step cs (madeCells #[.int .i64 0, .int .i64 0] (m * 2)).toList l q n m hl HM.out
          rw [hQ, S6.out] at this
          have e2 : Nat.min Q (m - Q) = min Q (m - Q) := rfl
          rw [e2, ← List.append_assoc, this]
    · obtain rfl : q = n := by omega
      have hQm : Q = m := by rw [← hQ, ← HM.out, Nat.mul_comm]
      have hQn : ¬ ((Q : Int) < (m : Int)) := by omega
      go_wp2
      go_ret
      refine ⟨rfl, hbx, ?_⟩
      rw [hrow, List.drop_of_length_le (by simp [size_madeCells, hQm])]
      simp
end
end Go.Proofs
namespace Go.Tree
open Go Go.Proofs
set_option linter.unusedVariables false
set_option maxRecDepth 100000
theorem Repeat_Matrix_ok : Repeat_Matrix_C.Ok E0 := repM_ok (E := E0) (by kernel_rfl) (by kernel_rfl) 84 (fun w a l c n cs hl hl1 hl0 hn0 hcs h1 => Go.Proofs.Repeat_Matrix_walk w a l c n cs hl (Nat.mul_le_mul hl0 hn0) hl1 (by omega) (by omega) hcs h1 (by omega) (wrap_u64N _ (by omega)) (wrap_u64N _ (by omega)))
def impl_FillMagazine_arg : Sh := ⟨[(0, .agg [.str, .rd [] .i64, .rd [] .i64]), (1, .c (.int .i64))], [], []⟩
def impl_FillMagazine_res : List Sh := [⟨[(0, .c (.own 0)), (1, .c (.bool))], [], [(0, .mats)]⟩]
noncomputable def impl_FillMagazine_s0 (x : (Int × Unit × List Int × Int × Int × Unit) × Unit × (List (List (Int × Int)) × Unit)) : Option (((Int × Unit × List Int × Int × Int × Unit) × Unit × (List (List (Int × Int)) × Unit)) ⊕ ((Unit × Unit) × Unit × (List (List (Int × Int)) × Unit))) :=
 let x4 : Bool := decide (x.1.2.2.2.2.1 < x.1.2.2.2.1);
 br x4
 (ck (0 ≤ x.1.2.2.2.2.1)
 (ck (x.1.2.2.2.2.1.toNat < x.1.2.2.1.length)
 (let x5 : Int := x.1.2.2.1.getD x.1.2.2.2.2.1.toNat 0;
 (Repeat_Matrix [(x.1.2.2.2.2.1, x5)] x.1.1).bind fun r6 =>
 ck ((x.2.2.1.length + 1) * 24 ≤ 140737488355328 ∧ (x.2.2.1.length + 1) ≤ 9223372036854775807)
 (let x7 : List (List (Int × Int)) := x.2.2.1 ++ [r6.2.2.1];
 let x8 : Int := w64 (x.1.2.2.2.2.1 + (1 : Int));
 some (.inl ((x.1.1, (), x.1.2.2.1, x.1.2.2.2.1, x8, ()), (), (x7, ())))))))
 (some (.inr (((), ()), (), (x.2.2.1, ()))))
def impl_FillMagazine_h0 : Sh := ⟨[(1, .c (.int .i64)), (6, .c (.own 0)), (22, .c (.rd [] .i64)), (23, .c (.int .i64)), (24, .c (.int .i64))], [], [(0, .mats)]⟩
def impl_FillMagazine_r0 : List Sh := [⟨[(6, .c (.own 0))], [], [(0, .mats)]⟩]
noncomputable def impl_FillMagazine_L0 : Lp := ⟨0, [], impl_FillMagazine_h0, [], [(.exit 0, [])], impl_FillMagazine_r0, loopC impl_FillMagazine_s0⟩
noncomputable def impl_FillMagazine (a0_0 : ByteArray) (a0_1 : List Int) (a0_2 : List Int) (a1 : Int) : Option ((Unit × Bool × Unit) × Unit × (List (List (Int × Int)) × Unit)) :=
 (impl_FontOk a0_0 a0_1 a0_2).bind fun r1 =>
 br (!r1.1.1)
 (some (((), false, ()), (), ([], ())))
 (let x2 : Bool := decide (a1 < (0 : Int));
 br x2
 (some (((), false, ()), (), ([], ())))
 (let x3 : Bool := decide (a1 > (20 : Int));
 br x3
 (some (((), false, ()), (), ([], ())))
 ((loopC impl_FillMagazine_s0 ((a1, (), a0_2, (a0_2.length : Int), (0 : Int), ()), (), ([], ()))).bind fun r9 =>
 some (((), true, ()), (), (r9.2.2.1, ())))))
noncomputable def impl_FillMagazine_C : Ctr := ⟨86, impl_FillMagazine_arg, impl_FillMagazine_res, fun x => impl_FillMagazine x.1.1.1 x.1.1.2.1 x.1.1.2.2.1 x.1.2.1, none⟩
def impl_FillMagazine_H : Hint := ⟨[], [], [], fun _ => []⟩
noncomputable def impl_FillMagazine_T : List Ctr := [impl_FontOk_C, Repeat_Matrix_C]
noncomputable def impl_FillMagazine_Ls : List Lp := [impl_FillMagazine_L0]
theorem impl_FillMagazine_l0 : ∀ x, impl_FillMagazine_s0 x = stepW E0 impl_FillMagazine_T impl_FillMagazine_Ls impl_FillMagazine_H (loopAt (bodyOf Try.f86) 0) 0 impl_FillMagazine_h0 [] [(.exit 0, [])] impl_FillMagazine_r0 x := fun x => by kernel_rfl
theorem impl_FillMagazine_e : ∀ x, impl_FillMagazine_C.F x = runBodyW E0 impl_FillMagazine_T impl_FillMagazine_Ls impl_FillMagazine_H 86 Try.f86.results.toList (bodyOf Try.f86) [(.tm 4, 6000000, .mats)] (impl_FillMagazine_arg.mk' x) impl_FillMagazine_res := fun x => by kernel_rfl
theorem impl_FillMagazine_ok : impl_FillMagazine_C.Ok E0 := fn_ok (T := impl_FillMagazine_T) (h := impl_FillMagazine_H) (Ls := impl_FillMagazine_Ls) E0_mixed (T_cons impl_FontOk_ok (T_cons Repeat_Matrix_ok T_nil)) Try.func86 (bodyOf_some (by kernel_rfl)) (by kernel_rfl) (loops_of (ks := [0]) (by kernel_rfl) ⟨(loop_one (h := impl_FillMagazine_H) (own := []) (head := impl_FillMagazine_h0) (back := []) (exs := [(.exit 0, [])]) (res := impl_FillMagazine_r0) (step := impl_FillMagazine_s0) (by kernel_rfl) impl_FillMagazine_l0), trivial⟩) impl_FillMagazine_e
def impl_ofFont_arg : Sh := ⟨[(0, .agg [.str, .rd [] .i64, .rd [] .i64]), (1, .agg [.int .i64, .int .i64])], [], []⟩
def impl_ofFont_res : List Sh := [⟨[(0, .c (.bool))], [], []⟩]
noncomputable def impl_ofFont (a0_0 : ByteArray) (a0_1 : List Int) (a0_2 : List Int) (a1_0 : Int) (a1_1 : Int) : Option ((Bool × Unit) × Unit × Unit) :=
 let x1 : Bool := decide (a1_0 ≥ (0 : Int));
 br x1
 (let x2 : Bool := decide (a1_0 < (a0_0.size : Int));
 br x2
 ((impl_isSet a1_1).bind fun r3 =>
 br r3.1.1
 (ck (0 ≤ a1_0)
 (ck (a1_0.toNat < a0_2.length)
 (let x4 : Int := a0_2.getD a1_0.toNat 0;
 (impl_part a1_1 x4).bind fun r5 =>
 some ((r5.1.1, ()), (), ()))))
 (some ((false, ()), (), ())))
 (some ((false, ()), (), ())))
 (some ((false, ()), (), ()))
noncomputable def impl_ofFont_C : Ctr := ⟨70, impl_ofFont_arg, impl_ofFont_res, fun x => impl_ofFont x.1.1.1 x.1.1.2.1 x.1.1.2.2.1 x.1.2.1.1 x.1.2.1.2.1, none⟩
def impl_ofFont_H : Hint := ⟨[], [], [], fun _ => []⟩
noncomputable def impl_ofFont_T : List Ctr := [impl_isSet_C, impl_part_C]
noncomputable def impl_ofFont_Ls : List Lp := []
theorem impl_ofFont_e : ∀ x, impl_ofFont_C.F x = runBodyW E0 impl_ofFont_T impl_ofFont_Ls impl_ofFont_H 70 Try.f70.results.toList (bodyOf Try.f70) [] (impl_ofFont_arg.mk' x) impl_ofFont_res := fun x => by kernel_rfl
theorem impl_ofFont_ok : impl_ofFont_C.Ok E0 := fn_ok (T := impl_ofFont_T) (h := impl_ofFont_H) (Ls := impl_ofFont_Ls) E0_mixed (T_cons impl_isSet_ok (T_cons impl_part_ok T_nil)) Try.func70 (bodyOf_some (by kernel_rfl)) (by kernel_rfl) (loops_of (ks := []) (by kernel_rfl) trivial) impl_ofFont_e
def impl_allOf_1_arg : Sh := ⟨[(0, .agg [.int .i64, .int .i64]), (1, .c (.rad [] [.str, .s .i64, .s .i64]))], [], []⟩
def impl_allOf_1_res : List Sh := [⟨[(0, .c (.bool))], [], []⟩]
noncomputable def impl_allOf_1 (a0_0 : Int) (a0_1 : Int) (a1_0 : ByteArray) (a1_1 : List Int) (a1_2 : List Int) : Option ((Bool × Unit) × Unit × Unit) :=
 (impl_ofFont a1_0 a1_1 a1_2 a0_0 a0_1).bind fun r1 =>
 some ((!r1.1.1, ()), (), ())
noncomputable def impl_allOf_1_C : Ctr := ⟨115, impl_allOf_1_arg, impl_allOf_1_res, fun x => impl_allOf_1 x.1.1.1 x.1.1.2.1 x.1.2.1.1 x.1.2.1.2.1 x.1.2.1.2.2.1, none⟩
def impl_allOf_1_H : Hint := ⟨[], [], [], fun _ => []⟩
noncomputable def impl_allOf_1_T : List Ctr := [impl_ofFont_C]
noncomputable def impl_allOf_1_Ls : List Lp := []
theorem impl_allOf_1_e : ∀ x, impl_allOf_1_C.F x = runBodyW E0 impl_allOf_1_T impl_allOf_1_Ls impl_allOf_1_H 115 Try.f115.results.toList (bodyOf Try.f115) [] (impl_allOf_1_arg.mk' x) impl_allOf_1_res := fun x => by kernel_rfl
theorem impl_allOf_1_ok : impl_allOf_1_C.Ok E0 := fn_ok (T := impl_allOf_1_T) (h := impl_allOf_1_H) (Ls := impl_allOf_1_Ls) E0_mixed (T_cons impl_ofFont_ok T_nil) Try.func115 (bodyOf_some (by kernel_rfl)) (by kernel_rfl) (loops_of (ks := []) (by kernel_rfl) trivial) impl_allOf_1_e
def IndexFunc_Matrix_impl_allOf_1_arg : Sh := ⟨[(0, .c (.rd [] .mat)), (1, .c (.fnr 115 [[.str, .s .i64, .s .i64]]))], [], []⟩
def IndexFunc_Matrix_impl_allOf_1_res : List Sh := [⟨[(0, .c (.int .i64))], [], []⟩]
noncomputable def IndexFunc_Matrix_impl_allOf_1_s0 (x : (List (Int × Int) × ((ByteArray × List Int × List Int × Unit) × Unit) × Int × Int × Unit) × Unit × Unit) : Option (((List (Int × Int) × ((ByteArray × List Int × List Int × Unit) × Unit) × Int × Int × Unit) × Unit × Unit) ⊕ (((Int × Unit) × Unit × Unit) ⊕ (Unit × Unit × Unit))) :=
 let x1 : Bool := decide (x.1.2.2.2.1 < x.1.2.2.1);
 br x1
 (ck (0 ≤ x.1.2.2.2.1)
 (ck (x.1.2.2.2.1.toNat < x.1.1.length)
 (let x2 : Int × Int := x.1.1.getD x.1.2.2.2.1.toNat (0, 0);
 (impl_allOf_1 x2.1 x2.2 x.1.2.1.1.1 x.1.2.1.1.2.1 x.1.2.1.1.2.2.1).bind fun r3 =>
 br r3.1.1
 (some (.inr (.inl ((x.1.2.2.2.1, ()), (), ()))))
 (let x4 : Int := w64 (x.1.2.2.2.1 + (1 : Int));
 some (.inl ((x.1.1, ((x.1.2.1.1.1, x.1.2.1.1.2.1, x.1.2.1.1.2.2.1, ()), ()), x.1.2.2.1, x4, ()), (), ()))))))
 (some (.inr (.inr ((), (), ()))))
def IndexFunc_Matrix_impl_allOf_1_h0 : Sh := ⟨[(0, .c (.rd [] .mat)), (1, .c (.fnr 115 [[.str, .s .i64, .s .i64]])), (7, .c (.int .i64)), (8, .c (.int .i64))], [], []⟩
def IndexFunc_Matrix_impl_allOf_1_r0 : List Sh := [⟨[(4, .c (.int .i64))], [], []⟩, ⟨[], [], []⟩]
noncomputable def IndexFunc_Matrix_impl_allOf_1_L0 : Lp := ⟨0, [], IndexFunc_Matrix_impl_allOf_1_h0, [], [(.ret, []), (.exit 0, [])], IndexFunc_Matrix_impl_allOf_1_r0, loopC IndexFunc_Matrix_impl_allOf_1_s0⟩
noncomputable def IndexFunc_Matrix_impl_allOf_1 (a0 : List (Int × Int)) (a1_0_0 : ByteArray) (a1_0_1 : List Int) (a1_0_2 : List Int) : Option ((Int × Unit) × Unit × Unit) :=
 (loopC IndexFunc_Matrix_impl_allOf_1_s0 ((a0, ((a1_0_0, a1_0_1, a1_0_2, ()), ()), (a0.length : Int), (0 : Int), ()), (), ())).bind fun r5 =>
 sumK r5 (fun y8 =>
 some ((y8.1.1, ()), (), ())) (fun y9 =>
 some (((-1 : Int), ()), (), ()))
noncomputable def IndexFunc_Matrix_impl_allOf_1_C : Ctr := ⟨116, IndexFunc_Matrix_impl_allOf_1_arg, IndexFunc_Matrix_impl_allOf_1_res, fun x => IndexFunc_Matrix_impl_allOf_1 x.1.1 x.1.2.1.1.1 x.1.2.1.1.2.1 x.1.2.1.1.2.2.1, none⟩
def IndexFunc_Matrix_impl_allOf_1_H : Hint := ⟨[], [], [], fun _ => []⟩
noncomputable def IndexFunc_Matrix_impl_allOf_1_T : List Ctr := [impl_allOf_1_C]
noncomputable def IndexFunc_Matrix_impl_allOf_1_Ls : List Lp := [IndexFunc_Matrix_impl_allOf_1_L0]
theorem IndexFunc_Matrix_impl_allOf_1_l0 : ∀ x, IndexFunc_Matrix_impl_allOf_1_s0 x = stepW E0 IndexFunc_Matrix_impl_allOf_1_T IndexFunc_Matrix_impl_allOf_1_Ls IndexFunc_Matrix_impl_allOf_1_H (loopAt (bodyOf Try.f116) 0) 0 IndexFunc_Matrix_impl_allOf_1_h0 [] [(.ret, []), (.exit 0, [])] IndexFunc_Matrix_impl_allOf_1_r0 x := fun x => by kernel_rfl
theorem IndexFunc_Matrix_impl_allOf_1_e : ∀ x, IndexFunc_Matrix_impl_allOf_1_C.F x = runBodyW E0 IndexFunc_Matrix_impl_allOf_1_T IndexFunc_Matrix_impl_allOf_1_Ls IndexFunc_Matrix_impl_allOf_1_H 116 Try.f116.results.toList (bodyOf Try.f116) [] (IndexFunc_Matrix_impl_allOf_1_arg.mk' x) IndexFunc_Matrix_impl_allOf_1_res := fun x => by kernel_rfl
theorem IndexFunc_Matrix_impl_allOf_1_ok : IndexFunc_Matrix_impl_allOf_1_C.Ok E0 := fn_ok (T := IndexFunc_Matrix_impl_allOf_1_T) (h := IndexFunc_Matrix_impl_allOf_1_H) (Ls := IndexFunc_Matrix_impl_allOf_1_Ls) E0_mixed (T_cons impl_allOf_1_ok T_nil) Try.func116 (bodyOf_some (by kernel_rfl)) (by kernel_rfl) (loops_of (ks := [0]) (by kernel_rfl) ⟨(loop_one (h := IndexFunc_Matrix_impl_allOf_1_H) (own := []) (head := IndexFunc_Matrix_impl_allOf_1_h0) (back := []) (exs := [(.ret, []), (.exit 0, [])]) (res := IndexFunc_Matrix_impl_allOf_1_r0) (step := IndexFunc_Matrix_impl_allOf_1_s0) (by kernel_rfl) IndexFunc_Matrix_impl_allOf_1_l0), trivial⟩) IndexFunc_Matrix_impl_allOf_1_e
def ContainsFunc_Matrix_impl_allOf_1_arg : Sh := ⟨[(0, .c (.rd [] .mat)), (1, .c (.fnr 115 [[.str, .s .i64, .s .i64]]))], [], []⟩
def ContainsFunc_Matrix_impl_allOf_1_res : List Sh := [⟨[(0, .c (.bool))], [], []⟩]
noncomputable def ContainsFunc_Matrix_impl_allOf_1 (a0 : List (Int × Int)) (a1_0_0 : ByteArray) (a1_0_1 : List Int) (a1_0_2 : List Int) : Option ((Bool × Unit) × Unit × Unit) :=
 (IndexFunc_Matrix_impl_allOf_1 a0 a1_0_0 a1_0_1 a1_0_2).bind fun r1 =>
 let x2 : Bool := decide (r1.1.1 ≥ (0 : Int));
 some ((x2, ()), (), ())
noncomputable def ContainsFunc_Matrix_impl_allOf_1_C : Ctr := ⟨67, ContainsFunc_Matrix_impl_allOf_1_arg, ContainsFunc_Matrix_impl_allOf_1_res, fun x => ContainsFunc_Matrix_impl_allOf_1 x.1.1 x.1.2.1.1.1 x.1.2.1.1.2.1 x.1.2.1.1.2.2.1, none⟩
def ContainsFunc_Matrix_impl_allOf_1_H : Hint := ⟨[], [], [], fun _ => []⟩
noncomputable def ContainsFunc_Matrix_impl_allOf_1_T : List Ctr := [IndexFunc_Matrix_impl_allOf_1_C]
noncomputable def ContainsFunc_Matrix_impl_allOf_1_Ls : List Lp := []
theorem ContainsFunc_Matrix_impl_allOf_1_e : ∀ x, ContainsFunc_Matrix_impl_allOf_1_C.F x = runBodyW E0 ContainsFunc_Matrix_impl_allOf_1_T ContainsFunc_Matrix_impl_allOf_1_Ls ContainsFunc_Matrix_impl_allOf_1_H 67 Try.f67.results.toList (bodyOf Try.f67) [] (ContainsFunc_Matrix_impl_allOf_1_arg.mk' x) ContainsFunc_Matrix_impl_allOf_1_res := fun x => by kernel_rfl
theorem ContainsFunc_Matrix_impl_allOf_1_ok : ContainsFunc_Matrix_impl_allOf_1_C.Ok E0 := fn_ok (T := ContainsFunc_Matrix_impl_allOf_1_T) (h := ContainsFunc_Matrix_impl_allOf_1_H) (Ls := ContainsFunc_Matrix_impl_allOf_1_Ls) E0_mixed (T_cons IndexFunc_Matrix_impl_allOf_1_ok T_nil) Try.func67 (bodyOf_some (by kernel_rfl)) (by kernel_rfl) (loops_of (ks := []) (by kernel_rfl) trivial) ContainsFunc_Matrix_impl_allOf_1_e
def impl_allOf_arg : Sh := ⟨[(0, .agg [.str, .rd [] .i64, .rd [] .i64]), (1, .c (.rd [] .mat))], [], []⟩
def impl_allOf_res : List Sh := [⟨[(0, .c (.bool))], [], []⟩]
noncomputable def impl_allOf (a0_0 : ByteArray) (a0_1 : List Int) (a0_2 : List Int) (a1 : List (Int × Int)) : Option ((Bool × Unit) × Unit × Unit) :=
 (ContainsFunc_Matrix_impl_allOf_1 a1 a0_0 a0_1 a0_2).bind fun r1 =>
 some ((!r1.1.1, ()), (), ())
noncomputable def impl_allOf_C : Ctr := ⟨66, impl_allOf_arg, impl_allOf_res, fun x => impl_allOf x.1.1.1 x.1.1.2.1 x.1.1.2.2.1 x.1.2.1, none⟩
def impl_allOf_H : Hint := ⟨[], [], [], fun _ => []⟩
noncomputable def impl_allOf_T : List Ctr := [ContainsFunc_Matrix_impl_allOf_1_C]
noncomputable def impl_allOf_Ls : List Lp := []
theorem impl_allOf_e : ∀ x, impl_allOf_C.F x = runBodyW E0 impl_allOf_T impl_allOf_Ls impl_allOf_H 66 Try.f66.results.toList (bodyOf Try.f66) [] (impl_allOf_arg.mk' x) impl_allOf_res := fun x => by kernel_rfl
theorem impl_allOf_ok : impl_allOf_C.Ok E0 := fn_ok (T := impl_allOf_T) (h := impl_allOf_H) (Ls := impl_allOf_Ls) E0_mixed (T_cons ContainsFunc_Matrix_impl_allOf_1_ok T_nil) Try.func66 (bodyOf_some (by kernel_rfl)) (by kernel_rfl) (loops_of (ks := []) (by kernel_rfl) trivial) impl_allOf_e
def impl_MagazineOk_arg : Sh := ⟨[(0, .agg [.str, .rd [] .i64, .rd [] .i64]), (1, .c (.rd [] .mats))], [], []⟩
def impl_MagazineOk_res : List Sh := [⟨[(0, .c (.bool))], [], []⟩]
noncomputable def impl_MagazineOk_s0 (x : (Unit × List (List (Int × Int)) × Int × Int × Unit) × ((ByteArray × List Int × List Int × Unit) × Unit) × Unit) : Option (((Unit × List (List (Int × Int)) × Int × Int × Unit) × ((ByteArray × List Int × List Int × Unit) × Unit) × Unit) ⊕ (((Bool × Unit) × Unit × Unit) ⊕ (Unit × Unit × Unit))) :=
 let x3 : Bool := decide (x.1.2.2.2.1 < x.1.2.2.1);
 br x3
 (ck (0 ≤ x.1.2.2.2.1)
 (ck (x.1.2.2.2.1.toNat < x.1.2.1.length)
 (let x4 : List (Int × Int) := x.1.2.1.getD x.1.2.2.2.1.toNat [];
 let x5 : Bool := decide ((x4.length : Int) > (20 : Int));
 br x5
 (some (.inr (.inl ((false, ()), (), ()))))
 ((impl_allOf x.2.1.1.1 x.2.1.1.2.1 x.2.1.1.2.2.1 x4).bind fun r6 =>
 br (!r6.1.1)
 (some (.inr (.inl ((false, ()), (), ()))))
 (let x7 : Int := w64 (x.1.2.2.2.1 + (1 : Int));
 some (.inl (((), x.1.2.1, x.1.2.2.1, x7, ()), ((x.2.1.1.1, x.2.1.1.2.1, x.2.1.1.2.2.1, ()), ()), ())))))))
 (some (.inr (.inr ((), (), ()))))
def impl_MagazineOk_h0 : Sh := ⟨[(2, .c (.box 0 0)), (18, .c (.rd [] .mats)), (19, .c (.int .i64)), (20, .c (.int .i64))], [(0, .cells [.str, .rd [] .i64, .rd [] .i64])], []⟩
def impl_MagazineOk_r0 : List Sh := [⟨[(4, .c (.bool))], [], []⟩, ⟨[], [], []⟩]
noncomputable def impl_MagazineOk_L0 : Lp := ⟨0, [], impl_MagazineOk_h0, [], [(.ret, []), (.exit 0, [])], impl_MagazineOk_r0, loopC impl_MagazineOk_s0⟩
noncomputable def impl_MagazineOk (a0_0 : ByteArray) (a0_1 : List Int) (a0_2 : List Int) (a1 : List (List (Int × Int))) : Option ((Bool × Unit) × Unit × Unit) :=
 (impl_FontOk a0_0 a0_1 a0_2).bind fun r1 =>
 br (!r1.1.1)
 (some ((false, ()), (), ()))
 (let x2 : Bool := (a1.length : Int) != (a0_0.size : Int);
 br x2
 (some ((false, ()), (), ()))
 ((loopC impl_MagazineOk_s0 (((), a1, (a1.length : Int), (0 : Int), ()), ((a0_0, a0_1, a0_2, ()), ()), ())).bind fun r8 =>
 sumK r8 (fun y11 =>
 some ((y11.1.1, ()), (), ())) (fun y12 =>
 some ((true, ()), (), ()))))
noncomputable def impl_MagazineOk_C : Ctr := ⟨65, impl_MagazineOk_arg, impl_MagazineOk_res, fun x => impl_MagazineOk x.1.1.1 x.1.1.2.1 x.1.1.2.2.1 x.1.2.1, none⟩
def impl_MagazineOk_H : Hint := ⟨[], [], [], fun _ => []⟩
noncomputable def impl_MagazineOk_T : List Ctr := [impl_FontOk_C, impl_allOf_C]
noncomputable def impl_MagazineOk_Ls : List Lp := [impl_MagazineOk_L0]
theorem impl_MagazineOk_l0 : ∀ x, impl_MagazineOk_s0 x = stepW E0 impl_MagazineOk_T impl_MagazineOk_Ls impl_MagazineOk_H (loopAt (bodyOf Try.f65) 0) 0 impl_MagazineOk_h0 [] [(.ret, []), (.exit 0, [])] impl_MagazineOk_r0 x := fun x => by kernel_rfl
theorem impl_MagazineOk_e : ∀ x, impl_MagazineOk_C.F x = runBodyW E0 impl_MagazineOk_T impl_MagazineOk_Ls impl_MagazineOk_H 65 Try.f65.results.toList (bodyOf Try.f65) [] (impl_MagazineOk_arg.mk' x) impl_MagazineOk_res := fun x => by kernel_rfl
theorem impl_MagazineOk_ok : impl_MagazineOk_C.Ok E0 := fn_ok (T := impl_MagazineOk_T) (h := impl_MagazineOk_H) (Ls := impl_MagazineOk_Ls) E0_mixed (T_cons impl_FontOk_ok (T_cons impl_allOf_ok T_nil)) Try.func65 (bodyOf_some (by kernel_rfl)) (by kernel_rfl) (loops_of (ks := [0]) (by kernel_rfl) ⟨(loop_one (h := impl_MagazineOk_H) (own := []) (head := impl_MagazineOk_h0) (back := []) (exs := [(.ret, []), (.exit 0, [])]) (res := impl_MagazineOk_r0) (step := impl_MagazineOk_s0) (by kernel_rfl) impl_MagazineOk_l0), trivial⟩) impl_MagazineOk_e
def impl_isBand_arg : Sh := ⟨[(0, .agg [.int .i64, .int .i64])], [], []⟩
def impl_isBand_res : List Sh := [⟨[(0, .c (.bool))], [], []⟩]
noncomputable def impl_isBand (a0_0 : Int) (a0_1 : Int) : Option ((Bool × Unit) × Unit × Unit) :=
 let x1 : Bool := eqInts [a0_0, a0_1] [(-1 : Int), (0 : Int)];
 some ((x1, ()), (), ())
noncomputable def impl_isBand_C : Ctr := ⟨69, impl_isBand_arg, impl_isBand_res, fun x => impl_isBand x.1.1.1 x.1.1.2.1, none⟩
def impl_isBand_H : Hint := ⟨[], [], [], fun _ => []⟩
noncomputable def impl_isBand_T : List Ctr := []
noncomputable def impl_isBand_Ls : List Lp := []
theorem impl_isBand_e : ∀ x, impl_isBand_C.F x = runBodyW E0 impl_isBand_T impl_isBand_Ls impl_isBand_H 69 Try.f69.results.toList (bodyOf Try.f69) [] (impl_isBand_arg.mk' x) impl_isBand_res := fun x => by kernel_rfl
theorem impl_isBand_ok : impl_isBand_C.Ok E0 := fn_ok (T := impl_isBand_T) (h := impl_isBand_H) (Ls := impl_isBand_Ls) E0_mixed T_nil Try.func69 (bodyOf_some (by kernel_rfl)) (by kernel_rfl) (loops_of (ks := []) (by kernel_rfl) trivial) impl_isBand_e
def impl_MachineOk_1_arg : Sh := ⟨[(0, .agg [.int .i64, .int .i64]), (1, .c (.rad [] [.str, .s .i64, .s .i64, .u, .int .i64, .int .i64, .int .i64, .int .i64, .s .mat, .s .mat]))], [], []⟩
def impl_MachineOk_1_res : List Sh := [⟨[(0, .c (.bool))], [], []⟩]
noncomputable def impl_MachineOk_1 (a0_0 : Int) (a0_1 : Int) (a1_0 : ByteArray) (a1_1 : List Int) (a1_2 : List Int) (a1_4 : Int) (a1_5 : Int) (a1_6 : Int) (a1_7 : Int) (a1_8 : List (Int × Int)) (a1_9 : List (Int × Int)) : Option ((Bool × Unit) × Unit × Unit) :=
 (impl_isBand a0_0 a0_1).bind fun r1 =>
 br (!r1.1.1)
 ((impl_ofFont a1_0 a1_1 a1_2 a0_0 a0_1).bind fun r2 =>
 some ((!r2.1.1, ()), (), ()))
 (some ((false, ()), (), ()))
noncomputable def impl_MachineOk_1_C : Ctr := ⟨68, impl_MachineOk_1_arg, impl_MachineOk_1_res, fun x => impl_MachineOk_1 x.1.1.1 x.1.1.2.1 x.1.2.1.1 x.1.2.1.2.1 x.1.2.1.2.2.1 x.1.2.1.2.2.2.2.1 x.1.2.1.2.2.2.2.2.1 x.1.2.1.2.2.2.2.2.2.1 x.1.2.1.2.2.2.2.2.2.2.1 x.1.2.1.2.2.2.2.2.2.2.2.1 x.1.2.1.2.2.2.2.2.2.2.2.2.1, none⟩
def impl_MachineOk_1_H : Hint := ⟨[], [], [], fun _ => []⟩
noncomputable def impl_MachineOk_1_T : List Ctr := [impl_isBand_C, impl_ofFont_C]
noncomputable def impl_MachineOk_1_Ls : List Lp := []
theorem impl_MachineOk_1_e : ∀ x, impl_MachineOk_1_C.F x = runBodyW E0 impl_MachineOk_1_T impl_MachineOk_1_Ls impl_MachineOk_1_H 68 Try.f68.results.toList (bodyOf Try.f68) [] (impl_MachineOk_1_arg.mk' x) impl_MachineOk_1_res := fun x => by kernel_rfl
theorem impl_MachineOk_1_ok : impl_MachineOk_1_C.Ok E0 := fn_ok (T := impl_MachineOk_1_T) (h := impl_MachineOk_1_H) (Ls := impl_MachineOk_1_Ls) E0_mixed (T_cons impl_isBand_ok (T_cons impl_ofFont_ok T_nil)) Try.func68 (bodyOf_some (by kernel_rfl)) (by kernel_rfl) (loops_of (ks := []) (by kernel_rfl) trivial) impl_MachineOk_1_e
def IndexFunc_Matrix_impl_MachineOk_1_arg : Sh := ⟨[(0, .c (.rd [] .mat)), (1, .c (.fnr 68 [[.str, .s .i64, .s .i64, .u, .int .i64, .int .i64, .int .i64, .int .i64, .s .mat, .s .mat]]))], [], []⟩
def IndexFunc_Matrix_impl_MachineOk_1_res : List Sh := [⟨[(0, .c (.int .i64))], [], []⟩]
noncomputable def IndexFunc_Matrix_impl_MachineOk_1_s0 (x : (List (Int × Int) × ((ByteArray × List Int × List Int × Unit × Int × Int × Int × Int × List (Int × Int) × List (Int × Int) × Unit) × Unit) × Int × Int × Unit) × Unit × Unit) : Option (((List (Int × Int) × ((ByteArray × List Int × List Int × Unit × Int × Int × Int × Int × List (Int × Int) × List (Int × Int) × Unit) × Unit) × Int × Int × Unit) × Unit × Unit) ⊕ (((Int × Unit) × Unit × Unit) ⊕ (Unit × Unit × Unit))) :=
 let x1 : Bool := decide (x.1.2.2.2.1 < x.1.2.2.1);
 br x1
 (ck (0 ≤ x.1.2.2.2.1)
 (ck (x.1.2.2.2.1.toNat < x.1.1.length)
 (let x2 : Int × Int := x.1.1.getD x.1.2.2.2.1.toNat (0, 0);
 (impl_MachineOk_1 x2.1 x2.2 x.1.2.1.1.1 x.1.2.1.1.2.1 x.1.2.1.1.2.2.1 x.1.2.1.1.2.2.2.2.1 x.1.2.1.1.2.2.2.2.2.1 x.1.2.1.1.2.2.2.2.2.2.1 x.1.2.1.1.2.2.2.2.2.2.2.1 x.1.2.1.1.2.2.2.2.2.2.2.2.1 x.1.2.1.1.2.2.2.2.2.2.2.2.2.1).bind fun r3 =>
 br r3.1.1
 (some (.inr (.inl ((x.1.2.2.2.1, ()), (), ()))))
 (let x4 : Int := w64 (x.1.2.2.2.1 + (1 : Int));
 some (.inl ((x.1.1, ((x.1.2.1.1.1, x.1.2.1.1.2.1, x.1.2.1.1.2.2.1, (), x.1.2.1.1.2.2.2.2.1, x.1.2.1.1.2.2.2.2.2.1, x.1.2.1.1.2.2.2.2.2.2.1, x.1.2.1.1.2.2.2.2.2.2.2.1, x.1.2.1.1.2.2.2.2.2.2.2.2.1, x.1.2.1.1.2.2.2.2.2.2.2.2.2.1, ()), ()), x.1.2.2.1, x4, ()), (), ()))))))
 (some (.inr (.inr ((), (), ()))))
def IndexFunc_Matrix_impl_MachineOk_1_h0 : Sh := ⟨[(0, .c (.rd [] .mat)), (1, .c (.fnr 68 [[.str, .s .i64, .s .i64, .u, .int .i64, .int .i64, .int .i64, .int .i64, .s .mat, .s .mat]])), (7, .c (.int .i64)), (8, .c (.int .i64))], [], []⟩
def IndexFunc_Matrix_impl_MachineOk_1_r0 : List Sh := [⟨[(4, .c (.int .i64))], [], []⟩, ⟨[], [], []⟩]
noncomputable def IndexFunc_Matrix_impl_MachineOk_1_L0 : Lp := ⟨0, [], IndexFunc_Matrix_impl_MachineOk_1_h0, [], [(.ret, []), (.exit 0, [])], IndexFunc_Matrix_impl_MachineOk_1_r0, loopC IndexFunc_Matrix_impl_MachineOk_1_s0⟩
noncomputable def IndexFunc_Matrix_impl_MachineOk_1 (a0 : List (Int × Int)) (a1_0_0 : ByteArray) (a1_0_1 : List Int) (a1_0_2 : List Int) (a1_0_4 : Int) (a1_0_5 : Int) (a1_0_6 : Int) (a1_0_7 : Int) (a1_0_8 : List (Int × Int)) (a1_0_9 : List (Int × Int)) : Option ((Int × Unit) × Unit × Unit) :=
 (loopC IndexFunc_Matrix_impl_MachineOk_1_s0 ((a0, ((a1_0_0, a1_0_1, a1_0_2, (), a1_0_4, a1_0_5, a1_0_6, a1_0_7, a1_0_8, a1_0_9, ()), ()), (a0.length : Int), (0 : Int), ()), (), ())).bind fun r5 =>
 sumK r5 (fun y8 =>
 some ((y8.1.1, ()), (), ())) (fun y9 =>
 some (((-1 : Int), ()), (), ()))
noncomputable def IndexFunc_Matrix_impl_MachineOk_1_C : Ctr := ⟨116, IndexFunc_Matrix_impl_MachineOk_1_arg, IndexFunc_Matrix_impl_MachineOk_1_res, fun x => IndexFunc_Matrix_impl_MachineOk_1 x.1.1 x.1.2.1.1.1 x.1.2.1.1.2.1 x.1.2.1.1.2.2.1 x.1.2.1.1.2.2.2.2.1 x.1.2.1.1.2.2.2.2.2.1 x.1.2.1.1.2.2.2.2.2.2.1 x.1.2.1.1.2.2.2.2.2.2.2.1 x.1.2.1.1.2.2.2.2.2.2.2.2.1 x.1.2.1.1.2.2.2.2.2.2.2.2.2.1, none⟩
def IndexFunc_Matrix_impl_MachineOk_1_H : Hint := ⟨[], [], [], fun _ => []⟩
noncomputable def IndexFunc_Matrix_impl_MachineOk_1_T : List Ctr := [impl_MachineOk_1_C]
noncomputable def IndexFunc_Matrix_impl_MachineOk_1_Ls : List Lp := [IndexFunc_Matrix_impl_MachineOk_1_L0]
theorem IndexFunc_Matrix_impl_MachineOk_1_l0 : ∀ x, IndexFunc_Matrix_impl_MachineOk_1_s0 x = stepW E0 IndexFunc_Matrix_impl_MachineOk_1_T IndexFunc_Matrix_impl_MachineOk_1_Ls IndexFunc_Matrix_impl_MachineOk_1_H (loopAt (bodyOf Try.f116) 0) 0 IndexFunc_Matrix_impl_MachineOk_1_h0 [] [(.ret, []), (.exit 0, [])] IndexFunc_Matrix_impl_MachineOk_1_r0 x := fun x => by kernel_rfl
theorem IndexFunc_Matrix_impl_MachineOk_1_e : ∀ x, IndexFunc_Matrix_impl_MachineOk_1_C.F x = runBodyW E0 IndexFunc_Matrix_impl_MachineOk_1_T IndexFunc_Matrix_impl_MachineOk_1_Ls IndexFunc_Matrix_impl_MachineOk_1_H 116 Try.f116.results.toList (bodyOf Try.f116) [] (IndexFunc_Matrix_impl_MachineOk_1_arg.mk' x) IndexFunc_Matrix_impl_MachineOk_1_res := fun x => by kernel_rfl
theorem IndexFunc_Matrix_impl_MachineOk_1_ok : IndexFunc_Matrix_impl_MachineOk_1_C.Ok E0 := fn_ok (T := IndexFunc_Matrix_impl_MachineOk_1_T) (h := IndexFunc_Matrix_impl_MachineOk_1_H) (Ls := IndexFunc_Matrix_impl_MachineOk_1_Ls) E0_mixed (T_cons impl_MachineOk_1_ok T_nil) Try.func116 (bodyOf_some (by kernel_rfl)) (by kernel_rfl) (loops_of (ks := [0]) (by kernel_rfl) ⟨(loop_one (h := IndexFunc_Matrix_impl_MachineOk_1_H) (own := []) (head := IndexFunc_Matrix_impl_MachineOk_1_h0) (back := []) (exs := [(.ret, []), (.exit 0, [])]) (res := IndexFunc_Matrix_impl_MachineOk_1_r0) (step := IndexFunc_Matrix_impl_MachineOk_1_s0) (by kernel_rfl) IndexFunc_Matrix_impl_MachineOk_1_l0), trivial⟩) IndexFunc_Matrix_impl_MachineOk_1_e
def ContainsFunc_Matrix_impl_MachineOk_1_arg : Sh := ⟨[(0, .c (.rd [] .mat)), (1, .c (.fnr 68 [[.str, .s .i64, .s .i64, .u, .int .i64, .int .i64, .int .i64, .int .i64, .s .mat, .s .mat]]))], [], []⟩
def ContainsFunc_Matrix_impl_MachineOk_1_res : List Sh := [⟨[(0, .c (.bool))], [], []⟩]
noncomputable def ContainsFunc_Matrix_impl_MachineOk_1 (a0 : List (Int × Int)) (a1_0_0 : ByteArray) (a1_0_1 : List Int) (a1_0_2 : List Int) (a1_0_4 : Int) (a1_0_5 : Int) (a1_0_6 : Int) (a1_0_7 : Int) (a1_0_8 : List (Int × Int)) (a1_0_9 : List (Int × Int)) : Option ((Bool × Unit) × Unit × Unit) :=
 (IndexFunc_Matrix_impl_MachineOk_1 a0 a1_0_0 a1_0_1 a1_0_2 a1_0_4 a1_0_5 a1_0_6 a1_0_7 a1_0_8 a1_0_9).bind fun r1 =>
 let x2 : Bool := decide (r1.1.1 ≥ (0 : Int));
 some ((x2, ()), (), ())
noncomputable def ContainsFunc_Matrix_impl_MachineOk_1_C : Ctr := ⟨67, ContainsFunc_Matrix_impl_MachineOk_1_arg, ContainsFunc_Matrix_impl_MachineOk_1_res, fun x => ContainsFunc_Matrix_impl_MachineOk_1 x.1.1 x.1.2.1.1.1 x.1.2.1.1.2.1 x.1.2.1.1.2.2.1 x.1.2.1.1.2.2.2.2.1 x.1.2.1.1.2.2.2.2.2.1 x.1.2.1.1.2.2.2.2.2.2.1 x.1.2.1.1.2.2.2.2.2.2.2.1 x.1.2.1.1.2.2.2.2.2.2.2.2.1 x.1.2.1.1.2.2.2.2.2.2.2.2.2.1, none⟩
def ContainsFunc_Matrix_impl_MachineOk_1_H : Hint := ⟨[], [], [], fun _ => []⟩
noncomputable def ContainsFunc_Matrix_impl_MachineOk_1_T : List Ctr := [IndexFunc_Matrix_impl_MachineOk_1_C]
noncomputable def ContainsFunc_Matrix_impl_MachineOk_1_Ls : List Lp := []
theorem ContainsFunc_Matrix_impl_MachineOk_1_e : ∀ x, ContainsFunc_Matrix_impl_MachineOk_1_C.F x = runBodyW E0 ContainsFunc_Matrix_impl_MachineOk_1_T ContainsFunc_Matrix_impl_MachineOk_1_Ls ContainsFunc_Matrix_impl_MachineOk_1_H 67 Try.f67.results.toList (bodyOf Try.f67) [] (ContainsFunc_Matrix_impl_MachineOk_1_arg.mk' x) ContainsFunc_Matrix_impl_MachineOk_1_res := fun x => by kernel_rfl
theorem ContainsFunc_Matrix_impl_MachineOk_1_ok : ContainsFunc_Matrix_impl_MachineOk_1_C.Ok E0 := fn_ok (T := ContainsFunc_Matrix_impl_MachineOk_1_T) (h := ContainsFunc_Matrix_impl_MachineOk_1_H) (Ls := ContainsFunc_Matrix_impl_MachineOk_1_Ls) E0_mixed (T_cons IndexFunc_Matrix_impl_MachineOk_1_ok T_nil) Try.func67 (bodyOf_some (by kernel_rfl)) (by kernel_rfl) (loops_of (ks := []) (by kernel_rfl) trivial) ContainsFunc_Matrix_impl_MachineOk_1_e
def impl_items_arg : Sh := ⟨[(0, .agg [.str, .rd [] .i64, .rd [] .i64]), (1, .c (.rd [] .mat))], [], []⟩
def impl_items_res : List Sh := [⟨[(0, .c (.own 0))], [], [(0, .i64)]⟩]
noncomputable def impl_items_s0 (x : (Unit × Unit × List (Int × Int) × Int × Int × Unit) × ((ByteArray × List Int × List Int × Unit) × Unit) × (List Int × Unit)) : Option (((Unit × Unit × List (Int × Int) × Int × Int × Unit) × ((ByteArray × List Int × List Int × Unit) × Unit) × (List Int × Unit)) ⊕ ((Unit × Unit) × Unit × (List Int × Unit))) :=
 let x1 : Bool := decide (x.1.2.2.2.2.1 < x.1.2.2.2.1);
 br x1
 (ck (0 ≤ x.1.2.2.2.2.1)
 (ck (x.1.2.2.2.2.1.toNat < x.1.2.2.1.length)
 (let x2 : Int × Int := x.1.2.2.1.getD x.1.2.2.2.2.1.toNat (0, 0);
 (impl_isBand x2.1 x2.2).bind fun r3 =>
 br r3.1.1
 (ck ((x.2.2.1.length + [(0 : Int)].length) * 8 ≤ 140737488355328 ∧ (x.2.2.1.length + [(0 : Int)].length) ≤ 9223372036854775807)
 (let x4 : List Int := x.2.2.1 ++ [(0 : Int)];
 let x5 : Int := w64 (x.1.2.2.2.2.1 + (1 : Int));
 some (.inl (((), (), x.1.2.2.1, x.1.2.2.2.1, x5, ()), ((x.2.1.1.1, x.2.1.1.2.1, x.2.1.1.2.2.1, ()), ()), (x4, ())))))
 (ck (0 ≤ x2.1)
 (ck (x2.1.toNat < x.2.1.1.2.1.length)
 (let x6 : Int := x.2.1.1.2.1.getD x2.1.toNat 0;
 ck ((x.2.2.1.length + [x6].length) * 8 ≤ 140737488355328 ∧ (x.2.2.1.length + [x6].length) ≤ 9223372036854775807)
 (let x7 : List Int := x.2.2.1 ++ [x6];
 let x8 : Int := w64 (x.1.2.2.2.2.1 + (1 : Int));
 some (.inl (((), (), x.1.2.2.1, x.1.2.2.2.1, x8, ()), ((x.2.1.1.1, x.2.1.1.2.1, x.2.1.1.2.2.1, ()), ()), (x7, ()))))))))))
 (some (.inr (((), ()), (), (x.2.2.1, ()))))
def impl_items_h0 : Sh := ⟨[(2, .c (.box 0 0)), (5, .c (.own 0)), (9, .c (.rd [] .mat)), (10, .c (.int .i64)), (11, .c (.int .i64))], [(0, .cells [.str, .rd [] .i64, .rd [] .i64])], [(0, .i64)]⟩
def impl_items_r0 : List Sh := [⟨[(5, .c (.own 0))], [], [(0, .i64)]⟩]
noncomputable def impl_items_L0 : Lp := ⟨0, [], impl_items_h0, [], [(.exit 0, [])], impl_items_r0, loopC impl_items_s0⟩
noncomputable def impl_items (a0_0 : ByteArray) (a0_1 : List Int) (a0_2 : List Int) (a1 : List (Int × Int)) : Option ((Unit × Unit) × Unit × (List Int × Unit)) :=
 (loopC impl_items_s0 (((), (), a1, (a1.length : Int), (0 : Int), ()), ((a0_0, a0_1, a0_2, ()), ()), ([], ()))).bind fun r9 =>
 some (((), ()), (), (r9.2.2.1, ()))
noncomputable def impl_items_C : Ctr := ⟨72, impl_items_arg, impl_items_res, fun x => impl_items x.1.1.1 x.1.1.2.1 x.1.1.2.2.1 x.1.2.1, none⟩
def impl_items_H : Hint := ⟨[], [], [], fun _ => []⟩
noncomputable def impl_items_T : List Ctr := [impl_isBand_C]
noncomputable def impl_items_Ls : List Lp := [impl_items_L0]
theorem impl_items_l0 : ∀ x, impl_items_s0 x = stepW E0 impl_items_T impl_items_Ls impl_items_H (loopAt (bodyOf Try.f72) 0) 0 impl_items_h0 [] [(.exit 0, [])] impl_items_r0 x := fun x => by kernel_rfl
theorem impl_items_e : ∀ x, impl_items_C.F x = runBodyW E0 impl_items_T impl_items_Ls impl_items_H 72 Try.f72.results.toList (bodyOf Try.f72) [] (impl_items_arg.mk' x) impl_items_res := fun x => by kernel_rfl
theorem impl_items_ok : impl_items_C.Ok E0 := fn_ok (T := impl_items_T) (h := impl_items_H) (Ls := impl_items_Ls) E0_mixed (T_cons impl_isBand_ok T_nil) Try.func72 (bodyOf_some (by kernel_rfl)) (by kernel_rfl) (loops_of (ks := [0]) (by kernel_rfl) ⟨(loop_one (h := impl_items_H) (own := []) (head := impl_items_h0) (back := []) (exs := [(.exit 0, [])]) (res := impl_items_r0) (step := impl_items_s0) (by kernel_rfl) impl_items_l0), trivial⟩) impl_items_e
def impl_MeasureOk_arg : Sh := ⟨[(0, .agg [.int .i64, .int .i64, .int .i64])], [], []⟩
def impl_MeasureOk_res : List Sh := [⟨[(0, .c (.bool))], [], []⟩]
noncomputable def impl_MeasureOk (a0_0 : Int) (a0_1 : Int) (a0_2 : Int) : Option ((Bool × Unit) × Unit × Unit) :=
 let x1 : Bool := decide (a0_0 ≥ (1 : Int));
 br x1
 (let x2 : Bool := decide (a0_0 ≤ (2000 : Int));
 br x2
 (let x3 : Bool := decide (a0_1 ≥ (1 : Int));
 br x3
 (let x4 : Bool := decide (a0_1 ≤ (100 : Int));
 br x4
 (let x5 : Bool := decide (a0_2 ≥ a0_1);
 br x5
 (let x6 : Bool := decide (a0_2 ≤ (100 : Int));
 some ((x6, ()), (), ()))
 (some ((false, ()), (), ())))
 (some ((false, ()), (), ())))
 (some ((false, ()), (), ())))
 (some ((false, ()), (), ())))
 (some ((false, ()), (), ()))
noncomputable def impl_MeasureOk_C : Ctr := ⟨137, impl_MeasureOk_arg, impl_MeasureOk_res, fun x => impl_MeasureOk x.1.1.1 x.1.1.2.1 x.1.1.2.2.1, none⟩
def impl_MeasureOk_H : Hint := ⟨[], [], [], fun _ => []⟩
noncomputable def impl_MeasureOk_T : List Ctr := []
noncomputable def impl_MeasureOk_Ls : List Lp := []
theorem impl_MeasureOk_e : ∀ x, impl_MeasureOk_C.F x = runBodyW E0 impl_MeasureOk_T impl_MeasureOk_Ls impl_MeasureOk_H 137 Try.f137.results.toList (bodyOf Try.f137) [] (impl_MeasureOk_arg.mk' x) impl_MeasureOk_res := fun x => by kernel_rfl
theorem impl_MeasureOk_ok : impl_MeasureOk_C.Ok E0 := fn_ok (T := impl_MeasureOk_T) (h := impl_MeasureOk_H) (Ls := impl_MeasureOk_Ls) E0_mixed T_nil Try.func137 (bodyOf_some (by kernel_rfl)) (by kernel_rfl) (loops_of (ks := []) (by kernel_rfl) trivial) impl_MeasureOk_e
def impl_LineOk_arg : Sh := ⟨[(0, .c (.rd [] .i64))], [], []⟩
def impl_LineOk_res : List Sh := [⟨[(0, .c (.bool))], [], []⟩]
noncomputable def impl_LineOk (a0 : List Int) : Option ((Bool × Unit) × Unit × Unit) :=
 let x1 : Bool := decide ((a0.length : Int) ≤ (120 : Int));
 br x1
 ((impl_between a0 (0 : Int) (60 : Int)).bind fun r2 =>
 some ((r2.1.1, ()), (), ()))
 (some ((false, ()), (), ()))
noncomputable def impl_LineOk_C : Ctr := ⟨138, impl_LineOk_arg, impl_LineOk_res, fun x => impl_LineOk x.1.1, none⟩
def impl_LineOk_H : Hint := ⟨[], [], [], fun _ => []⟩
noncomputable def impl_LineOk_T : List Ctr := [impl_between_C]
noncomputable def impl_LineOk_Ls : List Lp := []
theorem impl_LineOk_e : ∀ x, impl_LineOk_C.F x = runBodyW E0 impl_LineOk_T impl_LineOk_Ls impl_LineOk_H 138 Try.f138.results.toList (bodyOf Try.f138) [] (impl_LineOk_arg.mk' x) impl_LineOk_res := fun x => by kernel_rfl
theorem impl_LineOk_ok : impl_LineOk_C.Ok E0 := fn_ok (T := impl_LineOk_T) (h := impl_LineOk_H) (Ls := impl_LineOk_Ls) E0_mixed (T_cons impl_between_ok T_nil) Try.func138 (bodyOf_some (by kernel_rfl)) (by kernel_rfl) (loops_of (ks := []) (by kernel_rfl) trivial) impl_LineOk_e
def impl_lettersAndBands_arg : Sh := ⟨[(0, .c (.rd [] .i64))], [], []⟩
def impl_lettersAndBands_res : List Sh := [⟨[(0, .c (.int .i64)), (1, .c (.int .i64))], [], []⟩]
noncomputable def impl_lettersAndBands_s0 (x : (Int × Int × List Int × Int × Int × Unit) × Unit × Unit) : Option (((Int × Int × List Int × Int × Int × Unit) × Unit × Unit) ⊕ ((Int × Int × Unit) × Unit × Unit)) :=
 let x1 : Bool := decide (x.1.2.2.2.2.1 < x.1.2.2.2.1);
 br x1
 (ck (0 ≤ x.1.2.2.2.2.1)
 (ck (x.1.2.2.2.2.1.toNat < x.1.2.2.1.length)
 (let x2 : Int := x.1.2.2.1.getD x.1.2.2.2.2.1.toNat 0;
 let x3 : Int := w64 (x.1.1 + x2);
 let x4 : Bool := x2 == (0 : Int);
 br x4
 (let x5 : Int := w64 (x.1.2.1 + (1 : Int));
 let x6 : Int := w64 (x.1.2.2.2.2.1 + (1 : Int));
 some (.inl ((x3, x5, x.1.2.2.1, x.1.2.2.2.1, x6, ()), (), ())))
 (let x7 : Int := w64 (x.1.2.2.2.2.1 + (1 : Int));
 some (.inl ((x3, x.1.2.1, x.1.2.2.1, x.1.2.2.2.1, x7, ()), (), ()))))))
 (some (.inr ((x.1.1, x.1.2.1, ()), (), ())))
def impl_lettersAndBands_h0 : Sh := ⟨[(4, .c (.int .i64)), (5, .c (.int .i64)), (8, .c (.rd [] .i64)), (9, .c (.int .i64)), (10, .c (.int .i64))], [], []⟩
def impl_lettersAndBands_r0 : List Sh := [⟨[(4, .c (.int .i64)), (5, .c (.int .i64))], [], []⟩]
noncomputable def impl_lettersAndBands_L0 : Lp := ⟨0, [], impl_lettersAndBands_h0, [], [(.exit 0, [])], impl_lettersAndBands_r0, loopC impl_lettersAndBands_s0⟩
noncomputable def impl_lettersAndBands (a0 : List Int) : Option ((Int × Int × Unit) × Unit × Unit) :=
 (loopC impl_lettersAndBands_s0 (((0 : Int), (0 : Int), a0, (a0.length : Int), (0 : Int), ()), (), ())).bind fun r8 =>
 some ((r8.1.1, r8.1.2.1, ()), (), ())
noncomputable def impl_lettersAndBands_C : Ctr := ⟨136, impl_lettersAndBands_arg, impl_lettersAndBands_res, fun x => impl_lettersAndBands x.1.1, none⟩
def impl_lettersAndBands_H : Hint := ⟨[], [], [], fun _ => []⟩
noncomputable def impl_lettersAndBands_T : List Ctr := []
noncomputable def impl_lettersAndBands_Ls : List Lp := [impl_lettersAndBands_L0]
theorem impl_lettersAndBands_l0 : ∀ x, impl_lettersAndBands_s0 x = stepW E0 impl_lettersAndBands_T impl_lettersAndBands_Ls impl_lettersAndBands_H (loopAt (bodyOf Try.f136) 0) 0 impl_lettersAndBands_h0 [] [(.exit 0, [])] impl_lettersAndBands_r0 x := fun x => by kernel_rfl
theorem impl_lettersAndBands_e : ∀ x, impl_lettersAndBands_C.F x = runBodyW E0 impl_lettersAndBands_T impl_lettersAndBands_Ls impl_lettersAndBands_H 136 Try.f136.results.toList (bodyOf Try.f136) [] (impl_lettersAndBands_arg.mk' x) impl_lettersAndBands_res := fun x => by kernel_rfl
theorem impl_lettersAndBands_ok : impl_lettersAndBands_C.Ok E0 := fn_ok (T := impl_lettersAndBands_T) (h := impl_lettersAndBands_H) (Ls := impl_lettersAndBands_Ls) E0_mixed T_nil Try.func136 (bodyOf_some (by kernel_rfl)) (by kernel_rfl) (loops_of (ks := [0]) (by kernel_rfl) ⟨(loop_one (h := impl_lettersAndBands_H) (own := []) (head := impl_lettersAndBands_h0) (back := []) (exs := [(.exit 0, [])]) (res := impl_lettersAndBands_r0) (step := impl_lettersAndBands_s0) (by kernel_rfl) impl_lettersAndBands_l0), trivial⟩) impl_lettersAndBands_e
def impl_spread_arg : Sh := ⟨[(0, .agg [.int .i64, .int .i64, .int .i64]), (1, .c (.int .i64)), (2, .c (.int .i64))], [], []⟩
def impl_spread_res : List Sh := [⟨[(0, .c (.int .i64)), (1, .c (.int .i64)), (2, .c (.bool))], [], []⟩]
noncomputable def impl_spread (a0_0 : Int) (a0_1 : Int) (a0_2 : Int) (a1 : Int) (a2 : Int) : Option ((Int × Int × Bool × Unit) × Unit × Unit) :=
 let x1 : Int := w64 (a0_0 - a1);
 let x2 : Int := w64 (a2 * a0_1);
 let x3 : Int := w64 (x1 - x2);
 let x4 : Bool := decide (x3 < (0 : Int));
 br x4
 (some (((0 : Int), (0 : Int), false, ()), (), ()))
 (let x5 : Bool := decide (a2 > (0 : Int));
 br x5
 (let x6 : Int := w64 (a0_2 - a0_1);
 ck (a2 ≠ 0)
 (let x7 : Int := w64 (x3.tdiv a2);
 let x8 : Int := if x7 < x6 then x7 else x6;
 let x9 : Int := w64 (a2 * x8);
 let x10 : Int := w64 (x3 - x9);
 some ((x8, x10, true, ()), (), ())))
 (let x11 : Int := w64 (a2 * (0 : Int));
 let x12 : Int := w64 (x3 - x11);
 some (((0 : Int), x12, true, ()), (), ())))
noncomputable def impl_spread_C : Ctr := ⟨145, impl_spread_arg, impl_spread_res, fun x => impl_spread x.1.1.1 x.1.1.2.1 x.1.1.2.2.1 x.1.2.1 x.1.2.2.1, none⟩
def impl_spread_H : Hint := ⟨[], [], [], fun _ => []⟩
noncomputable def impl_spread_T : List Ctr := []
noncomputable def impl_spread_Ls : List Lp := []
theorem impl_spread_e : ∀ x, impl_spread_C.F x = runBodyW E0 impl_spread_T impl_spread_Ls impl_spread_H 145 Try.f145.results.toList (bodyOf Try.f145) [] (impl_spread_arg.mk' x) impl_spread_res := fun x => by kernel_rfl
theorem impl_spread_ok : impl_spread_C.Ok E0 := fn_ok (T := impl_spread_T) (h := impl_spread_H) (Ls := impl_spread_Ls) E0_mixed T_nil Try.func145 (bodyOf_some (by kernel_rfl)) (by kernel_rfl) (loops_of (ks := []) (by kernel_rfl) trivial) impl_spread_e
def impl_SpreadLine_arg : Sh := ⟨[(0, .agg [.int .i64, .int .i64, .int .i64]), (1, .c (.rd [] .i64))], [], []⟩
def impl_SpreadLine_res : List Sh := [⟨[(0, .c (.int .i64)), (1, .c (.int .i64)), (2, .c (.bool))], [], []⟩]
noncomputable def impl_SpreadLine (a0_0 : Int) (a0_1 : Int) (a0_2 : Int) (a1 : List Int) : Option ((Int × Int × Bool × Unit) × Unit × Unit) :=
 (impl_MeasureOk a0_0 a0_1 a0_2).bind fun r1 =>
 br (!r1.1.1)
 (some (((0 : Int), (0 : Int), false, ()), (), ()))
 ((impl_LineOk a1).bind fun r2 =>
 br (!r2.1.1)
 (some (((0 : Int), (0 : Int), false, ()), (), ()))
 ((impl_lettersAndBands a1).bind fun r3 =>
 (impl_spread a0_0 a0_1 a0_2 r3.1.1 r3.1.2.1).bind fun r4 =>
 some ((r4.1.1, r4.1.2.1, r4.1.2.2.1, ()), (), ())))
noncomputable def impl_SpreadLine_C : Ctr := ⟨119, impl_SpreadLine_arg, impl_SpreadLine_res, fun x => impl_SpreadLine x.1.1.1 x.1.1.2.1 x.1.1.2.2.1 x.1.2.1, none⟩
def impl_SpreadLine_H : Hint := ⟨[], [], [], fun _ => []⟩
noncomputable def impl_SpreadLine_T : List Ctr := [impl_MeasureOk_C, impl_LineOk_C, impl_lettersAndBands_C, impl_spread_C]
noncomputable def impl_SpreadLine_Ls : List Lp := []
theorem impl_SpreadLine_e : ∀ x, impl_SpreadLine_C.F x = runBodyW E0 impl_SpreadLine_T impl_SpreadLine_Ls impl_SpreadLine_H 119 Try.f119.results.toList (bodyOf Try.f119) [] (impl_SpreadLine_arg.mk' x) impl_SpreadLine_res := fun x => by kernel_rfl
theorem impl_SpreadLine_ok : impl_SpreadLine_C.Ok E0 := fn_ok (T := impl_SpreadLine_T) (h := impl_SpreadLine_H) (Ls := impl_SpreadLine_Ls) E0_mixed (T_cons impl_MeasureOk_ok (T_cons impl_LineOk_ok (T_cons impl_lettersAndBands_ok (T_cons impl_spread_ok T_nil)))) Try.func119 (bodyOf_some (by kernel_rfl)) (by kernel_rfl) (loops_of (ks := []) (by kernel_rfl) trivial) impl_SpreadLine_e
def impl_fits_arg : Sh := ⟨[(0, .agg [.int .i64, .int .i64, .int .i64]), (1, .c (.rd [] .i64))], [], []⟩
def impl_fits_res : List Sh := [⟨[(0, .c (.bool))], [], []⟩]
noncomputable def impl_fits (a0_0 : Int) (a0_1 : Int) (a0_2 : Int) (a1 : List Int) : Option ((Bool × Unit) × Unit × Unit) :=
 (impl_SpreadLine a0_0 a0_1 a0_2 a1).bind fun r1 =>
 some ((r1.1.2.2.1, ()), (), ())
noncomputable def impl_fits_C : Ctr := ⟨71, impl_fits_arg, impl_fits_res, fun x => impl_fits x.1.1.1 x.1.1.2.1 x.1.1.2.2.1 x.1.2.1, none⟩
def impl_fits_H : Hint := ⟨[], [], [], fun _ => []⟩
noncomputable def impl_fits_T : List Ctr := [impl_SpreadLine_C]
noncomputable def impl_fits_Ls : List Lp := []
theorem impl_fits_e : ∀ x, impl_fits_C.F x = runBodyW E0 impl_fits_T impl_fits_Ls impl_fits_H 71 Try.f71.results.toList (bodyOf Try.f71) [] (impl_fits_arg.mk' x) impl_fits_res := fun x => by kernel_rfl
theorem impl_fits_ok : impl_fits_C.Ok E0 := fn_ok (T := impl_fits_T) (h := impl_fits_H) (Ls := impl_fits_Ls) E0_mixed (T_cons impl_SpreadLine_ok T_nil) Try.func71 (bodyOf_some (by kernel_rfl)) (by kernel_rfl) (loops_of (ks := []) (by kernel_rfl) trivial) impl_fits_e
def impl_MachineOk_arg : Sh := ⟨[(0, .agg [.str, .rd [] .i64, .rd [] .i64, .rd [] .mats, .int .i64, .int .i64, .int .i64, .int .i64, .rd [] .mat, .rd [] .mat])], [], []⟩
def impl_MachineOk_res : List Sh := [⟨[(0, .c (.bool))], [], []⟩]
noncomputable def impl_MachineOk (a0_0 : ByteArray) (a0_1 : List Int) (a0_2 : List Int) (a0_3 : List (List (Int × Int))) (a0_4 : Int) (a0_5 : Int) (a0_6 : Int) (a0_7 : Int) (a0_8 : List (Int × Int)) (a0_9 : List (Int × Int)) : Option ((Bool × Unit) × Unit × Unit) :=
 (impl_MagazineOk a0_0 a0_1 a0_2 a0_3).bind fun r1 =>
 br (!r1.1.1)
 (some ((false, ()), (), ()))
 (let x2 : Bool := decide (a0_4 < (0 : Int));
 br x2
 (some ((false, ()), (), ()))
 (let x3 : Bool := decide (a0_4 > (60 : Int));
 br x3
 (some ((false, ()), (), ()))
 (let x4 : Bool := decide ((a0_8.length : Int) > (120 : Int));
 br x4
 (some ((false, ()), (), ()))
 (let x5 : Bool := decide ((a0_9.length : Int) > (240 : Int));
 br x5
 (some ((false, ()), (), ()))
 ((impl_allOf a0_0 a0_1 a0_2 a0_9).bind fun r6 =>
 br (!r6.1.1)
 (some ((false, ()), (), ()))
 ((ContainsFunc_Matrix_impl_MachineOk_1 a0_8 a0_0 a0_1 a0_2 a0_4 a0_5 a0_6 a0_7 a0_8 a0_9).bind fun r7 =>
 br r7.1.1
 (some ((false, ()), (), ()))
 ((impl_items a0_0 a0_1 a0_2 a0_8).bind fun r8 =>
 (impl_fits a0_5 a0_6 a0_7 r8.2.2.1).bind fun r9 =>
 some ((r9.1.1, ()), (), ()))))))))
noncomputable def impl_MachineOk_C : Ctr := ⟨17, impl_MachineOk_arg, impl_MachineOk_res, fun x => impl_MachineOk x.1.1.1 x.1.1.2.1 x.1.1.2.2.1 x.1.1.2.2.2.1 x.1.1.2.2.2.2.1 x.1.1.2.2.2.2.2.1 x.1.1.2.2.2.2.2.2.1 x.1.1.2.2.2.2.2.2.2.1 x.1.1.2.2.2.2.2.2.2.2.1 x.1.1.2.2.2.2.2.2.2.2.2.1, none⟩
def impl_MachineOk_H : Hint := ⟨[], [], [], fun _ => []⟩
noncomputable def impl_MachineOk_T : List Ctr := [impl_MagazineOk_C, impl_allOf_C, ContainsFunc_Matrix_impl_MachineOk_1_C, impl_items_C, impl_fits_C]
noncomputable def impl_MachineOk_Ls : List Lp := []
theorem impl_MachineOk_e : ∀ x, impl_MachineOk_C.F x = runBodyW E0 impl_MachineOk_T impl_MachineOk_Ls impl_MachineOk_H 17 Try.f17.results.toList (bodyOf Try.f17) [] (impl_MachineOk_arg.mk' x) impl_MachineOk_res := fun x => by kernel_rfl
theorem impl_MachineOk_ok : impl_MachineOk_C.Ok E0 := fn_ok (T := impl_MachineOk_T) (h := impl_MachineOk_H) (Ls := impl_MachineOk_Ls) E0_mixed (T_cons impl_MagazineOk_ok (T_cons impl_allOf_ok (T_cons ContainsFunc_Matrix_impl_MachineOk_1_ok (T_cons impl_items_ok (T_cons impl_fits_ok T_nil))))) Try.func17 (bodyOf_some (by kernel_rfl)) (by kernel_rfl) (loops_of (ks := []) (by kernel_rfl) trivial) impl_MachineOk_e
def Clone_int_arg : Sh := ⟨[(0, .c (.rd [] .i64))], [], []⟩
def Clone_int_res : List Sh := [⟨[(0, .c (.own 0))], [], [(0, .i64)]⟩]
noncomputable def Clone_int (a0 : List Int) : Option ((Unit × Unit) × Unit × (List Int × Unit)) :=
 br a0.isEmpty
 (both (some (((), ()), (), ([], ())))
 (ck ((([] : List Int).length + a0.length) * 8 ≤ 140737488355328 ∧ (([] : List Int).length + a0.length) ≤ 9223372036854775807)
 (let x1 : List Int := [] ++ a0;
 some (((), ()), (), (x1, ())))))
 (ck ((([] : List Int).length + a0.length) * 8 ≤ 140737488355328 ∧ (([] : List Int).length + a0.length) ≤ 9223372036854775807)
 (let x2 : List Int := [] ++ a0;
 some (((), ()), (), (x2, ()))))
noncomputable def Clone_int_C : Ctr := ⟨124, Clone_int_arg, Clone_int_res, fun x => Clone_int x.1.1, none⟩
def Clone_int_H : Hint := ⟨[], [], [], fun _ => []⟩
noncomputable def Clone_int_T : List Ctr := []
noncomputable def Clone_int_Ls : List Lp := []
theorem Clone_int_e : ∀ x, Clone_int_C.F x = runBodyW E0 Clone_int_T Clone_int_Ls Clone_int_H 124 Try.f124.results.toList (bodyOf Try.f124) [(.tm 2, 6000000, .i64)] (Clone_int_arg.mk' x) Clone_int_res := fun x => by kernel_rfl
theorem Clone_int_ok : Clone_int_C.Ok E0 := fn_ok (T := Clone_int_T) (h := Clone_int_H) (Ls := Clone_int_Ls) E0_mixed T_nil Try.func124 (bodyOf_some (by kernel_rfl)) (by kernel_rfl) (loops_of (ks := []) (by kernel_rfl) trivial) Clone_int_e
def Clone_Matrix_arg : Sh := ⟨[(0, .c (.rd [] .mat))], [], []⟩
def Clone_Matrix_res : List Sh := [⟨[(0, .c (.own 0))], [], [(0, .mat)]⟩]
noncomputable def Clone_Matrix (a0 : List (Int × Int)) : Option ((Unit × Unit) × Unit × (List (Int × Int) × Unit)) :=
 br a0.isEmpty
 (both (some (((), ()), (), ([], ())))
 (ck ((([] : List Int).length + a0.length) * 16 ≤ 140737488355328 ∧ (([] : List Int).length + a0.length) ≤ 9223372036854775807)
 (let x1 : List (Int × Int) := [] ++ a0;
 some (((), ()), (), (x1, ())))))
 (ck ((([] : List Int).length + a0.length) * 16 ≤ 140737488355328 ∧ (([] : List Int).length + a0.length) ≤ 9223372036854775807)
 (let x2 : List (Int × Int) := [] ++ a0;
 some (((), ()), (), (x2, ()))))
noncomputable def Clone_Matrix_C : Ctr := ⟨100, Clone_Matrix_arg, Clone_Matrix_res, fun x => Clone_Matrix x.1.1, none⟩
def Clone_Matrix_H : Hint := ⟨[], [], [], fun _ => []⟩
noncomputable def Clone_Matrix_T : List Ctr := []
noncomputable def Clone_Matrix_Ls : List Lp := []
theorem Clone_Matrix_e : ∀ x, Clone_Matrix_C.F x = runBodyW E0 Clone_Matrix_T Clone_Matrix_Ls Clone_Matrix_H 100 Try.f100.results.toList (bodyOf Try.f100) [(.tm 2, 6000000, .mat)] (Clone_Matrix_arg.mk' x) Clone_Matrix_res := fun x => by kernel_rfl
theorem Clone_Matrix_ok : Clone_Matrix_C.Ok E0 := fn_ok (T := Clone_Matrix_T) (h := Clone_Matrix_H) (Ls := Clone_Matrix_Ls) E0_mixed T_nil Try.func100 (bodyOf_some (by kernel_rfl)) (by kernel_rfl) (loops_of (ks := []) (by kernel_rfl) trivial) Clone_Matrix_e
def impl_copyMagazine_arg : Sh := ⟨[(0, .c (.rd [] .mats))], [], []⟩
def impl_copyMagazine_res : List Sh := [⟨[(0, .c (.own 0))], [], [(0, .mats)]⟩]
noncomputable def impl_copyMagazine_s0 (x : (Unit × List (List (Int × Int)) × Int × Int × Unit) × Unit × (List (List (Int × Int)) × Unit)) : Option (((Unit × List (List (Int × Int)) × Int × Int × Unit) × Unit × (List (List (Int × Int)) × Unit)) ⊕ ((Unit × Unit) × Unit × (List (List (Int × Int)) × Unit))) :=
 let x1 : Bool := decide (x.1.2.2.2.1 < x.1.2.2.1);
 br x1
 (ck (0 ≤ x.1.2.2.2.1)
 (ck (x.1.2.2.2.1.toNat < x.1.2.1.length)
 (let x2 : List (Int × Int) := x.1.2.1.getD x.1.2.2.2.1.toNat [];
 (Clone_Matrix x2).bind fun r3 =>
 ck ((x.2.2.1.length + 1) * 24 ≤ 140737488355328 ∧ (x.2.2.1.length + 1) ≤ 9223372036854775807)
 (let x4 : List (List (Int × Int)) := x.2.2.1 ++ [r3.2.2.1];
 let x5 : Int := w64 (x.1.2.2.2.1 + (1 : Int));
 some (.inl (((), x.1.2.1, x.1.2.2.1, x5, ()), (), (x4, ())))))))
 (some (.inr (((), ()), (), (x.2.2.1, ()))))
def impl_copyMagazine_h0 : Sh := ⟨[(3, .c (.own 0)), (7, .c (.rd [] .mats)), (8, .c (.int .i64)), (9, .c (.int .i64))], [], [(0, .mats)]⟩
def impl_copyMagazine_r0 : List Sh := [⟨[(3, .c (.own 0))], [], [(0, .mats)]⟩]
noncomputable def impl_copyMagazine_L0 : Lp := ⟨0, [], impl_copyMagazine_h0, [], [(.exit 0, [])], impl_copyMagazine_r0, loopC impl_copyMagazine_s0⟩
noncomputable def impl_copyMagazine (a0 : List (List (Int × Int))) : Option ((Unit × Unit) × Unit × (List (List (Int × Int)) × Unit)) :=
 (loopC impl_copyMagazine_s0 (((), a0, (a0.length : Int), (0 : Int), ()), (), ([], ()))).bind fun r6 =>
 some (((), ()), (), (r6.2.2.1, ()))
noncomputable def impl_copyMagazine_C : Ctr := ⟨125, impl_copyMagazine_arg, impl_copyMagazine_res, fun x => impl_copyMagazine x.1.1, none⟩
def impl_copyMagazine_H : Hint := ⟨[], [], [], fun _ => []⟩
noncomputable def impl_copyMagazine_T : List Ctr := [Clone_Matrix_C]
noncomputable def impl_copyMagazine_Ls : List Lp := [impl_copyMagazine_L0]
theorem impl_copyMagazine_l0 : ∀ x, impl_copyMagazine_s0 x = stepW E0 impl_copyMagazine_T impl_copyMagazine_Ls impl_copyMagazine_H (loopAt (bodyOf Try.f125) 0) 0 impl_copyMagazine_h0 [] [(.exit 0, [])] impl_copyMagazine_r0 x := fun x => by kernel_rfl
theorem impl_copyMagazine_e : ∀ x, impl_copyMagazine_C.F x = runBodyW E0 impl_copyMagazine_T impl_copyMagazine_Ls impl_copyMagazine_H 125 Try.f125.results.toList (bodyOf Try.f125) [] (impl_copyMagazine_arg.mk' x) impl_copyMagazine_res := fun x => by kernel_rfl
theorem impl_copyMagazine_ok : impl_copyMagazine_C.Ok E0 := fn_ok (T := impl_copyMagazine_T) (h := impl_copyMagazine_H) (Ls := impl_copyMagazine_Ls) E0_mixed (T_cons Clone_Matrix_ok T_nil) Try.func125 (bodyOf_some (by kernel_rfl)) (by kernel_rfl) (loops_of (ks := [0]) (by kernel_rfl) ⟨(loop_one (h := impl_copyMagazine_H) (own := []) (head := impl_copyMagazine_h0) (back := []) (exs := [(.exit 0, [])]) (res := impl_copyMagazine_r0) (step := impl_copyMagazine_s0) (by kernel_rfl) impl_copyMagazine_l0), trivial⟩) impl_copyMagazine_e
def impl_copyMachine_arg : Sh := ⟨[(0, .agg [.str, .rd [] .i64, .rd [] .i64, .rd [] .mats, .int .i64, .int .i64, .int .i64, .int .i64, .rd [] .mat, .rd [] .mat])], [], []⟩
def impl_copyMachine_res : List Sh := [⟨[(0, .agg [.str, .own 0, .own 1, .own 2, .int .i64, .int .i64, .int .i64, .int .i64, .own 3, .own 4])], [], [(0, .i64), (1, .i64), (2, .mats), (3, .mat), (4, .mat)]⟩]
noncomputable def impl_copyMachine (a0_0 : ByteArray) (a0_1 : List Int) (a0_2 : List Int) (a0_3 : List (List (Int × Int))) (a0_4 : Int) (a0_5 : Int) (a0_6 : Int) (a0_7 : Int) (a0_8 : List (Int × Int)) (a0_9 : List (Int × Int)) : Option (((ByteArray × Unit × Unit × Unit × Int × Int × Int × Int × Unit × Unit × Unit) × Unit) × Unit × (List Int × List Int × List (List (Int × Int)) × List (Int × Int) × List (Int × Int) × Unit)) :=
 (Clone_int a0_1).bind fun r1 =>
 (Clone_int a0_2).bind fun r2 =>
 (impl_copyMagazine a0_3).bind fun r3 =>
 (Clone_Matrix a0_8).bind fun r4 =>
 (Clone_Matrix a0_9).bind fun r5 =>
 some (((a0_0, (), (), (), a0_4, a0_5, a0_6, a0_7, (), (), ()), ()), (), (r1.2.2.1, r2.2.2.1, r3.2.2.1, r4.2.2.1, r5.2.2.1, ()))
noncomputable def impl_copyMachine_C : Ctr := ⟨87, impl_copyMachine_arg, impl_copyMachine_res, fun x => impl_copyMachine x.1.1.1 x.1.1.2.1 x.1.1.2.2.1 x.1.1.2.2.2.1 x.1.1.2.2.2.2.1 x.1.1.2.2.2.2.2.1 x.1.1.2.2.2.2.2.2.1 x.1.1.2.2.2.2.2.2.2.1 x.1.1.2.2.2.2.2.2.2.2.1 x.1.1.2.2.2.2.2.2.2.2.2.1, none⟩
def impl_copyMachine_H : Hint := ⟨[], [], [], fun _ => []⟩
noncomputable def impl_copyMachine_T : List Ctr := [Clone_int_C, impl_copyMagazine_C, Clone_Matrix_C]
noncomputable def impl_copyMachine_Ls : List Lp := []
theorem impl_copyMachine_e : ∀ x, impl_copyMachine_C.F x = runBodyW E0 impl_copyMachine_T impl_copyMachine_Ls impl_copyMachine_H 87 Try.f87.results.toList (bodyOf Try.f87) [] (impl_copyMachine_arg.mk' x) impl_copyMachine_res := fun x => by kernel_rfl
theorem impl_copyMachine_ok : impl_copyMachine_C.Ok E0 := fn_ok (T := impl_copyMachine_T) (h := impl_copyMachine_H) (Ls := impl_copyMachine_Ls) E0_mixed (T_cons Clone_int_ok (T_cons impl_copyMagazine_ok (T_cons Clone_Matrix_ok T_nil))) Try.func87 (bodyOf_some (by kernel_rfl)) (by kernel_rfl) (loops_of (ks := []) (by kernel_rfl) trivial) impl_copyMachine_e
def impl_NewMachine_arg : Sh := ⟨[(0, .agg [.str, .rd [] .i64, .rd [] .i64]), (1, .c (.int .i64)), (2, .c (.int .i64)), (3, .agg [.int .i64, .int .i64, .int .i64])], [], []⟩
def impl_NewMachine_res : List Sh := [⟨[(0, .agg [.str, .own 0, .own 1, .own 2, .int .i64, .int .i64, .int .i64, .int .i64, .own 3, .own 4]), (1, .c (.bool))], [], [(0, .i64), (1, .i64), (2, .mats), (3, .mat), (4, .mat)]⟩]
noncomputable def impl_NewMachine (a0_0 : ByteArray) (a0_1 : List Int) (a0_2 : List Int) (a1 : Int) (a2 : Int) (a3_0 : Int) (a3_1 : Int) (a3_2 : Int) : Option (((ByteArray × Unit × Unit × Unit × Int × Int × Int × Int × Unit × Unit × Unit) × Bool × Unit) × Unit × (List Int × List Int × List (List (Int × Int)) × List (Int × Int) × List (Int × Int) × Unit)) :=
 (impl_FillMagazine a0_0 a0_1 a0_2 a1).bind fun r1 =>
 br (!r1.1.2.1)
 (some (((ByteArray.empty, (), (), (), (0 : Int), (0 : Int), (0 : Int), (0 : Int), (), (), ()), false, ()), (), ([], [], [], [], [], ())))
 ((impl_MachineOk a0_0 a0_1 a0_2 r1.2.2.1 a2 a3_0 a3_1 a3_2 [] []).bind fun r2 =>
 br (!r2.1.1)
 (some (((ByteArray.empty, (), (), (), (0 : Int), (0 : Int), (0 : Int), (0 : Int), (), (), ()), false, ()), (), ([], [], [], [], [], ())))
 ((impl_copyMachine a0_0 a0_1 a0_2 r1.2.2.1 a2 a3_0 a3_1 a3_2 [] []).bind fun r3 =>
 some (((r3.1.1.1, (), (), (), r3.1.1.2.2.2.2.1, r3.1.1.2.2.2.2.2.1, r3.1.1.2.2.2.2.2.2.1, r3.1.1.2.2.2.2.2.2.2.1, (), (), ()), true, ()), (), (r3.2.2.1, r3.2.2.2.1, r3.2.2.2.2.1, r3.2.2.2.2.2.1, r3.2.2.2.2.2.2.1, ()))))
noncomputable def impl_NewMachine_C : Ctr := ⟨33, impl_NewMachine_arg, impl_NewMachine_res, fun x => impl_NewMachine x.1.1.1 x.1.1.2.1 x.1.1.2.2.1 x.1.2.1 x.1.2.2.1 x.1.2.2.2.1.1 x.1.2.2.2.1.2.1 x.1.2.2.2.1.2.2.1, none⟩
def impl_NewMachine_H : Hint := ⟨[], [], [], fun _ => []⟩
noncomputable def impl_NewMachine_T : List Ctr := [impl_FillMagazine_C, impl_MachineOk_C, impl_copyMachine_C]
noncomputable def impl_NewMachine_Ls : List Lp := []
theorem impl_NewMachine_e : ∀ x, impl_NewMachine_C.F x = runBodyW E0 impl_NewMachine_T impl_NewMachine_Ls impl_NewMachine_H 33 Try.f33.results.toList (bodyOf Try.f33) [(.bx 8 1, 6000000, .i64), (.bx 8 2, 6000001, .i64), (.bx 8 3, 6000002, .mats), (.bx 8 8, 6000003, .mat), (.bx 8 9, 6000004, .mat)] (impl_NewMachine_arg.mk' x) impl_NewMachine_res := fun x => by kernel_rfl
theorem impl_NewMachine_ok : impl_NewMachine_C.Ok E0 := fn_ok (T := impl_NewMachine_T) (h := impl_NewMachine_H) (Ls := impl_NewMachine_Ls) E0_mixed (T_cons impl_FillMagazine_ok (T_cons impl_MachineOk_ok (T_cons impl_copyMachine_ok T_nil))) Try.func33 (bodyOf_some (by kernel_rfl)) (by kernel_rfl) (loops_of (ks := []) (by kernel_rfl) trivial) impl_NewMachine_e
def impl_NewDesk_arg : Sh := ⟨[], [], []⟩
def impl_NewDesk_res : List Sh := [⟨[(0, .agg [.str, .own 0, .own 1, .own 2, .int .i64, .int .i64, .int .i64, .int .i64, .own 3, .own 4, .nil])], [], [(0, .i64), (1, .i64), (2, .mats), (3, .mat), (4, .mat)]⟩]
noncomputable def impl_NewDesk : Option (((ByteArray × Unit × Unit × Unit × Int × Int × Int × Int × Unit × Unit × Unit × Unit) × Unit) × Unit × (List Int × List Int × List (List (Int × Int)) × List (Int × Int) × List (Int × Int) × Unit)) :=
 (impl_NewMachine (ByteArray.mk #[97, 101, 105, 110, 111, 115, 116]) [(5 : Int), (5 : Int), (3 : Int), (6 : Int), (6 : Int), (5 : Int), (4 : Int)] [(3 : Int), (5 : Int), (6 : Int), (9 : Int), (10 : Int), (12 : Int), (17 : Int)] (10 : Int) (20 : Int) (60 : Int) (2 : Int) (8 : Int)).bind fun r1 =>
 some (((r1.1.1.1, (), (), (), r1.1.1.2.2.2.2.1, r1.1.1.2.2.2.2.2.1, r1.1.1.2.2.2.2.2.2.1, r1.1.1.2.2.2.2.2.2.2.1, (), (), (), ()), ()), (), (r1.2.2.1, r1.2.2.2.1, r1.2.2.2.2.1, r1.2.2.2.2.2.1, r1.2.2.2.2.2.2.1, ()))
noncomputable def impl_NewDesk_C : Ctr := ⟨40, impl_NewDesk_arg, impl_NewDesk_res, fun x => impl_NewDesk, none⟩
def impl_NewDesk_H : Hint := ⟨[], [], [], fun _ => []⟩
noncomputable def impl_NewDesk_T : List Ctr := [impl_NewMachine_C]
noncomputable def impl_NewDesk_Ls : List Lp := []
theorem impl_NewDesk_e : ∀ x, impl_NewDesk_C.F x = runBodyW E0 impl_NewDesk_T impl_NewDesk_Ls impl_NewDesk_H 40 Try.f40.results.toList (bodyOf Try.f40) [] (impl_NewDesk_arg.mk' x) impl_NewDesk_res := fun x => by kernel_rfl
theorem impl_NewDesk_ok : impl_NewDesk_C.Ok E0 := fn_ok (T := impl_NewDesk_T) (h := impl_NewDesk_H) (Ls := impl_NewDesk_Ls) E0_mixed (T_cons impl_NewMachine_ok T_nil) Try.func40 (bodyOf_some (by kernel_rfl)) (by kernel_rfl) (loops_of (ks := []) (by kernel_rfl) trivial) impl_NewDesk_e
def laws_eqIntS_arg : Sh := ⟨[(0, .c (.rd [] .i64)), (1, .c (.rd [] .i64))], [], []⟩
def laws_eqIntS_res : List Sh := [⟨[(0, .c (.bool))], [], []⟩]
noncomputable def laws_eqIntS_s0 (x : (List Int × List Int × Int × Unit) × Unit × Unit) : Option (((List Int × List Int × Int × Unit) × Unit × Unit) ⊕ (((Bool × Unit) × Unit × Unit) ⊕ (Unit × Unit × Unit))) :=
 let x2 : Bool := decide (x.1.2.2.1 < (x.1.1.length : Int));
 br x2
 (ck (0 ≤ x.1.2.2.1)
 (ck (x.1.2.2.1.toNat < x.1.1.length)
 (let x3 : Int := x.1.1.getD x.1.2.2.1.toNat 0;
 ck (0 ≤ x.1.2.2.1)
 (ck (x.1.2.2.1.toNat < x.1.2.1.length)
 (let x4 : Int := x.1.2.1.getD x.1.2.2.1.toNat 0;
 let x5 : Bool := x3 != x4;
 br x5
 (some (.inr (.inl ((false, ()), (), ()))))
 (let x6 : Int := w64 (x.1.2.2.1 + (1 : Int));
 some (.inl ((x.1.1, x.1.2.1, x6, ()), (), ()))))))))
 (some (.inr (.inr ((), (), ()))))
def laws_eqIntS_h0 : Sh := ⟨[(0, .c (.rd [] .i64)), (1, .c (.rd [] .i64)), (5, .c (.int .i64))], [], []⟩
def laws_eqIntS_r0 : List Sh := [⟨[(4, .c (.bool))], [], []⟩, ⟨[], [], []⟩]
noncomputable def laws_eqIntS_L0 : Lp := ⟨0, [], laws_eqIntS_h0, [], [(.ret, []), (.exit 0, [])], laws_eqIntS_r0, loopC laws_eqIntS_s0⟩
noncomputable def laws_eqIntS (a0 : List Int) (a1 : List Int) : Option ((Bool × Unit) × Unit × Unit) :=
 let x1 : Bool := (a0.length : Int) != (a1.length : Int);
 br x1
 (some ((false, ()), (), ()))
 ((loopC laws_eqIntS_s0 ((a0, a1, (0 : Int), ()), (), ())).bind fun r7 =>
 sumK r7 (fun y10 =>
 some ((y10.1.1, ()), (), ())) (fun y11 =>
 some ((true, ()), (), ())))
noncomputable def laws_eqIntS_C : Ctr := ⟨23, laws_eqIntS_arg, laws_eqIntS_res, fun x => laws_eqIntS x.1.1 x.1.2.1, none⟩
def laws_eqIntS_H : Hint := ⟨[], [], [], fun _ => []⟩
noncomputable def laws_eqIntS_T : List Ctr := []
noncomputable def laws_eqIntS_Ls : List Lp := [laws_eqIntS_L0]
theorem laws_eqIntS_l0 : ∀ x, laws_eqIntS_s0 x = stepW E0 laws_eqIntS_T laws_eqIntS_Ls laws_eqIntS_H (loopAt (bodyOf Try.f23) 0) 0 laws_eqIntS_h0 [] [(.ret, []), (.exit 0, [])] laws_eqIntS_r0 x := fun x => by kernel_rfl
theorem laws_eqIntS_e : ∀ x, laws_eqIntS_C.F x = runBodyW E0 laws_eqIntS_T laws_eqIntS_Ls laws_eqIntS_H 23 Try.f23.results.toList (bodyOf Try.f23) [] (laws_eqIntS_arg.mk' x) laws_eqIntS_res := fun x => by kernel_rfl
theorem laws_eqIntS_ok : laws_eqIntS_C.Ok E0 := fn_ok (T := laws_eqIntS_T) (h := laws_eqIntS_H) (Ls := laws_eqIntS_Ls) E0_mixed T_nil Try.func23 (bodyOf_some (by kernel_rfl)) (by kernel_rfl) (loops_of (ks := [0]) (by kernel_rfl) ⟨(loop_one (h := laws_eqIntS_H) (own := []) (head := laws_eqIntS_h0) (back := []) (exs := [(.ret, []), (.exit 0, [])]) (res := laws_eqIntS_r0) (step := laws_eqIntS_s0) (by kernel_rfl) laws_eqIntS_l0), trivial⟩) laws_eqIntS_e
def laws_eqFont_arg : Sh := ⟨[(0, .agg [.str, .rd [] .i64, .rd [] .i64]), (1, .agg [.str, .rd [] .i64, .rd [] .i64])], [], []⟩
def laws_eqFont_res : List Sh := [⟨[(0, .c (.bool))], [], []⟩]
noncomputable def laws_eqFont (a0_0 : ByteArray) (a0_1 : List Int) (a0_2 : List Int) (a1_0 : ByteArray) (a1_1 : List Int) (a1_2 : List Int) : Option ((Bool × Unit) × Unit × Unit) :=
 let x1 : Bool := !strEq a0_0 a1_0;
 br x1
 (some ((false, ()), (), ()))
 ((laws_eqIntS a0_1 a1_1).bind fun r2 =>
 br (!r2.1.1)
 (some ((false, ()), (), ()))
 ((laws_eqIntS a0_2 a1_2).bind fun r3 =>
 br (!r3.1.1)
 (some ((false, ()), (), ()))
 (some ((true, ()), (), ()))))
noncomputable def laws_eqFont_C : Ctr := ⟨34, laws_eqFont_arg, laws_eqFont_res, fun x => laws_eqFont x.1.1.1 x.1.1.2.1 x.1.1.2.2.1 x.1.2.1.1 x.1.2.1.2.1 x.1.2.1.2.2.1, none⟩
def laws_eqFont_H : Hint := ⟨[], [], [], fun _ => []⟩
noncomputable def laws_eqFont_T : List Ctr := [laws_eqIntS_C]
noncomputable def laws_eqFont_Ls : List Lp := []
theorem laws_eqFont_e : ∀ x, laws_eqFont_C.F x = runBodyW E0 laws_eqFont_T laws_eqFont_Ls laws_eqFont_H 34 Try.f34.results.toList (bodyOf Try.f34) [] (laws_eqFont_arg.mk' x) laws_eqFont_res := fun x => by kernel_rfl
theorem laws_eqFont_ok : laws_eqFont_C.Ok E0 := fn_ok (T := laws_eqFont_T) (h := laws_eqFont_H) (Ls := laws_eqFont_Ls) E0_mixed (T_cons laws_eqIntS_ok T_nil) Try.func34 (bodyOf_some (by kernel_rfl)) (by kernel_rfl) (loops_of (ks := []) (by kernel_rfl) trivial) laws_eqFont_e
def laws_eqMatrix_arg : Sh := ⟨[(0, .agg [.int .i64, .int .i64]), (1, .agg [.int .i64, .int .i64])], [], []⟩
def laws_eqMatrix_res : List Sh := [⟨[(0, .c (.bool))], [], []⟩]
noncomputable def laws_eqMatrix (a0_0 : Int) (a0_1 : Int) (a1_0 : Int) (a1_1 : Int) : Option ((Bool × Unit) × Unit × Unit) :=
 let x1 : Bool := a0_0 != a1_0;
 br x1
 (some ((false, ()), (), ()))
 (let x2 : Bool := a0_1 != a1_1;
 br x2
 (some ((false, ()), (), ()))
 (some ((true, ()), (), ())))
noncomputable def laws_eqMatrix_C : Ctr := ⟨120, laws_eqMatrix_arg, laws_eqMatrix_res, fun x => laws_eqMatrix x.1.1.1 x.1.1.2.1 x.1.2.1.1 x.1.2.1.2.1, none⟩
def laws_eqMatrix_H : Hint := ⟨[], [], [], fun _ => []⟩
noncomputable def laws_eqMatrix_T : List Ctr := []
noncomputable def laws_eqMatrix_Ls : List Lp := []
theorem laws_eqMatrix_e : ∀ x, laws_eqMatrix_C.F x = runBodyW E0 laws_eqMatrix_T laws_eqMatrix_Ls laws_eqMatrix_H 120 Try.f120.results.toList (bodyOf Try.f120) [] (laws_eqMatrix_arg.mk' x) laws_eqMatrix_res := fun x => by kernel_rfl
theorem laws_eqMatrix_ok : laws_eqMatrix_C.Ok E0 := fn_ok (T := laws_eqMatrix_T) (h := laws_eqMatrix_H) (Ls := laws_eqMatrix_Ls) E0_mixed T_nil Try.func120 (bodyOf_some (by kernel_rfl)) (by kernel_rfl) (loops_of (ks := []) (by kernel_rfl) trivial) laws_eqMatrix_e
def laws_eqMatrixS_arg : Sh := ⟨[(0, .c (.rd [] .mat)), (1, .c (.rd [] .mat))], [], []⟩
def laws_eqMatrixS_res : List Sh := [⟨[(0, .c (.bool))], [], []⟩]
noncomputable def laws_eqMatrixS_s0 (x : (List (Int × Int) × List (Int × Int) × Int × Unit) × Unit × Unit) : Option (((List (Int × Int) × List (Int × Int) × Int × Unit) × Unit × Unit) ⊕ (((Bool × Unit) × Unit × Unit) ⊕ (Unit × Unit × Unit))) :=
 let x2 : Bool := decide (x.1.2.2.1 < (x.1.1.length : Int));
 br x2
 (ck (0 ≤ x.1.2.2.1)
 (ck (x.1.2.2.1.toNat < x.1.1.length)
 (let x3 : Int × Int := x.1.1.getD x.1.2.2.1.toNat (0, 0);
 ck (0 ≤ x.1.2.2.1)
 (ck (x.1.2.2.1.toNat < x.1.2.1.length)
 (let x4 : Int × Int := x.1.2.1.getD x.1.2.2.1.toNat (0, 0);
 (laws_eqMatrix x3.1 x3.2 x4.1 x4.2).bind fun r5 =>
 br (!r5.1.1)
 (some (.inr (.inl ((false, ()), (), ()))))
 (let x6 : Int := w64 (x.1.2.2.1 + (1 : Int));
 some (.inl ((x.1.1, x.1.2.1, x6, ()), (), ()))))))))
 (some (.inr (.inr ((), (), ()))))
def laws_eqMatrixS_h0 : Sh := ⟨[(0, .c (.rd [] .mat)), (1, .c (.rd [] .mat)), (5, .c (.int .i64))], [], []⟩
def laws_eqMatrixS_r0 : List Sh := [⟨[(4, .c (.bool))], [], []⟩, ⟨[], [], []⟩]
noncomputable def laws_eqMatrixS_L0 : Lp := ⟨0, [], laws_eqMatrixS_h0, [], [(.ret, []), (.exit 0, [])], laws_eqMatrixS_r0, loopC laws_eqMatrixS_s0⟩
noncomputable def laws_eqMatrixS (a0 : List (Int × Int)) (a1 : List (Int × Int)) : Option ((Bool × Unit) × Unit × Unit) :=
 let x1 : Bool := (a0.length : Int) != (a1.length : Int);
 br x1
 (some ((false, ()), (), ()))
 ((loopC laws_eqMatrixS_s0 ((a0, a1, (0 : Int), ()), (), ())).bind fun r7 =>
 sumK r7 (fun y10 =>
 some ((y10.1.1, ()), (), ())) (fun y11 =>
 some ((true, ()), (), ())))
noncomputable def laws_eqMatrixS_C : Ctr := ⟨75, laws_eqMatrixS_arg, laws_eqMatrixS_res, fun x => laws_eqMatrixS x.1.1 x.1.2.1, none⟩
def laws_eqMatrixS_H : Hint := ⟨[], [], [], fun _ => []⟩
noncomputable def laws_eqMatrixS_T : List Ctr := [laws_eqMatrix_C]
noncomputable def laws_eqMatrixS_Ls : List Lp := [laws_eqMatrixS_L0]
theorem laws_eqMatrixS_l0 : ∀ x, laws_eqMatrixS_s0 x = stepW E0 laws_eqMatrixS_T laws_eqMatrixS_Ls laws_eqMatrixS_H (loopAt (bodyOf Try.f75) 0) 0 laws_eqMatrixS_h0 [] [(.ret, []), (.exit 0, [])] laws_eqMatrixS_r0 x := fun x => by kernel_rfl
theorem laws_eqMatrixS_e : ∀ x, laws_eqMatrixS_C.F x = runBodyW E0 laws_eqMatrixS_T laws_eqMatrixS_Ls laws_eqMatrixS_H 75 Try.f75.results.toList (bodyOf Try.f75) [] (laws_eqMatrixS_arg.mk' x) laws_eqMatrixS_res := fun x => by kernel_rfl
theorem laws_eqMatrixS_ok : laws_eqMatrixS_C.Ok E0 := fn_ok (T := laws_eqMatrixS_T) (h := laws_eqMatrixS_H) (Ls := laws_eqMatrixS_Ls) E0_mixed (T_cons laws_eqMatrix_ok T_nil) Try.func75 (bodyOf_some (by kernel_rfl)) (by kernel_rfl) (loops_of (ks := [0]) (by kernel_rfl) ⟨(loop_one (h := laws_eqMatrixS_H) (own := []) (head := laws_eqMatrixS_h0) (back := []) (exs := [(.ret, []), (.exit 0, [])]) (res := laws_eqMatrixS_r0) (step := laws_eqMatrixS_s0) (by kernel_rfl) laws_eqMatrixS_l0), trivial⟩) laws_eqMatrixS_e
def laws_eqMatrixSS_arg : Sh := ⟨[(0, .c (.rd [] .mats)), (1, .c (.rd [] .mats))], [], []⟩
def laws_eqMatrixSS_res : List Sh := [⟨[(0, .c (.bool))], [], []⟩]
noncomputable def laws_eqMatrixSS_s0 (x : (List (List (Int × Int)) × List (List (Int × Int)) × Int × Unit) × Unit × Unit) : Option (((List (List (Int × Int)) × List (List (Int × Int)) × Int × Unit) × Unit × Unit) ⊕ (((Bool × Unit) × Unit × Unit) ⊕ (Unit × Unit × Unit))) :=
 let x2 : Bool := decide (x.1.2.2.1 < (x.1.1.length : Int));
 br x2
 (ck (0 ≤ x.1.2.2.1)
 (ck (x.1.2.2.1.toNat < x.1.1.length)
 (let x3 : List (Int × Int) := x.1.1.getD x.1.2.2.1.toNat [];
 ck (0 ≤ x.1.2.2.1)
 (ck (x.1.2.2.1.toNat < x.1.2.1.length)
 (let x4 : List (Int × Int) := x.1.2.1.getD x.1.2.2.1.toNat [];
 (laws_eqMatrixS x3 x4).bind fun r5 =>
 br (!r5.1.1)
 (some (.inr (.inl ((false, ()), (), ()))))
 (let x6 : Int := w64 (x.1.2.2.1 + (1 : Int));
 some (.inl ((x.1.1, x.1.2.1, x6, ()), (), ()))))))))
 (some (.inr (.inr ((), (), ()))))
def laws_eqMatrixSS_h0 : Sh := ⟨[(0, .c (.rd [] .mats)), (1, .c (.rd [] .mats)), (5, .c (.int .i64))], [], []⟩
def laws_eqMatrixSS_r0 : List Sh := [⟨[(4, .c (.bool))], [], []⟩, ⟨[], [], []⟩]
noncomputable def laws_eqMatrixSS_L0 : Lp := ⟨0, [], laws_eqMatrixSS_h0, [], [(.ret, []), (.exit 0, [])], laws_eqMatrixSS_r0, loopC laws_eqMatrixSS_s0⟩
noncomputable def laws_eqMatrixSS (a0 : List (List (Int × Int))) (a1 : List (List (Int × Int))) : Option ((Bool × Unit) × Unit × Unit) :=
 let x1 : Bool := (a0.length : Int) != (a1.length : Int);
 br x1
 (some ((false, ()), (), ()))
 ((loopC laws_eqMatrixSS_s0 ((a0, a1, (0 : Int), ()), (), ())).bind fun r7 =>
 sumK r7 (fun y10 =>
 some ((y10.1.1, ()), (), ())) (fun y11 =>
 some ((true, ()), (), ())))
noncomputable def laws_eqMatrixSS_C : Ctr := ⟨73, laws_eqMatrixSS_arg, laws_eqMatrixSS_res, fun x => laws_eqMatrixSS x.1.1 x.1.2.1, none⟩
def laws_eqMatrixSS_H : Hint := ⟨[], [], [], fun _ => []⟩
noncomputable def laws_eqMatrixSS_T : List Ctr := [laws_eqMatrixS_C]
noncomputable def laws_eqMatrixSS_Ls : List Lp := [laws_eqMatrixSS_L0]
theorem laws_eqMatrixSS_l0 : ∀ x, laws_eqMatrixSS_s0 x = stepW E0 laws_eqMatrixSS_T laws_eqMatrixSS_Ls laws_eqMatrixSS_H (loopAt (bodyOf Try.f73) 0) 0 laws_eqMatrixSS_h0 [] [(.ret, []), (.exit 0, [])] laws_eqMatrixSS_r0 x := fun x => by kernel_rfl
theorem laws_eqMatrixSS_e : ∀ x, laws_eqMatrixSS_C.F x = runBodyW E0 laws_eqMatrixSS_T laws_eqMatrixSS_Ls laws_eqMatrixSS_H 73 Try.f73.results.toList (bodyOf Try.f73) [] (laws_eqMatrixSS_arg.mk' x) laws_eqMatrixSS_res := fun x => by kernel_rfl
theorem laws_eqMatrixSS_ok : laws_eqMatrixSS_C.Ok E0 := fn_ok (T := laws_eqMatrixSS_T) (h := laws_eqMatrixSS_H) (Ls := laws_eqMatrixSS_Ls) E0_mixed (T_cons laws_eqMatrixS_ok T_nil) Try.func73 (bodyOf_some (by kernel_rfl)) (by kernel_rfl) (loops_of (ks := [0]) (by kernel_rfl) ⟨(loop_one (h := laws_eqMatrixSS_H) (own := []) (head := laws_eqMatrixSS_h0) (back := []) (exs := [(.ret, []), (.exit 0, [])]) (res := laws_eqMatrixSS_r0) (step := laws_eqMatrixSS_s0) (by kernel_rfl) laws_eqMatrixSS_l0), trivial⟩) laws_eqMatrixSS_e
def laws_eqMeasure_arg : Sh := ⟨[(0, .agg [.int .i64, .int .i64, .int .i64]), (1, .agg [.int .i64, .int .i64, .int .i64])], [], []⟩
def laws_eqMeasure_res : List Sh := [⟨[(0, .c (.bool))], [], []⟩]
noncomputable def laws_eqMeasure (a0_0 : Int) (a0_1 : Int) (a0_2 : Int) (a1_0 : Int) (a1_1 : Int) (a1_2 : Int) : Option ((Bool × Unit) × Unit × Unit) :=
 let x1 : Bool := a0_0 != a1_0;
 br x1
 (some ((false, ()), (), ()))
 (let x2 : Bool := a0_1 != a1_1;
 br x2
 (some ((false, ()), (), ()))
 (let x3 : Bool := a0_2 != a1_2;
 br x3
 (some ((false, ()), (), ()))
 (some ((true, ()), (), ()))))
noncomputable def laws_eqMeasure_C : Ctr := ⟨74, laws_eqMeasure_arg, laws_eqMeasure_res, fun x => laws_eqMeasure x.1.1.1 x.1.1.2.1 x.1.1.2.2.1 x.1.2.1.1 x.1.2.1.2.1 x.1.2.1.2.2.1, none⟩
def laws_eqMeasure_H : Hint := ⟨[], [], [], fun _ => []⟩
noncomputable def laws_eqMeasure_T : List Ctr := []
noncomputable def laws_eqMeasure_Ls : List Lp := []
theorem laws_eqMeasure_e : ∀ x, laws_eqMeasure_C.F x = runBodyW E0 laws_eqMeasure_T laws_eqMeasure_Ls laws_eqMeasure_H 74 Try.f74.results.toList (bodyOf Try.f74) [] (laws_eqMeasure_arg.mk' x) laws_eqMeasure_res := fun x => by kernel_rfl
theorem laws_eqMeasure_ok : laws_eqMeasure_C.Ok E0 := fn_ok (T := laws_eqMeasure_T) (h := laws_eqMeasure_H) (Ls := laws_eqMeasure_Ls) E0_mixed T_nil Try.func74 (bodyOf_some (by kernel_rfl)) (by kernel_rfl) (loops_of (ks := []) (by kernel_rfl) trivial) laws_eqMeasure_e
def laws_eqMachine_arg : Sh := ⟨[(0, .agg [.str, .rd [] .i64, .rd [] .i64, .rd [] .mats, .int .i64, .int .i64, .int .i64, .int .i64, .rd [] .mat, .rd [] .mat]), (1, .agg [.str, .rd [] .i64, .rd [] .i64, .rd [] .mats, .int .i64, .int .i64, .int .i64, .int .i64, .rd [] .mat, .rd [] .mat])], [], []⟩
def laws_eqMachine_res : List Sh := [⟨[(0, .c (.bool))], [], []⟩]
noncomputable def laws_eqMachine (a0_0 : ByteArray) (a0_1 : List Int) (a0_2 : List Int) (a0_3 : List (List (Int × Int))) (a0_4 : Int) (a0_5 : Int) (a0_6 : Int) (a0_7 : Int) (a0_8 : List (Int × Int)) (a0_9 : List (Int × Int)) (a1_0 : ByteArray) (a1_1 : List Int) (a1_2 : List Int) (a1_3 : List (List (Int × Int))) (a1_4 : Int) (a1_5 : Int) (a1_6 : Int) (a1_7 : Int) (a1_8 : List (Int × Int)) (a1_9 : List (Int × Int)) : Option ((Bool × Unit) × Unit × Unit) :=
 (laws_eqFont a0_0 a0_1 a0_2 a1_0 a1_1 a1_2).bind fun r1 =>
 br (!r1.1.1)
 (some ((false, ()), (), ()))
 ((laws_eqMatrixSS a0_3 a1_3).bind fun r2 =>
 br (!r2.1.1)
 (some ((false, ()), (), ()))
 (let x3 : Bool := a0_4 != a1_4;
 br x3
 (some ((false, ()), (), ()))
 ((laws_eqMeasure a0_5 a0_6 a0_7 a1_5 a1_6 a1_7).bind fun r4 =>
 br (!r4.1.1)
 (some ((false, ()), (), ()))
 ((laws_eqMatrixS a0_8 a1_8).bind fun r5 =>
 br (!r5.1.1)
 (some ((false, ()), (), ()))
 ((laws_eqMatrixS a0_9 a1_9).bind fun r6 =>
 br (!r6.1.1)
 (some ((false, ()), (), ()))
 (some ((true, ()), (), ())))))))
noncomputable def laws_eqMachine_C : Ctr := ⟨18, laws_eqMachine_arg, laws_eqMachine_res, fun x => laws_eqMachine x.1.1.1 x.1.1.2.1 x.1.1.2.2.1 x.1.1.2.2.2.1 x.1.1.2.2.2.2.1 x.1.1.2.2.2.2.2.1 x.1.1.2.2.2.2.2.2.1 x.1.1.2.2.2.2.2.2.2.1 x.1.1.2.2.2.2.2.2.2.2.1 x.1.1.2.2.2.2.2.2.2.2.2.1 x.1.2.1.1 x.1.2.1.2.1 x.1.2.1.2.2.1 x.1.2.1.2.2.2.1 x.1.2.1.2.2.2.2.1 x.1.2.1.2.2.2.2.2.1 x.1.2.1.2.2.2.2.2.2.1 x.1.2.1.2.2.2.2.2.2.2.1 x.1.2.1.2.2.2.2.2.2.2.2.1 x.1.2.1.2.2.2.2.2.2.2.2.2.1, none⟩
def laws_eqMachine_H : Hint := ⟨[], [], [], fun _ => []⟩
noncomputable def laws_eqMachine_T : List Ctr := [laws_eqFont_C, laws_eqMatrixSS_C, laws_eqMeasure_C, laws_eqMatrixS_C]
noncomputable def laws_eqMachine_Ls : List Lp := []
theorem laws_eqMachine_e : ∀ x, laws_eqMachine_C.F x = runBodyW E0 laws_eqMachine_T laws_eqMachine_Ls laws_eqMachine_H 18 Try.f18.results.toList (bodyOf Try.f18) [] (laws_eqMachine_arg.mk' x) laws_eqMachine_res := fun x => by kernel_rfl
theorem laws_eqMachine_ok : laws_eqMachine_C.Ok E0 := fn_ok (T := laws_eqMachine_T) (h := laws_eqMachine_H) (Ls := laws_eqMachine_Ls) E0_mixed (T_cons laws_eqFont_ok (T_cons laws_eqMatrixSS_ok (T_cons laws_eqMeasure_ok (T_cons laws_eqMatrixS_ok T_nil)))) Try.func18 (bodyOf_some (by kernel_rfl)) (by kernel_rfl) (loops_of (ks := []) (by kernel_rfl) trivial) laws_eqMachine_e
def laws_eqStringS_arg : Sh := ⟨[(0, .c (.rd [] .str)), (1, .c (.rd [] .str))], [], []⟩
def laws_eqStringS_res : List Sh := [⟨[(0, .c (.bool))], [], []⟩]
noncomputable def laws_eqStringS_s0 (x : (List ByteArray × List ByteArray × Int × Unit) × Unit × Unit) : Option (((List ByteArray × List ByteArray × Int × Unit) × Unit × Unit) ⊕ (((Bool × Unit) × Unit × Unit) ⊕ (Unit × Unit × Unit))) :=
 let x2 : Bool := decide (x.1.2.2.1 < (x.1.1.length : Int));
 br x2
 (ck (0 ≤ x.1.2.2.1)
 (ck (x.1.2.2.1.toNat < x.1.1.length)
 (let x3 : ByteArray := x.1.1.getD x.1.2.2.1.toNat ByteArray.empty;
 ck (0 ≤ x.1.2.2.1)
 (ck (x.1.2.2.1.toNat < x.1.2.1.length)
 (let x4 : ByteArray := x.1.2.1.getD x.1.2.2.1.toNat ByteArray.empty;
 let x5 : Bool := !strEq x3 x4;
 br x5
 (some (.inr (.inl ((false, ()), (), ()))))
 (let x6 : Int := w64 (x.1.2.2.1 + (1 : Int));
 some (.inl ((x.1.1, x.1.2.1, x6, ()), (), ()))))))))
 (some (.inr (.inr ((), (), ()))))
def laws_eqStringS_h0 : Sh := ⟨[(0, .c (.rd [] .str)), (1, .c (.rd [] .str)), (5, .c (.int .i64))], [], []⟩
def laws_eqStringS_r0 : List Sh := [⟨[(4, .c (.bool))], [], []⟩, ⟨[], [], []⟩]
noncomputable def laws_eqStringS_L0 : Lp := ⟨0, [], laws_eqStringS_h0, [], [(.ret, []), (.exit 0, [])], laws_eqStringS_r0, loopC laws_eqStringS_s0⟩
noncomputable def laws_eqStringS (a0 : List ByteArray) (a1 : List ByteArray) : Option ((Bool × Unit) × Unit × Unit) :=
 let x1 : Bool := (a0.length : Int) != (a1.length : Int);
 br x1
 (some ((false, ()), (), ()))
 ((loopC laws_eqStringS_s0 ((a0, a1, (0 : Int), ()), (), ())).bind fun r7 =>
 sumK r7 (fun y10 =>
 some ((y10.1.1, ()), (), ())) (fun y11 =>
 some ((true, ()), (), ())))
noncomputable def laws_eqStringS_C : Ctr := ⟨93, laws_eqStringS_arg, laws_eqStringS_res, fun x => laws_eqStringS x.1.1 x.1.2.1, none⟩
def laws_eqStringS_H : Hint := ⟨[], [], [], fun _ => []⟩
noncomputable def laws_eqStringS_T : List Ctr := []
noncomputable def laws_eqStringS_Ls : List Lp := [laws_eqStringS_L0]
theorem laws_eqStringS_l0 : ∀ x, laws_eqStringS_s0 x = stepW E0 laws_eqStringS_T laws_eqStringS_Ls laws_eqStringS_H (loopAt (bodyOf Try.f93) 0) 0 laws_eqStringS_h0 [] [(.ret, []), (.exit 0, [])] laws_eqStringS_r0 x := fun x => by kernel_rfl
theorem laws_eqStringS_e : ∀ x, laws_eqStringS_C.F x = runBodyW E0 laws_eqStringS_T laws_eqStringS_Ls laws_eqStringS_H 93 Try.f93.results.toList (bodyOf Try.f93) [] (laws_eqStringS_arg.mk' x) laws_eqStringS_res := fun x => by kernel_rfl
theorem laws_eqStringS_ok : laws_eqStringS_C.Ok E0 := fn_ok (T := laws_eqStringS_T) (h := laws_eqStringS_H) (Ls := laws_eqStringS_Ls) E0_mixed T_nil Try.func93 (bodyOf_some (by kernel_rfl)) (by kernel_rfl) (loops_of (ks := [0]) (by kernel_rfl) ⟨(loop_one (h := laws_eqStringS_H) (own := []) (head := laws_eqStringS_h0) (back := []) (exs := [(.ret, []), (.exit 0, [])]) (res := laws_eqStringS_r0) (step := laws_eqStringS_s0) (by kernel_rfl) laws_eqStringS_l0), trivial⟩) laws_eqStringS_e
def laws_eqDesk_arg : Sh := ⟨[(0, .agg [.str, .rd [] .i64, .rd [] .i64, .rd [] .mats, .int .i64, .int .i64, .int .i64, .int .i64, .rd [] .mat, .rd [] .mat, .rd [] .str]), (1, .agg [.str, .rd [] .i64, .rd [] .i64, .rd [] .mats, .int .i64, .int .i64, .int .i64, .int .i64, .rd [] .mat, .rd [] .mat, .rd [] .str])], [], []⟩
def laws_eqDesk_res : List Sh := [⟨[(0, .c (.bool))], [], []⟩]
noncomputable def laws_eqDesk (a0_0 : ByteArray) (a0_1 : List Int) (a0_2 : List Int) (a0_3 : List (List (Int × Int))) (a0_4 : Int) (a0_5 : Int) (a0_6 : Int) (a0_7 : Int) (a0_8 : List (Int × Int)) (a0_9 : List (Int × Int)) (a0_10 : List ByteArray) (a1_0 : ByteArray) (a1_1 : List Int) (a1_2 : List Int) (a1_3 : List (List (Int × Int))) (a1_4 : Int) (a1_5 : Int) (a1_6 : Int) (a1_7 : Int) (a1_8 : List (Int × Int)) (a1_9 : List (Int × Int)) (a1_10 : List ByteArray) : Option ((Bool × Unit) × Unit × Unit) :=
 (laws_eqMachine a0_0 a0_1 a0_2 a0_3 a0_4 a0_5 a0_6 a0_7 a0_8 a0_9 a1_0 a1_1 a1_2 a1_3 a1_4 a1_5 a1_6 a1_7 a1_8 a1_9).bind fun r1 =>
 br (!r1.1.1)
 (some ((false, ()), (), ()))
 ((laws_eqStringS a0_10 a1_10).bind fun r2 =>
 br (!r2.1.1)
 (some ((false, ()), (), ()))
 (some ((true, ()), (), ())))
noncomputable def laws_eqDesk_C : Ctr := ⟨41, laws_eqDesk_arg, laws_eqDesk_res, fun x => laws_eqDesk x.1.1.1 x.1.1.2.1 x.1.1.2.2.1 x.1.1.2.2.2.1 x.1.1.2.2.2.2.1 x.1.1.2.2.2.2.2.1 x.1.1.2.2.2.2.2.2.1 x.1.1.2.2.2.2.2.2.2.1 x.1.1.2.2.2.2.2.2.2.2.1 x.1.1.2.2.2.2.2.2.2.2.2.1 x.1.1.2.2.2.2.2.2.2.2.2.2.1 x.1.2.1.1 x.1.2.1.2.1 x.1.2.1.2.2.1 x.1.2.1.2.2.2.1 x.1.2.1.2.2.2.2.1 x.1.2.1.2.2.2.2.2.1 x.1.2.1.2.2.2.2.2.2.1 x.1.2.1.2.2.2.2.2.2.2.1 x.1.2.1.2.2.2.2.2.2.2.2.1 x.1.2.1.2.2.2.2.2.2.2.2.2.1 x.1.2.1.2.2.2.2.2.2.2.2.2.2.1, none⟩
def laws_eqDesk_H : Hint := ⟨[], [], [], fun _ => []⟩
noncomputable def laws_eqDesk_T : List Ctr := [laws_eqMachine_C, laws_eqStringS_C]
noncomputable def laws_eqDesk_Ls : List Lp := []
theorem laws_eqDesk_e : ∀ x, laws_eqDesk_C.F x = runBodyW E0 laws_eqDesk_T laws_eqDesk_Ls laws_eqDesk_H 41 Try.f41.results.toList (bodyOf Try.f41) [] (laws_eqDesk_arg.mk' x) laws_eqDesk_res := fun x => by kernel_rfl
theorem laws_eqDesk_ok : laws_eqDesk_C.Ok E0 := fn_ok (T := laws_eqDesk_T) (h := laws_eqDesk_H) (Ls := laws_eqDesk_Ls) E0_mixed (T_cons laws_eqMachine_ok (T_cons laws_eqStringS_ok T_nil)) Try.func41 (bodyOf_some (by kernel_rfl)) (by kernel_rfl) (loops_of (ks := []) (by kernel_rfl) trivial) laws_eqDesk_e
def laws_markIntS_arg : Sh := ⟨[(0, .c (.own 0)), (1, .c (.int .i64))], [], [(0, .i64)]⟩
def laws_markIntS_res : List Sh := [⟨[(0, .c (.int .i64)), (1, .c (.own 0))], [], [(0, .i64)]⟩]
noncomputable def laws_markIntS_s0 (x : (Unit × Int × Int × Unit) × Unit × (List Int × Unit)) : Option (((Unit × Int × Int × Unit) × Unit × (List Int × Unit)) ⊕ ((Unit × Int × Unit) × Unit × (List Int × Unit))) :=
 let x1 : Bool := decide (x.1.2.2.1 < (x.2.2.1.length : Int));
 br x1
 (ck (0 ≤ x.1.2.2.1)
 (ck (x.1.2.2.1.toNat < x.2.2.1.length)
 (ck (x.1.2.2.1.toNat < x.2.2.1.length)
 (let x2 : List Int := x.2.2.1.set x.1.2.2.1.toNat x.1.2.1;
 let x3 : Int := w64 (x.1.2.1 + (1 : Int));
 let x4 : Int := w64 (x.1.2.2.1 + (1 : Int));
 some (.inl (((), x3, x4, ()), (), (x2, ())))))))
 (some (.inr (((), x.1.2.1, ()), (), (x.2.2.1, ()))))
def laws_markIntS_h0 : Sh := ⟨[(0, .c (.own 0)), (1, .c (.int .i64)), (5, .c (.int .i64))], [], [(0, .i64)]⟩
def laws_markIntS_r0 : List Sh := [⟨[(0, .c (.own 0)), (1, .c (.int .i64))], [], [(0, .i64)]⟩]
noncomputable def laws_markIntS_L0 : Lp := ⟨0, [], laws_markIntS_h0, [], [(.exit 0, [])], laws_markIntS_r0, loopC laws_markIntS_s0⟩
noncomputable def laws_markIntS (a1 : Int) (o0 : List Int) : Option ((Int × Unit × Unit) × Unit × (List Int × Unit)) :=
 (loopC laws_markIntS_s0 (((), a1, (0 : Int), ()), (), (o0, ()))).bind fun r5 =>
 some ((r5.1.2.1, (), ()), (), (r5.2.2.1, ()))
noncomputable def laws_markIntS_C : Ctr := ⟨25, laws_markIntS_arg, laws_markIntS_res, fun x => laws_markIntS x.1.2.1 x.2.2.1, none⟩
def laws_markIntS_H : Hint := ⟨[], [], [], fun _ => []⟩
noncomputable def laws_markIntS_T : List Ctr := []
noncomputable def laws_markIntS_Ls : List Lp := [laws_markIntS_L0]
theorem laws_markIntS_l0 : ∀ x, laws_markIntS_s0 x = stepW E0 laws_markIntS_T laws_markIntS_Ls laws_markIntS_H (loopAt (bodyOf Try.f25) 0) 0 laws_markIntS_h0 [] [(.exit 0, [])] laws_markIntS_r0 x := fun x => by kernel_rfl
theorem laws_markIntS_e : ∀ x, laws_markIntS_C.F x = runBodyW E0 laws_markIntS_T laws_markIntS_Ls laws_markIntS_H 25 Try.f25.results.toList (bodyOf Try.f25) [] (laws_markIntS_arg.mk' x) laws_markIntS_res := fun x => by kernel_rfl
theorem laws_markIntS_ok : laws_markIntS_C.Ok E0 := fn_ok (T := laws_markIntS_T) (h := laws_markIntS_H) (Ls := laws_markIntS_Ls) E0_mixed T_nil Try.func25 (bodyOf_some (by kernel_rfl)) (by kernel_rfl) (loops_of (ks := [0]) (by kernel_rfl) ⟨(loop_one (h := laws_markIntS_H) (own := []) (head := laws_markIntS_h0) (back := []) (exs := [(.exit 0, [])]) (res := laws_markIntS_r0) (step := laws_markIntS_s0) (by kernel_rfl) laws_markIntS_l0), trivial⟩) laws_markIntS_e
def laws_markFont_arg : Sh := ⟨[(0, .agg [.str, .own 0, .own 1]), (1, .c (.int .i64))], [], [(0, .i64), (1, .i64)]⟩
def laws_markFont_res : List Sh := [⟨[(0, .c (.int .i64)), (1, .agg [.str, .own 0, .own 1])], [], [(0, .i64), (1, .i64)]⟩]
noncomputable def laws_markFont (a0_0 : ByteArray) (a1 : Int) (o0 : List Int) (o1 : List Int) : Option ((Int × (ByteArray × Unit × Unit × Unit) × Unit) × Unit × (List Int × List Int × Unit)) :=
 (laws_markIntS a1 o0).bind fun r1 =>
 (laws_markIntS r1.1.1 o1).bind fun r2 =>
 some ((r2.1.1, (a0_0, (), (), ()), ()), (), (r1.2.2.1, r2.2.2.1, ()))
noncomputable def laws_markFont_C : Ctr := ⟨35, laws_markFont_arg, laws_markFont_res, fun x => laws_markFont x.1.1.1 x.1.2.1 x.2.2.1 x.2.2.2.1, none⟩
def laws_markFont_H : Hint := ⟨[], [], [], fun _ => []⟩
noncomputable def laws_markFont_T : List Ctr := [laws_markIntS_C]
noncomputable def laws_markFont_Ls : List Lp := []
theorem laws_markFont_e : ∀ x, laws_markFont_C.F x = runBodyW E0 laws_markFont_T laws_markFont_Ls laws_markFont_H 35 Try.f35.results.toList (bodyOf Try.f35) [] (laws_markFont_arg.mk' x) laws_markFont_res := fun x => by kernel_rfl
theorem laws_markFont_ok : laws_markFont_C.Ok E0 := fn_ok (T := laws_markFont_T) (h := laws_markFont_H) (Ls := laws_markFont_Ls) E0_mixed (T_cons laws_markIntS_ok T_nil) Try.func35 (bodyOf_some (by kernel_rfl)) (by kernel_rfl) (loops_of (ks := []) (by kernel_rfl) trivial) laws_markFont_e
def laws_markMatrixS_arg : Sh := ⟨[(0, .c (.own 0)), (1, .c (.int .i64))], [], [(0, .mat)]⟩
def laws_markMatrixS_res : List Sh := [⟨[(0, .c (.int .i64)), (1, .c (.own 0))], [], [(0, .mat)]⟩]
noncomputable def laws_markMatrixS_s0 (x : (Unit × Int × Int × Unit) × Unit × (List (Int × Int) × Unit)) : Option (((Unit × Int × Int × Unit) × Unit × (List (Int × Int) × Unit)) ⊕ ((Unit × Int × Unit) × Unit × (List (Int × Int) × Unit))) :=
 let x1 : Bool := decide (x.1.2.2.1 < (x.2.2.1.length : Int));
 br x1
 (ck (0 ≤ x.1.2.2.1)
 (ck (x.1.2.2.1.toNat < x.2.2.1.length)
 (ck (x.1.2.2.1.toNat < x.2.2.1.length)
 (let x2 : List (Int × Int) := x.2.2.1.set x.1.2.2.1.toNat (x.1.2.1, (x.2.2.1.getD x.1.2.2.1.toNat (0, 0)).2);
 let x3 : Int := w64 (x.1.2.1 + (1 : Int));
 ck (0 ≤ x.1.2.2.1)
 (ck (x.1.2.2.1.toNat < x2.length)
 (ck (x.1.2.2.1.toNat < x2.length)
 (let x4 : List (Int × Int) := x2.set x.1.2.2.1.toNat ((x2.getD x.1.2.2.1.toNat (0, 0)).1, x3);
 let x5 : Int := w64 (x3 + (1 : Int));
 let x6 : Int := w64 (x.1.2.2.1 + (1 : Int));
 some (.inl (((), x5, x6, ()), (), (x4, ()))))))))))
 (some (.inr (((), x.1.2.1, ()), (), (x.2.2.1, ()))))
def laws_markMatrixS_h0 : Sh := ⟨[(0, .c (.own 0)), (1, .c (.int .i64)), (5, .c (.int .i64))], [], [(0, .mat)]⟩
def laws_markMatrixS_r0 : List Sh := [⟨[(0, .c (.own 0)), (1, .c (.int .i64))], [], [(0, .mat)]⟩]
noncomputable def laws_markMatrixS_L0 : Lp := ⟨0, [], laws_markMatrixS_h0, [], [(.exit 0, [])], laws_markMatrixS_r0, loopC laws_markMatrixS_s0⟩
noncomputable def laws_markMatrixS (a1 : Int) (o0 : List (Int × Int)) : Option ((Int × Unit × Unit) × Unit × (List (Int × Int) × Unit)) :=
 (loopC laws_markMatrixS_s0 (((), a1, (0 : Int), ()), (), (o0, ()))).bind fun r7 =>
 some ((r7.1.2.1, (), ()), (), (r7.2.2.1, ()))
noncomputable def laws_markMatrixS_C : Ctr := ⟨78, laws_markMatrixS_arg, laws_markMatrixS_res, fun x => laws_markMatrixS x.1.2.1 x.2.2.1, none⟩
def laws_markMatrixS_H : Hint := ⟨[], [], [], fun _ => []⟩
noncomputable def laws_markMatrixS_T : List Ctr := []
noncomputable def laws_markMatrixS_Ls : List Lp := [laws_markMatrixS_L0]
theorem laws_markMatrixS_l0 : ∀ x, laws_markMatrixS_s0 x = stepW E0 laws_markMatrixS_T laws_markMatrixS_Ls laws_markMatrixS_H (loopAt (bodyOf Try.f78) 0) 0 laws_markMatrixS_h0 [] [(.exit 0, [])] laws_markMatrixS_r0 x := fun x => by kernel_rfl
theorem laws_markMatrixS_e : ∀ x, laws_markMatrixS_C.F x = runBodyW E0 laws_markMatrixS_T laws_markMatrixS_Ls laws_markMatrixS_H 78 Try.f78.results.toList (bodyOf Try.f78) [] (laws_markMatrixS_arg.mk' x) laws_markMatrixS_res := fun x => by kernel_rfl
theorem laws_markMatrixS_ok : laws_markMatrixS_C.Ok E0 := fn_ok (T := laws_markMatrixS_T) (h := laws_markMatrixS_H) (Ls := laws_markMatrixS_Ls) E0_mixed T_nil Try.func78 (bodyOf_some (by kernel_rfl)) (by kernel_rfl) (loops_of (ks := [0]) (by kernel_rfl) ⟨(loop_one (h := laws_markMatrixS_H) (own := []) (head := laws_markMatrixS_h0) (back := []) (exs := [(.exit 0, [])]) (res := laws_markMatrixS_r0) (step := laws_markMatrixS_s0) (by kernel_rfl) laws_markMatrixS_l0), trivial⟩) laws_markMatrixS_e
def laws_markMatrixSS_arg : Sh := ⟨[(0, .c (.own 0)), (1, .c (.int .i64))], [], [(0, .mats)]⟩
def laws_markMatrixSS_res : List Sh := [⟨[(0, .c (.int .i64)), (1, .c (.own 0))], [], [(0, .mats)]⟩]
noncomputable def laws_markMatrixSS_s0 (x : (Unit × Int × Int × Unit) × Unit × (List (List (Int × Int)) × Unit)) : Option (((Unit × Int × Int × Unit) × Unit × (List (List (Int × Int)) × Unit)) ⊕ ((Unit × Int × Unit) × Unit × (List (List (Int × Int)) × Unit))) :=
 let x1 : Bool := decide (x.1.2.2.1 < (x.2.2.1.length : Int));
 br x1
 (ck (0 ≤ x.1.2.2.1)
 (ck (x.1.2.2.1.toNat < x.2.2.1.length)
 (ck (x.1.2.2.1.toNat < x.2.2.1.length)
 (ck (x.1.2.2.1.toNat = x.1.2.2.1.toNat)
 (ck (x.1.2.2.1.toNat < x.2.2.1.length)
 (let x2 : List (Int × Int) := x.2.2.1.getD x.1.2.2.1.toNat [];
 ck (x.1.2.2.1.toNat = x.1.2.2.1.toNat ∧ x.1.2.2.1.toNat < x.2.2.1.length)
 ((laws_markMatrixS x.1.2.1 x2).bind fun r3 =>
 ck (x.1.2.2.1.toNat = x.1.2.2.1.toNat ∧ x.1.2.2.1.toNat < x.2.2.1.length)
 (let x4 : List (List (Int × Int)) := x.2.2.1.set x.1.2.2.1.toNat r3.2.2.1;
 let x5 : Int := w64 (x.1.2.2.1 + (1 : Int));
 some (.inl (((), r3.1.1, x5, ()), (), (x4, ())))))))))))
 (some (.inr (((), x.1.2.1, ()), (), (x.2.2.1, ()))))
def laws_markMatrixSS_h0 : Sh := ⟨[(0, .c (.own 0)), (1, .c (.int .i64)), (5, .c (.int .i64))], [], [(0, .mats)]⟩
def laws_markMatrixSS_r0 : List Sh := [⟨[(0, .c (.own 0)), (1, .c (.int .i64))], [], [(0, .mats)]⟩]
noncomputable def laws_markMatrixSS_L0 : Lp := ⟨0, [], laws_markMatrixSS_h0, [], [(.exit 0, [])], laws_markMatrixSS_r0, loopC laws_markMatrixSS_s0⟩
noncomputable def laws_markMatrixSS (a1 : Int) (o0 : List (List (Int × Int))) : Option ((Int × Unit × Unit) × Unit × (List (List (Int × Int)) × Unit)) :=
 (loopC laws_markMatrixSS_s0 (((), a1, (0 : Int), ()), (), (o0, ()))).bind fun r6 =>
 some ((r6.1.2.1, (), ()), (), (r6.2.2.1, ()))
noncomputable def laws_markMatrixSS_C : Ctr := ⟨77, laws_markMatrixSS_arg, laws_markMatrixSS_res, fun x => laws_markMatrixSS x.1.2.1 x.2.2.1, none⟩
def laws_markMatrixSS_H : Hint := ⟨[], [], [], fun _ => []⟩
noncomputable def laws_markMatrixSS_T : List Ctr := [laws_markMatrixS_C]
noncomputable def laws_markMatrixSS_Ls : List Lp := [laws_markMatrixSS_L0]
theorem laws_markMatrixSS_l0 : ∀ x, laws_markMatrixSS_s0 x = stepW E0 laws_markMatrixSS_T laws_markMatrixSS_Ls laws_markMatrixSS_H (loopAt (bodyOf Try.f77) 0) 0 laws_markMatrixSS_h0 [] [(.exit 0, [])] laws_markMatrixSS_r0 x := fun x => by kernel_rfl
theorem laws_markMatrixSS_e : ∀ x, laws_markMatrixSS_C.F x = runBodyW E0 laws_markMatrixSS_T laws_markMatrixSS_Ls laws_markMatrixSS_H 77 Try.f77.results.toList (bodyOf Try.f77) [] (laws_markMatrixSS_arg.mk' x) laws_markMatrixSS_res := fun x => by kernel_rfl
theorem laws_markMatrixSS_ok : laws_markMatrixSS_C.Ok E0 := fn_ok (T := laws_markMatrixSS_T) (h := laws_markMatrixSS_H) (Ls := laws_markMatrixSS_Ls) E0_mixed (T_cons laws_markMatrixS_ok T_nil) Try.func77 (bodyOf_some (by kernel_rfl)) (by kernel_rfl) (loops_of (ks := [0]) (by kernel_rfl) ⟨(loop_one (h := laws_markMatrixSS_H) (own := []) (head := laws_markMatrixSS_h0) (back := []) (exs := [(.exit 0, [])]) (res := laws_markMatrixSS_r0) (step := laws_markMatrixSS_s0) (by kernel_rfl) laws_markMatrixSS_l0), trivial⟩) laws_markMatrixSS_e
def laws_markMachine_arg : Sh := ⟨[(0, .agg [.str, .own 0, .own 1, .own 2, .int .i64, .int .i64, .int .i64, .int .i64, .own 3, .own 4]), (1, .c (.int .i64))], [], [(0, .i64), (1, .i64), (2, .mats), (3, .mat), (4, .mat)]⟩
def laws_markMachine_res : List Sh := [⟨[(0, .c (.int .i64)), (1, .agg [.str, .own 0, .own 1, .own 2, .int .i64, .int .i64, .int .i64, .int .i64, .own 3, .own 4])], [], [(0, .i64), (1, .i64), (2, .mats), (3, .mat), (4, .mat)]⟩]
noncomputable def laws_markMachine (a0_0 : ByteArray) (a0_4 : Int) (a0_5 : Int) (a0_6 : Int) (a0_7 : Int) (a1 : Int) (o0 : List Int) (o1 : List Int) (o2 : List (List (Int × Int))) (o3 : List (Int × Int)) (o4 : List (Int × Int)) : Option ((Int × (ByteArray × Unit × Unit × Unit × Int × Int × Int × Int × Unit × Unit × Unit) × Unit) × Unit × (List Int × List Int × List (List (Int × Int)) × List (Int × Int) × List (Int × Int) × Unit)) :=
 (laws_markFont a0_0 a1 o0 o1).bind fun r1 =>
 (laws_markMatrixSS r1.1.1 o2).bind fun r2 =>
 (laws_markMatrixS r2.1.1 o3).bind fun r3 =>
 (laws_markMatrixS r3.1.1 o4).bind fun r4 =>
 some ((r4.1.1, (a0_0, (), (), (), a0_4, a0_5, a0_6, a0_7, (), (), ()), ()), (), (r1.2.2.1, r1.2.2.2.1, r2.2.2.1, r3.2.2.1, r4.2.2.1, ()))
noncomputable def laws_markMachine_C : Ctr := ⟨24, laws_markMachine_arg, laws_markMachine_res, fun x => laws_markMachine x.1.1.1 x.1.1.2.2.2.2.1 x.1.1.2.2.2.2.2.1 x.1.1.2.2.2.2.2.2.1 x.1.1.2.2.2.2.2.2.2.1 x.1.2.1 x.2.2.1 x.2.2.2.1 x.2.2.2.2.1 x.2.2.2.2.2.1 x.2.2.2.2.2.2.1, none⟩
def laws_markMachine_H : Hint := ⟨[], [], [], fun _ => []⟩
noncomputable def laws_markMachine_T : List Ctr := [laws_markFont_C, laws_markMatrixSS_C, laws_markMatrixS_C]
noncomputable def laws_markMachine_Ls : List Lp := []
theorem laws_markMachine_e : ∀ x, laws_markMachine_C.F x = runBodyW E0 laws_markMachine_T laws_markMachine_Ls laws_markMachine_H 24 Try.f24.results.toList (bodyOf Try.f24) [] (laws_markMachine_arg.mk' x) laws_markMachine_res := fun x => by kernel_rfl
theorem laws_markMachine_ok : laws_markMachine_C.Ok E0 := fn_ok (T := laws_markMachine_T) (h := laws_markMachine_H) (Ls := laws_markMachine_Ls) E0_mixed (T_cons laws_markFont_ok (T_cons laws_markMatrixSS_ok (T_cons laws_markMatrixS_ok T_nil))) Try.func24 (bodyOf_some (by kernel_rfl)) (by kernel_rfl) (loops_of (ks := []) (by kernel_rfl) trivial) laws_markMachine_e
def laws_markText_arg : Sh := ⟨[(0, .c (.int .i64))], [], []⟩
def laws_markText_res : List Sh := [⟨[(0, .c (.str))], [], []⟩]
noncomputable def laws_markText_s0 (x : (Int × ByteArray × Unit) × Unit × Unit) : Option (((Int × ByteArray × Unit) × Unit × Unit) ⊕ ((ByteArray × Unit) × Unit × Unit)) :=
 let x2 : Bool := decide (x.1.1 > (0 : Int));
 br x2
 (let x3 : Int := x.1.1.tmod (10 : Int);
 let x4 : Int := w64 ((48 : Int) + x3);
 let x5 : Int := IntKind.u8.wrap x4;
 let x6 : ByteArray := ofBytes [x5];
 ck (((x6.size + x.1.2.1.size : Nat) : Int) ≤ IntKind.i64.max)
 (let x7 : ByteArray := x6 ++ x.1.2.1;
 let x8 : Int := w64 (x.1.1.tdiv (10 : Int));
 some (.inl ((x8, x7, ()), (), ()))))
 (some (.inr ((x.1.2.1, ()), (), ())))
def laws_markText_h0 : Sh := ⟨[(0, .c (.int .i64)), (3, .c (.str))], [], []⟩
def laws_markText_r0 : List Sh := [⟨[(3, .c (.str))], [], []⟩]
noncomputable def laws_markText_L0 : Lp := ⟨0, [], laws_markText_h0, [], [(.exit 0, [])], laws_markText_r0, loopC laws_markText_s0⟩
noncomputable def laws_markText (a0 : Int) : Option ((ByteArray × Unit) × Unit × Unit) :=
 let x1 : Bool := decide (a0 ≤ (0 : Int));
 br x1
 (some (((ByteArray.mk #[109, 48]), ()), (), ()))
 ((loopC laws_markText_s0 ((a0, ByteArray.empty, ()), (), ())).bind fun r9 =>
 ck ((((ByteArray.mk #[109]).size + r9.1.1.size : Nat) : Int) ≤ IntKind.i64.max)
 (let x10 : ByteArray := (ByteArray.mk #[109]) ++ r9.1.1;
 some ((x10, ()), (), ())))
noncomputable def laws_markText_C : Ctr := ⟨126, laws_markText_arg, laws_markText_res, fun x => laws_markText x.1.1, none⟩
def laws_markText_H : Hint := ⟨[], [], [], fun _ => []⟩
noncomputable def laws_markText_T : List Ctr := []
noncomputable def laws_markText_Ls : List Lp := [laws_markText_L0]
theorem laws_markText_l0 : ∀ x, laws_markText_s0 x = stepW E0 laws_markText_T laws_markText_Ls laws_markText_H (loopAt (bodyOf Try.f126) 0) 0 laws_markText_h0 [] [(.exit 0, [])] laws_markText_r0 x := fun x => by kernel_rfl
theorem laws_markText_e : ∀ x, laws_markText_C.F x = runBodyW E0 laws_markText_T laws_markText_Ls laws_markText_H 126 Try.f126.results.toList (bodyOf Try.f126) [] (laws_markText_arg.mk' x) laws_markText_res := fun x => by kernel_rfl
theorem laws_markText_ok : laws_markText_C.Ok E0 := fn_ok (T := laws_markText_T) (h := laws_markText_H) (Ls := laws_markText_Ls) E0_mixed T_nil Try.func126 (bodyOf_some (by kernel_rfl)) (by kernel_rfl) (loops_of (ks := [0]) (by kernel_rfl) ⟨(loop_one (h := laws_markText_H) (own := []) (head := laws_markText_h0) (back := []) (exs := [(.exit 0, [])]) (res := laws_markText_r0) (step := laws_markText_s0) (by kernel_rfl) laws_markText_l0), trivial⟩) laws_markText_e
def laws_markStringS_arg : Sh := ⟨[(0, .c (.nil)), (1, .c (.int .i64))], [], []⟩
def laws_markStringS_res : List Sh := [⟨[(0, .c (.int .i64)), (1, .c (.nil))], [], []⟩]
noncomputable def laws_markStringS_s0 (x : (Unit × Int × Int × Unit) × Unit × Unit) : Option (((Unit × Int × Int × Unit) × Unit × Unit) ⊕ ((Unit × Int × Unit) × Unit × Unit)) :=
 let x1 : Bool := decide (x.1.2.2.1 < (0 : Int));
 br x1
 ((laws_markText x.1.2.1).bind fun r2 =>
 none)
 (some (.inr (((), x.1.2.1, ()), (), ())))
def laws_markStringS_h0 : Sh := ⟨[(0, .c (.nil)), (1, .c (.int .i64)), (5, .c (.int .i64))], [], []⟩
def laws_markStringS_r0 : List Sh := [⟨[(0, .c (.nil)), (1, .c (.int .i64))], [], []⟩]
noncomputable def laws_markStringS_L0 : Lp := ⟨0, [], laws_markStringS_h0, [], [(.exit 0, [])], laws_markStringS_r0, loopC laws_markStringS_s0⟩
noncomputable def laws_markStringS (a1 : Int) : Option ((Int × Unit × Unit) × Unit × Unit) :=
 (loopC laws_markStringS_s0 (((), a1, (0 : Int), ()), (), ())).bind fun r3 =>
 some ((r3.1.2.1, (), ()), (), ())
noncomputable def laws_markStringS_C : Ctr := ⟨94, laws_markStringS_arg, laws_markStringS_res, fun x => laws_markStringS x.1.2.1, none⟩
def laws_markStringS_H : Hint := ⟨[], [], [], fun _ => []⟩
noncomputable def laws_markStringS_T : List Ctr := [laws_markText_C]
noncomputable def laws_markStringS_Ls : List Lp := [laws_markStringS_L0]
theorem laws_markStringS_l0 : ∀ x, laws_markStringS_s0 x = stepW E0 laws_markStringS_T laws_markStringS_Ls laws_markStringS_H (loopAt (bodyOf Try.f94) 0) 0 laws_markStringS_h0 [] [(.exit 0, [])] laws_markStringS_r0 x := fun x => by kernel_rfl
theorem laws_markStringS_e : ∀ x, laws_markStringS_C.F x = runBodyW E0 laws_markStringS_T laws_markStringS_Ls laws_markStringS_H 94 Try.f94.results.toList (bodyOf Try.f94) [] (laws_markStringS_arg.mk' x) laws_markStringS_res := fun x => by kernel_rfl
theorem laws_markStringS_ok : laws_markStringS_C.Ok E0 := fn_ok (T := laws_markStringS_T) (h := laws_markStringS_H) (Ls := laws_markStringS_Ls) E0_mixed (T_cons laws_markText_ok T_nil) Try.func94 (bodyOf_some (by kernel_rfl)) (by kernel_rfl) (loops_of (ks := [0]) (by kernel_rfl) ⟨(loop_one (h := laws_markStringS_H) (own := []) (head := laws_markStringS_h0) (back := []) (exs := [(.exit 0, [])]) (res := laws_markStringS_r0) (step := laws_markStringS_s0) (by kernel_rfl) laws_markStringS_l0), trivial⟩) laws_markStringS_e
def laws_markDesk_arg : Sh := ⟨[(0, .agg [.str, .own 0, .own 1, .own 2, .int .i64, .int .i64, .int .i64, .int .i64, .own 3, .own 4, .nil]), (1, .c (.int .i64))], [], [(0, .i64), (1, .i64), (2, .mats), (3, .mat), (4, .mat)]⟩
def laws_markDesk_res : List Sh := [⟨[(0, .c (.int .i64)), (1, .agg [.str, .own 0, .own 1, .own 2, .int .i64, .int .i64, .int .i64, .int .i64, .own 3, .own 4, .nil])], [], [(0, .i64), (1, .i64), (2, .mats), (3, .mat), (4, .mat)]⟩]
noncomputable def laws_markDesk (a0_0 : ByteArray) (a0_4 : Int) (a0_5 : Int) (a0_6 : Int) (a0_7 : Int) (a1 : Int) (o0 : List Int) (o1 : List Int) (o2 : List (List (Int × Int))) (o3 : List (Int × Int)) (o4 : List (Int × Int)) : Option ((Int × (ByteArray × Unit × Unit × Unit × Int × Int × Int × Int × Unit × Unit × Unit × Unit) × Unit) × Unit × (List Int × List Int × List (List (Int × Int)) × List (Int × Int) × List (Int × Int) × Unit)) :=
 (laws_markMachine a0_0 a0_4 a0_5 a0_6 a0_7 a1 o0 o1 o2 o3 o4).bind fun r1 =>
 (laws_markStringS r1.1.1).bind fun r2 =>
 some ((r2.1.1, (a0_0, (), (), (), a0_4, a0_5, a0_6, a0_7, (), (), (), ()), ()), (), (r1.2.2.1, r1.2.2.2.1, r1.2.2.2.2.1, r1.2.2.2.2.2.1, r1.2.2.2.2.2.2.1, ()))
noncomputable def laws_markDesk_C : Ctr := ⟨42, laws_markDesk_arg, laws_markDesk_res, fun x => laws_markDesk x.1.1.1 x.1.1.2.2.2.2.1 x.1.1.2.2.2.2.2.1 x.1.1.2.2.2.2.2.2.1 x.1.1.2.2.2.2.2.2.2.1 x.1.2.1 x.2.2.1 x.2.2.2.1 x.2.2.2.2.1 x.2.2.2.2.2.1 x.2.2.2.2.2.2.1, none⟩
def laws_markDesk_H : Hint := ⟨[], [], [], fun _ => []⟩
noncomputable def laws_markDesk_T : List Ctr := [laws_markMachine_C, laws_markStringS_C]
noncomputable def laws_markDesk_Ls : List Lp := []
theorem laws_markDesk_e : ∀ x, laws_markDesk_C.F x = runBodyW E0 laws_markDesk_T laws_markDesk_Ls laws_markDesk_H 42 Try.f42.results.toList (bodyOf Try.f42) [] (laws_markDesk_arg.mk' x) laws_markDesk_res := fun x => by kernel_rfl
theorem laws_markDesk_ok : laws_markDesk_C.Ok E0 := fn_ok (T := laws_markDesk_T) (h := laws_markDesk_H) (Ls := laws_markDesk_Ls) E0_mixed (T_cons laws_markMachine_ok (T_cons laws_markStringS_ok T_nil)) Try.func42 (bodyOf_some (by kernel_rfl)) (by kernel_rfl) (loops_of (ks := []) (by kernel_rfl) trivial) laws_markDesk_e
def laws_heldIntS_arg : Sh := ⟨[(0, .c (.rd [] .i64)), (1, .c (.int .i64))], [], []⟩
def laws_heldIntS_res : List Sh := [⟨[(0, .c (.int .i64))], [], []⟩]
noncomputable def laws_heldIntS_s0 (x : (List Int × Int × Int × Unit) × Unit × Unit) : Option (((List Int × Int × Int × Unit) × Unit × Unit) ⊕ (((Int × Unit) × Unit × Unit) ⊕ ((Int × Unit) × Unit × Unit))) :=
 let x1 : Bool := decide (x.1.2.2.1 < (x.1.1.length : Int));
 br x1
 (ck (0 ≤ x.1.2.2.1)
 (ck (x.1.2.2.1.toNat < x.1.1.length)
 (let x2 : Int := x.1.1.getD x.1.2.2.1.toNat 0;
 let x3 : Bool := x2 != x.1.2.1;
 br x3
 (some (.inr (.inl (((-1 : Int), ()), (), ()))))
 (let x4 : Int := w64 (x.1.2.1 + (1 : Int));
 let x5 : Int := w64 (x.1.2.2.1 + (1 : Int));
 some (.inl ((x.1.1, x4, x5, ()), (), ()))))))
 (some (.inr (.inr ((x.1.2.1, ()), (), ()))))
def laws_heldIntS_h0 : Sh := ⟨[(0, .c (.rd [] .i64)), (1, .c (.int .i64)), (5, .c (.int .i64))], [], []⟩
def laws_heldIntS_r0 : List Sh := [⟨[(4, .c (.int .i64))], [], []⟩, ⟨[(1, .c (.int .i64))], [], []⟩]
noncomputable def laws_heldIntS_L0 : Lp := ⟨0, [], laws_heldIntS_h0, [], [(.ret, []), (.exit 0, [])], laws_heldIntS_r0, loopC laws_heldIntS_s0⟩
noncomputable def laws_heldIntS (a0 : List Int) (a1 : Int) : Option ((Int × Unit) × Unit × Unit) :=
 (loopC laws_heldIntS_s0 ((a0, a1, (0 : Int), ()), (), ())).bind fun r6 =>
 sumK r6 (fun y9 =>
 some ((y9.1.1, ()), (), ())) (fun y10 =>
 some ((y10.1.1, ()), (), ()))
noncomputable def laws_heldIntS_C : Ctr := ⟨26, laws_heldIntS_arg, laws_heldIntS_res, fun x => laws_heldIntS x.1.1 x.1.2.1, none⟩
def laws_heldIntS_H : Hint := ⟨[], [], [], fun _ => []⟩
noncomputable def laws_heldIntS_T : List Ctr := []
noncomputable def laws_heldIntS_Ls : List Lp := [laws_heldIntS_L0]
theorem laws_heldIntS_l0 : ∀ x, laws_heldIntS_s0 x = stepW E0 laws_heldIntS_T laws_heldIntS_Ls laws_heldIntS_H (loopAt (bodyOf Try.f26) 0) 0 laws_heldIntS_h0 [] [(.ret, []), (.exit 0, [])] laws_heldIntS_r0 x := fun x => by kernel_rfl
theorem laws_heldIntS_e : ∀ x, laws_heldIntS_C.F x = runBodyW E0 laws_heldIntS_T laws_heldIntS_Ls laws_heldIntS_H 26 Try.f26.results.toList (bodyOf Try.f26) [] (laws_heldIntS_arg.mk' x) laws_heldIntS_res := fun x => by kernel_rfl
theorem laws_heldIntS_ok : laws_heldIntS_C.Ok E0 := fn_ok (T := laws_heldIntS_T) (h := laws_heldIntS_H) (Ls := laws_heldIntS_Ls) E0_mixed T_nil Try.func26 (bodyOf_some (by kernel_rfl)) (by kernel_rfl) (loops_of (ks := [0]) (by kernel_rfl) ⟨(loop_one (h := laws_heldIntS_H) (own := []) (head := laws_heldIntS_h0) (back := []) (exs := [(.ret, []), (.exit 0, [])]) (res := laws_heldIntS_r0) (step := laws_heldIntS_s0) (by kernel_rfl) laws_heldIntS_l0), trivial⟩) laws_heldIntS_e
def laws_heldFont_arg : Sh := ⟨[(0, .agg [.str, .rd [] .i64, .rd [] .i64]), (1, .c (.int .i64))], [], []⟩
def laws_heldFont_res : List Sh := [⟨[(0, .c (.int .i64))], [], []⟩]
noncomputable def laws_heldFont (a0_0 : ByteArray) (a0_1 : List Int) (a0_2 : List Int) (a1 : Int) : Option ((Int × Unit) × Unit × Unit) :=
 (laws_heldIntS a0_1 a1).bind fun r1 =>
 let x2 : Bool := decide (r1.1.1 < (0 : Int));
 br x2
 (some (((-1 : Int), ()), (), ()))
 ((laws_heldIntS a0_2 r1.1.1).bind fun r3 =>
 let x4 : Bool := decide (r3.1.1 < (0 : Int));
 br x4
 (some (((-1 : Int), ()), (), ()))
 (some ((r3.1.1, ()), (), ())))
noncomputable def laws_heldFont_C : Ctr := ⟨88, laws_heldFont_arg, laws_heldFont_res, fun x => laws_heldFont x.1.1.1 x.1.1.2.1 x.1.1.2.2.1 x.1.2.1, none⟩
def laws_heldFont_H : Hint := ⟨[], [], [], fun _ => []⟩
noncomputable def laws_heldFont_T : List Ctr := [laws_heldIntS_C]
noncomputable def laws_heldFont_Ls : List Lp := []
theorem laws_heldFont_e : ∀ x, laws_heldFont_C.F x = runBodyW E0 laws_heldFont_T laws_heldFont_Ls laws_heldFont_H 88 Try.f88.results.toList (bodyOf Try.f88) [] (laws_heldFont_arg.mk' x) laws_heldFont_res := fun x => by kernel_rfl
theorem laws_heldFont_ok : laws_heldFont_C.Ok E0 := fn_ok (T := laws_heldFont_T) (h := laws_heldFont_H) (Ls := laws_heldFont_Ls) E0_mixed (T_cons laws_heldIntS_ok T_nil) Try.func88 (bodyOf_some (by kernel_rfl)) (by kernel_rfl) (loops_of (ks := []) (by kernel_rfl) trivial) laws_heldFont_e
def laws_heldMatrixS_arg : Sh := ⟨[(0, .c (.rd [] .mat)), (1, .c (.int .i64))], [], []⟩
def laws_heldMatrixS_res : List Sh := [⟨[(0, .c (.int .i64))], [], []⟩]
noncomputable def laws_heldMatrixS_s0 (x : (List (Int × Int) × Int × Int × Unit) × Unit × Unit) : Option (((List (Int × Int) × Int × Int × Unit) × Unit × Unit) ⊕ (((Int × Unit) × Unit × Unit) ⊕ ((Int × Unit) × Unit × Unit))) :=
 let x1 : Bool := decide (x.1.2.2.1 < (x.1.1.length : Int));
 br x1
 (ck (0 ≤ x.1.2.2.1)
 (ck (x.1.2.2.1.toNat < x.1.1.length)
 (let x2 : Int × Int := x.1.1.getD x.1.2.2.1.toNat (0, 0);
 let x3 : Bool := x2.1 != x.1.2.1;
 br x3
 (some (.inr (.inl (((-1 : Int), ()), (), ()))))
 (let x4 : Int := w64 (x.1.2.1 + (1 : Int));
 ck (0 ≤ x.1.2.2.1)
 (ck (x.1.2.2.1.toNat < x.1.1.length)
 (let x5 : Bool := x2.2 != x4;
 br x5
 (some (.inr (.inl (((-1 : Int), ()), (), ()))))
 (let x6 : Int := w64 (x4 + (1 : Int));
 let x7 : Int := w64 (x.1.2.2.1 + (1 : Int));
 some (.inl ((x.1.1, x6, x7, ()), (), ())))))))))
 (some (.inr (.inr ((x.1.2.1, ()), (), ()))))
def laws_heldMatrixS_h0 : Sh := ⟨[(0, .c (.rd [] .mat)), (1, .c (.int .i64)), (5, .c (.int .i64))], [], []⟩
def laws_heldMatrixS_r0 : List Sh := [⟨[(4, .c (.int .i64))], [], []⟩, ⟨[(1, .c (.int .i64))], [], []⟩]
noncomputable def laws_heldMatrixS_L0 : Lp := ⟨0, [], laws_heldMatrixS_h0, [], [(.ret, []), (.exit 0, [])], laws_heldMatrixS_r0, loopC laws_heldMatrixS_s0⟩
noncomputable def laws_heldMatrixS (a0 : List (Int × Int)) (a1 : Int) : Option ((Int × Unit) × Unit × Unit) :=
 (loopC laws_heldMatrixS_s0 ((a0, a1, (0 : Int), ()), (), ())).bind fun r8 =>
 sumK r8 (fun y11 =>
 some ((y11.1.1, ()), (), ())) (fun y12 =>
 some ((y12.1.1, ()), (), ()))
noncomputable def laws_heldMatrixS_C : Ctr := ⟨90, laws_heldMatrixS_arg, laws_heldMatrixS_res, fun x => laws_heldMatrixS x.1.1 x.1.2.1, none⟩
def laws_heldMatrixS_H : Hint := ⟨[], [], [], fun _ => []⟩
noncomputable def laws_heldMatrixS_T : List Ctr := []
noncomputable def laws_heldMatrixS_Ls : List Lp := [laws_heldMatrixS_L0]
theorem laws_heldMatrixS_l0 : ∀ x, laws_heldMatrixS_s0 x = stepW E0 laws_heldMatrixS_T laws_heldMatrixS_Ls laws_heldMatrixS_H (loopAt (bodyOf Try.f90) 0) 0 laws_heldMatrixS_h0 [] [(.ret, []), (.exit 0, [])] laws_heldMatrixS_r0 x := fun x => by kernel_rfl
theorem laws_heldMatrixS_e : ∀ x, laws_heldMatrixS_C.F x = runBodyW E0 laws_heldMatrixS_T laws_heldMatrixS_Ls laws_heldMatrixS_H 90 Try.f90.results.toList (bodyOf Try.f90) [] (laws_heldMatrixS_arg.mk' x) laws_heldMatrixS_res := fun x => by kernel_rfl
theorem laws_heldMatrixS_ok : laws_heldMatrixS_C.Ok E0 := fn_ok (T := laws_heldMatrixS_T) (h := laws_heldMatrixS_H) (Ls := laws_heldMatrixS_Ls) E0_mixed T_nil Try.func90 (bodyOf_some (by kernel_rfl)) (by kernel_rfl) (loops_of (ks := [0]) (by kernel_rfl) ⟨(loop_one (h := laws_heldMatrixS_H) (own := []) (head := laws_heldMatrixS_h0) (back := []) (exs := [(.ret, []), (.exit 0, [])]) (res := laws_heldMatrixS_r0) (step := laws_heldMatrixS_s0) (by kernel_rfl) laws_heldMatrixS_l0), trivial⟩) laws_heldMatrixS_e
def laws_heldMatrixSS_arg : Sh := ⟨[(0, .c (.rd [] .mats)), (1, .c (.int .i64))], [], []⟩
def laws_heldMatrixSS_res : List Sh := [⟨[(0, .c (.int .i64))], [], []⟩]
noncomputable def laws_heldMatrixSS_s0 (x : (List (List (Int × Int)) × Int × Int × Unit) × Unit × Unit) : Option (((List (List (Int × Int)) × Int × Int × Unit) × Unit × Unit) ⊕ (((Int × Unit) × Unit × Unit) ⊕ ((Int × Unit) × Unit × Unit))) :=
 let x1 : Bool := decide (x.1.2.2.1 < (x.1.1.length : Int));
 br x1
 (ck (0 ≤ x.1.2.2.1)
 (ck (x.1.2.2.1.toNat < x.1.1.length)
 (let x2 : List (Int × Int) := x.1.1.getD x.1.2.2.1.toNat [];
 (laws_heldMatrixS x2 x.1.2.1).bind fun r3 =>
 let x4 : Bool := decide (r3.1.1 < (0 : Int));
 br x4
 (some (.inr (.inl (((-1 : Int), ()), (), ()))))
 (let x5 : Int := w64 (x.1.2.2.1 + (1 : Int));
 some (.inl ((x.1.1, r3.1.1, x5, ()), (), ()))))))
 (some (.inr (.inr ((x.1.2.1, ()), (), ()))))
def laws_heldMatrixSS_h0 : Sh := ⟨[(0, .c (.rd [] .mats)), (1, .c (.int .i64)), (5, .c (.int .i64))], [], []⟩
def laws_heldMatrixSS_r0 : List Sh := [⟨[(4, .c (.int .i64))], [], []⟩, ⟨[(1, .c (.int .i64))], [], []⟩]
noncomputable def laws_heldMatrixSS_L0 : Lp := ⟨0, [], laws_heldMatrixSS_h0, [], [(.ret, []), (.exit 0, [])], laws_heldMatrixSS_r0, loopC laws_heldMatrixSS_s0⟩
noncomputable def laws_heldMatrixSS (a0 : List (List (Int × Int))) (a1 : Int) : Option ((Int × Unit) × Unit × Unit) :=
 (loopC laws_heldMatrixSS_s0 ((a0, a1, (0 : Int), ()), (), ())).bind fun r6 =>
 sumK r6 (fun y9 =>
 some ((y9.1.1, ()), (), ())) (fun y10 =>
 some ((y10.1.1, ()), (), ()))
noncomputable def laws_heldMatrixSS_C : Ctr := ⟨89, laws_heldMatrixSS_arg, laws_heldMatrixSS_res, fun x => laws_heldMatrixSS x.1.1 x.1.2.1, none⟩
def laws_heldMatrixSS_H : Hint := ⟨[], [], [], fun _ => []⟩
noncomputable def laws_heldMatrixSS_T : List Ctr := [laws_heldMatrixS_C]
noncomputable def laws_heldMatrixSS_Ls : List Lp := [laws_heldMatrixSS_L0]
theorem laws_heldMatrixSS_l0 : ∀ x, laws_heldMatrixSS_s0 x = stepW E0 laws_heldMatrixSS_T laws_heldMatrixSS_Ls laws_heldMatrixSS_H (loopAt (bodyOf Try.f89) 0) 0 laws_heldMatrixSS_h0 [] [(.ret, []), (.exit 0, [])] laws_heldMatrixSS_r0 x := fun x => by kernel_rfl
theorem laws_heldMatrixSS_e : ∀ x, laws_heldMatrixSS_C.F x = runBodyW E0 laws_heldMatrixSS_T laws_heldMatrixSS_Ls laws_heldMatrixSS_H 89 Try.f89.results.toList (bodyOf Try.f89) [] (laws_heldMatrixSS_arg.mk' x) laws_heldMatrixSS_res := fun x => by kernel_rfl
theorem laws_heldMatrixSS_ok : laws_heldMatrixSS_C.Ok E0 := fn_ok (T := laws_heldMatrixSS_T) (h := laws_heldMatrixSS_H) (Ls := laws_heldMatrixSS_Ls) E0_mixed (T_cons laws_heldMatrixS_ok T_nil) Try.func89 (bodyOf_some (by kernel_rfl)) (by kernel_rfl) (loops_of (ks := [0]) (by kernel_rfl) ⟨(loop_one (h := laws_heldMatrixSS_H) (own := []) (head := laws_heldMatrixSS_h0) (back := []) (exs := [(.ret, []), (.exit 0, [])]) (res := laws_heldMatrixSS_r0) (step := laws_heldMatrixSS_s0) (by kernel_rfl) laws_heldMatrixSS_l0), trivial⟩) laws_heldMatrixSS_e
def laws_heldMachine_arg : Sh := ⟨[(0, .agg [.str, .rd [] .i64, .rd [] .i64, .rd [] .mats, .int .i64, .int .i64, .int .i64, .int .i64, .rd [] .mat, .rd [] .mat]), (1, .c (.int .i64))], [], []⟩
def laws_heldMachine_res : List Sh := [⟨[(0, .c (.int .i64))], [], []⟩]
noncomputable def laws_heldMachine (a0_0 : ByteArray) (a0_1 : List Int) (a0_2 : List Int) (a0_3 : List (List (Int × Int))) (a0_4 : Int) (a0_5 : Int) (a0_6 : Int) (a0_7 : Int) (a0_8 : List (Int × Int)) (a0_9 : List (Int × Int)) (a1 : Int) : Option ((Int × Unit) × Unit × Unit) :=
 (laws_heldFont a0_0 a0_1 a0_2 a1).bind fun r1 =>
 let x2 : Bool := decide (r1.1.1 < (0 : Int));
 br x2
 (some (((-1 : Int), ()), (), ()))
 ((laws_heldMatrixSS a0_3 r1.1.1).bind fun r3 =>
 let x4 : Bool := decide (r3.1.1 < (0 : Int));
 br x4
 (some (((-1 : Int), ()), (), ()))
 ((laws_heldMatrixS a0_8 r3.1.1).bind fun r5 =>
 let x6 : Bool := decide (r5.1.1 < (0 : Int));
 br x6
 (some (((-1 : Int), ()), (), ()))
 ((laws_heldMatrixS a0_9 r5.1.1).bind fun r7 =>
 let x8 : Bool := decide (r7.1.1 < (0 : Int));
 br x8
 (some (((-1 : Int), ()), (), ()))
 (some ((r7.1.1, ()), (), ())))))
noncomputable def laws_heldMachine_C : Ctr := ⟨36, laws_heldMachine_arg, laws_heldMachine_res, fun x => laws_heldMachine x.1.1.1 x.1.1.2.1 x.1.1.2.2.1 x.1.1.2.2.2.1 x.1.1.2.2.2.2.1 x.1.1.2.2.2.2.2.1 x.1.1.2.2.2.2.2.2.1 x.1.1.2.2.2.2.2.2.2.1 x.1.1.2.2.2.2.2.2.2.2.1 x.1.1.2.2.2.2.2.2.2.2.2.1 x.1.2.1, none⟩
def laws_heldMachine_H : Hint := ⟨[], [], [], fun _ => []⟩
noncomputable def laws_heldMachine_T : List Ctr := [laws_heldFont_C, laws_heldMatrixSS_C, laws_heldMatrixS_C]
noncomputable def laws_heldMachine_Ls : List Lp := []
theorem laws_heldMachine_e : ∀ x, laws_heldMachine_C.F x = runBodyW E0 laws_heldMachine_T laws_heldMachine_Ls laws_heldMachine_H 36 Try.f36.results.toList (bodyOf Try.f36) [] (laws_heldMachine_arg.mk' x) laws_heldMachine_res := fun x => by kernel_rfl
theorem laws_heldMachine_ok : laws_heldMachine_C.Ok E0 := fn_ok (T := laws_heldMachine_T) (h := laws_heldMachine_H) (Ls := laws_heldMachine_Ls) E0_mixed (T_cons laws_heldFont_ok (T_cons laws_heldMatrixSS_ok (T_cons laws_heldMatrixS_ok T_nil))) Try.func36 (bodyOf_some (by kernel_rfl)) (by kernel_rfl) (loops_of (ks := []) (by kernel_rfl) trivial) laws_heldMachine_e
def laws_heldStringS_arg : Sh := ⟨[(0, .c (.rd [] .str)), (1, .c (.int .i64))], [], []⟩
def laws_heldStringS_res : List Sh := [⟨[(0, .c (.int .i64))], [], []⟩]
noncomputable def laws_heldStringS_s0 (x : (List ByteArray × Int × Int × Unit) × Unit × Unit) : Option (((List ByteArray × Int × Int × Unit) × Unit × Unit) ⊕ (((Int × Unit) × Unit × Unit) ⊕ ((Int × Unit) × Unit × Unit))) :=
 let x1 : Bool := decide (x.1.2.2.1 < (x.1.1.length : Int));
 br x1
 (ck (0 ≤ x.1.2.2.1)
 (ck (x.1.2.2.1.toNat < x.1.1.length)
 (let x2 : ByteArray := x.1.1.getD x.1.2.2.1.toNat ByteArray.empty;
 (laws_markText x.1.2.1).bind fun r3 =>
 let x4 : Bool := !strEq x2 r3.1.1;
 br x4
 (some (.inr (.inl (((-1 : Int), ()), (), ()))))
 (let x5 : Int := w64 (x.1.2.1 + (1 : Int));
 let x6 : Int := w64 (x.1.2.2.1 + (1 : Int));
 some (.inl ((x.1.1, x5, x6, ()), (), ()))))))
 (some (.inr (.inr ((x.1.2.1, ()), (), ()))))
def laws_heldStringS_h0 : Sh := ⟨[(0, .c (.rd [] .str)), (1, .c (.int .i64)), (5, .c (.int .i64))], [], []⟩
def laws_heldStringS_r0 : List Sh := [⟨[(4, .c (.int .i64))], [], []⟩, ⟨[(1, .c (.int .i64))], [], []⟩]
noncomputable def laws_heldStringS_L0 : Lp := ⟨0, [], laws_heldStringS_h0, [], [(.ret, []), (.exit 0, [])], laws_heldStringS_r0, loopC laws_heldStringS_s0⟩
noncomputable def laws_heldStringS (a0 : List ByteArray) (a1 : Int) : Option ((Int × Unit) × Unit × Unit) :=
 (loopC laws_heldStringS_s0 ((a0, a1, (0 : Int), ()), (), ())).bind fun r7 =>
 sumK r7 (fun y10 =>
 some ((y10.1.1, ()), (), ())) (fun y11 =>
 some ((y11.1.1, ()), (), ()))
noncomputable def laws_heldStringS_C : Ctr := ⟨95, laws_heldStringS_arg, laws_heldStringS_res, fun x => laws_heldStringS x.1.1 x.1.2.1, none⟩
def laws_heldStringS_H : Hint := ⟨[], [], [], fun _ => []⟩
noncomputable def laws_heldStringS_T : List Ctr := [laws_markText_C]
noncomputable def laws_heldStringS_Ls : List Lp := [laws_heldStringS_L0]
theorem laws_heldStringS_l0 : ∀ x, laws_heldStringS_s0 x = stepW E0 laws_heldStringS_T laws_heldStringS_Ls laws_heldStringS_H (loopAt (bodyOf Try.f95) 0) 0 laws_heldStringS_h0 [] [(.ret, []), (.exit 0, [])] laws_heldStringS_r0 x := fun x => by kernel_rfl
theorem laws_heldStringS_e : ∀ x, laws_heldStringS_C.F x = runBodyW E0 laws_heldStringS_T laws_heldStringS_Ls laws_heldStringS_H 95 Try.f95.results.toList (bodyOf Try.f95) [] (laws_heldStringS_arg.mk' x) laws_heldStringS_res := fun x => by kernel_rfl
theorem laws_heldStringS_ok : laws_heldStringS_C.Ok E0 := fn_ok (T := laws_heldStringS_T) (h := laws_heldStringS_H) (Ls := laws_heldStringS_Ls) E0_mixed (T_cons laws_markText_ok T_nil) Try.func95 (bodyOf_some (by kernel_rfl)) (by kernel_rfl) (loops_of (ks := [0]) (by kernel_rfl) ⟨(loop_one (h := laws_heldStringS_H) (own := []) (head := laws_heldStringS_h0) (back := []) (exs := [(.ret, []), (.exit 0, [])]) (res := laws_heldStringS_r0) (step := laws_heldStringS_s0) (by kernel_rfl) laws_heldStringS_l0), trivial⟩) laws_heldStringS_e
def laws_heldDesk_arg : Sh := ⟨[(0, .agg [.str, .rd [] .i64, .rd [] .i64, .rd [] .mats, .int .i64, .int .i64, .int .i64, .int .i64, .rd [] .mat, .rd [] .mat, .rd [] .str]), (1, .c (.int .i64))], [], []⟩
def laws_heldDesk_res : List Sh := [⟨[(0, .c (.int .i64))], [], []⟩]
noncomputable def laws_heldDesk (a0_0 : ByteArray) (a0_1 : List Int) (a0_2 : List Int) (a0_3 : List (List (Int × Int))) (a0_4 : Int) (a0_5 : Int) (a0_6 : Int) (a0_7 : Int) (a0_8 : List (Int × Int)) (a0_9 : List (Int × Int)) (a0_10 : List ByteArray) (a1 : Int) : Option ((Int × Unit) × Unit × Unit) :=
 (laws_heldMachine a0_0 a0_1 a0_2 a0_3 a0_4 a0_5 a0_6 a0_7 a0_8 a0_9 a1).bind fun r1 =>
 let x2 : Bool := decide (r1.1.1 < (0 : Int));
 br x2
 (some (((-1 : Int), ()), (), ()))
 ((laws_heldStringS a0_10 r1.1.1).bind fun r3 =>
 let x4 : Bool := decide (r3.1.1 < (0 : Int));
 br x4
 (some (((-1 : Int), ()), (), ()))
 (some ((r3.1.1, ()), (), ())))
noncomputable def laws_heldDesk_C : Ctr := ⟨43, laws_heldDesk_arg, laws_heldDesk_res, fun x => laws_heldDesk x.1.1.1 x.1.1.2.1 x.1.1.2.2.1 x.1.1.2.2.2.1 x.1.1.2.2.2.2.1 x.1.1.2.2.2.2.2.1 x.1.1.2.2.2.2.2.2.1 x.1.1.2.2.2.2.2.2.2.1 x.1.1.2.2.2.2.2.2.2.2.1 x.1.1.2.2.2.2.2.2.2.2.2.1 x.1.1.2.2.2.2.2.2.2.2.2.2.1 x.1.2.1, none⟩
def laws_heldDesk_H : Hint := ⟨[], [], [], fun _ => []⟩
noncomputable def laws_heldDesk_T : List Ctr := [laws_heldMachine_C, laws_heldStringS_C]
noncomputable def laws_heldDesk_Ls : List Lp := []
theorem laws_heldDesk_e : ∀ x, laws_heldDesk_C.F x = runBodyW E0 laws_heldDesk_T laws_heldDesk_Ls laws_heldDesk_H 43 Try.f43.results.toList (bodyOf Try.f43) [] (laws_heldDesk_arg.mk' x) laws_heldDesk_res := fun x => by kernel_rfl
theorem laws_heldDesk_ok : laws_heldDesk_C.Ok E0 := fn_ok (T := laws_heldDesk_T) (h := laws_heldDesk_H) (Ls := laws_heldDesk_Ls) E0_mixed (T_cons laws_heldMachine_ok (T_cons laws_heldStringS_ok T_nil)) Try.func43 (bodyOf_some (by kernel_rfl)) (by kernel_rfl) (loops_of (ks := []) (by kernel_rfl) trivial) laws_heldDesk_e
def laws_FnExactNewDesk_arg : Sh := ⟨[], [], []⟩
def laws_FnExactNewDesk_res : List Sh := [⟨[(0, .c (.bool))], [], []⟩]
noncomputable def laws_FnExactNewDesk : Option ((Bool × Unit) × Unit × Unit) :=
 spec_NewDesk.bind fun r1 =>
 impl_NewDesk.bind fun r2 =>
 (laws_eqDesk r2.1.1.1 r2.2.2.1 r2.2.2.2.1 r2.2.2.2.2.1 r2.1.1.2.2.2.2.1 r2.1.1.2.2.2.2.2.1 r2.1.1.2.2.2.2.2.2.1 r2.1.1.2.2.2.2.2.2.2.1 r2.2.2.2.2.2.1 r2.2.2.2.2.2.2.1 [] r1.1.1.1 r1.2.2.1 r1.2.2.2.1 r1.2.2.2.2.1 r1.1.1.2.2.2.2.1 r1.1.1.2.2.2.2.2.1 r1.1.1.2.2.2.2.2.2.1 r1.1.1.2.2.2.2.2.2.2.1 r1.2.2.2.2.2.1 r1.2.2.2.2.2.2.1 []).bind fun r3 =>
 br (!r3.1.1)
 (some ((false, ()), (), ()))
 ((laws_markDesk r2.1.1.1 r2.1.1.2.2.2.2.1 r2.1.1.2.2.2.2.2.1 r2.1.1.2.2.2.2.2.2.1 r2.1.1.2.2.2.2.2.2.2.1 (1 : Int) r2.2.2.1 r2.2.2.2.1 r2.2.2.2.2.1 r2.2.2.2.2.2.1 r2.2.2.2.2.2.2.1).bind fun r4 =>
 (laws_heldDesk r2.1.1.1 r4.2.2.1 r4.2.2.2.1 r4.2.2.2.2.1 r2.1.1.2.2.2.2.1 r2.1.1.2.2.2.2.2.1 r2.1.1.2.2.2.2.2.2.1 r2.1.1.2.2.2.2.2.2.2.1 r4.2.2.2.2.2.1 r4.2.2.2.2.2.2.1 [] (1 : Int)).bind fun r5 =>
 let x6 : Bool := decide (r5.1.1 < (0 : Int));
 br x6
 (some ((false, ()), (), ()))
 (let x7 : Bool := r5.1.1 != r4.1.1;
 br x7
 (some ((false, ()), (), ()))
 (impl_NewDesk.bind fun r8 =>
 (laws_eqDesk r8.1.1.1 r8.2.2.1 r8.2.2.2.1 r8.2.2.2.2.1 r8.1.1.2.2.2.2.1 r8.1.1.2.2.2.2.2.1 r8.1.1.2.2.2.2.2.2.1 r8.1.1.2.2.2.2.2.2.2.1 r8.2.2.2.2.2.1 r8.2.2.2.2.2.2.1 [] r1.1.1.1 r1.2.2.1 r1.2.2.2.1 r1.2.2.2.2.1 r1.1.1.2.2.2.2.1 r1.1.1.2.2.2.2.2.1 r1.1.1.2.2.2.2.2.2.1 r1.1.1.2.2.2.2.2.2.2.1 r1.2.2.2.2.2.1 r1.2.2.2.2.2.2.1 []).bind fun r9 =>
 br (!r9.1.1)
 (some ((false, ()), (), ()))
 ((laws_heldDesk r2.1.1.1 r4.2.2.1 r4.2.2.2.1 r4.2.2.2.2.1 r2.1.1.2.2.2.2.1 r2.1.1.2.2.2.2.2.1 r2.1.1.2.2.2.2.2.2.1 r2.1.1.2.2.2.2.2.2.2.1 r4.2.2.2.2.2.1 r4.2.2.2.2.2.2.1 [] (1 : Int)).bind fun r10 =>
 let x11 : Bool := decide (r10.1.1 < (0 : Int));
 br x11
 (some ((false, ()), (), ()))
 (let x12 : Bool := r10.1.1 != r4.1.1;
 br x12
 (some ((false, ()), (), ()))
 (some ((true, ()), (), ())))))))
noncomputable def laws_FnExactNewDesk_C : Ctr := ⟨9, laws_FnExactNewDesk_arg, laws_FnExactNewDesk_res, fun x => laws_FnExactNewDesk, none⟩
def laws_FnExactNewDesk_H : Hint := ⟨[], [], [], fun _ => []⟩
noncomputable def laws_FnExactNewDesk_T : List Ctr := [spec_NewDesk_C, impl_NewDesk_C, laws_eqDesk_C, laws_markDesk_C, laws_heldDesk_C]
noncomputable def laws_FnExactNewDesk_Ls : List Lp := []
theorem laws_FnExactNewDesk_e : ∀ x, laws_FnExactNewDesk_C.F x = runBodyW E0 laws_FnExactNewDesk_T laws_FnExactNewDesk_Ls laws_FnExactNewDesk_H 9 Try.f9.results.toList (bodyOf Try.f9) [] (laws_FnExactNewDesk_arg.mk' x) laws_FnExactNewDesk_res := fun x => by kernel_rfl
theorem laws_FnExactNewDesk_ok : laws_FnExactNewDesk_C.Ok E0 := fn_ok (T := laws_FnExactNewDesk_T) (h := laws_FnExactNewDesk_H) (Ls := laws_FnExactNewDesk_Ls) E0_mixed (T_cons spec_NewDesk_ok (T_cons impl_NewDesk_ok (T_cons laws_eqDesk_ok (T_cons laws_markDesk_ok (T_cons laws_heldDesk_ok T_nil))))) Try.func9 (bodyOf_some (by kernel_rfl)) (by kernel_rfl) (loops_of (ks := []) (by kernel_rfl) trivial) laws_FnExactNewDesk_e
end Go.Tree
