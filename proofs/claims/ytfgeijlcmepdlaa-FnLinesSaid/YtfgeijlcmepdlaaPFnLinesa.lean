/- What each function that the law FnLines reaches computes, as a plain function, and the proof that the program's code computes it. No condition but the function's own answer. -/
import Derived.Test.YtfgeijlcmepdlaaK8
import Derived.Test.YtfgeijlcmepdlaaProg
import Derived.KernelRfl
namespace Go.Tree
open Go Go.Proofs
set_option linter.unusedVariables false
set_option maxRecDepth 100000
noncomputable def E0 : Env := { P := Try.prog, hint := fun _ => ⟨[], [], [], fun _ => []⟩, mode := fun f => ([0, 0, 0, 0, 0, 0, 0, 0, 0, 0, 0, 0, 0, 0, 0, 0, 0, 0, 0, 0, 0, 0, 0, 0, 0, 0, 0, 0, 0, 0, 0, 0, 0, 0, 0, 0, 0, 0, 0, 0, 0, 0, 0, 0, 1, 0, 0, 0, 0, 0, 0, 0, 0, 0, 0, 0, 0, 0, 1, 1, 0, 0, 0, 0, 0, 0, 0, 0, 0, 0, 1, 0, 0, 0, 1, 1, 1, 0, 0, 1, 0, 0, 0, 0, 0, 0, 0, 0, 0, 0, 0, 0, 0, 1, 0, 0, 0, 0, 0, 0, 1, 0, 0, 1, 0, 0, 0, 0, 0, 0, 1, 1, 1, 0, 0, 0, 0, 0, 0, 1, 1, 0, 0, 0, 0, 0, 0, 0, 0, 0, 0, 0, 0, 0, 0, 0, 0, 0, 0, 0, 0, 0, 0, 0, 0, 0, 0, 0, 0, 0, 0, 0, 0] : List Nat).getD f 0, nres := fun f => ([0, 0, 0, 1, 1, 1, 1, 1, 1, 1, 1, 2, 1, 2, 4, 2, 1, 1, 1, 2, 1, 1, 1, 3, 2, 1, 1, 2, 3, 1, 2, 1, 3, 1, 1, 1, 1, 4, 1, 1, 1, 1, 3, 1, 1, 1, 2, 1, 1, 1, 1, 1, 1, 1, 1, 1, 1, 1, 1, 1, 1, 1, 1, 1, 1, 1, 1, 1, 1, 1, 1, 1, 1, 1, 1, 1, 2, 1, 3, 2, 1, 1, 1, 1, 2, 3, 1, 1, 2, 1, 1, 1, 1, 1, 1, 1, 1, 2, 1, 1, 1, 1, 1, 1, 2, 1, 0, 2, 1, 1, 1, 1, 1, 1, 1, 1, 1, 1, 1, 1, 1, 2, 1, 2, 2, 1, 0, 0, 1, 1, 1, 1, 1, 1, 1, 1, 1, 0, 1, 0, 1, 0, 1, 0, 1, 0, 1, 0, 1, 1, 0, 0, 1] : List Nat).getD f 0 }
theorem E0_mixed : E0.P.follows .mixedOrders = true := by kernel_rfl
def spec_l01New_arg : Sh := ⟨[(0, .c (.rd [] .u8))], [], []⟩
def spec_l01New_res : List Sh := [⟨[(0, .c (.box 0 0))], [(0, .cells [.rd [] .u8, .int .i64, .int .i64])], []⟩]
noncomputable def spec_l01New_s0 (x : (List Int × Int × Int × Unit) × Unit × Unit) : Option (((List Int × Int × Int × Unit) × Unit × Unit) ⊕ ((List Int × Int × Unit) × Unit × Unit)) :=
 let x2 : Bool := decide (x.1.2.2.1 < (x.1.1.length : Int));
 br x2
 (let x3 : Bool := decide (x.1.2.2.1 < (4000 : Int));
 br x3
 (let x4 : Int := w64 (x.1.2.1 * (1103 : Int));
 ck (0 ≤ x.1.2.2.1)
 (ck (x.1.2.2.1.toNat < x.1.1.length)
 (let x5 : Int := x.1.1.getD x.1.2.2.1.toNat 0;
 let x6 : Int := w64 x5;
 let x7 : Int := w64 (x4 + x6);
 let x8 : Int := w64 (x7 + (7 : Int));
 let x9 : Int := bAnd .i64 x8 (1073741823 : Int);
 let x10 : Int := w64 (x.1.2.2.1 + (1 : Int));
 some (.inl ((x.1.1, x9, x10, ()), (), ())))))
 (some (.inr ((x.1.1, x.1.2.1, ()), (), ()))))
 (some (.inr ((x.1.1, x.1.2.1, ()), (), ())))
def spec_l01New_h0 : Sh := ⟨[(0, .c (.rd [] .u8)), (3, .c (.int .i64)), (4, .c (.int .i64))], [], []⟩
def spec_l01New_r0 : List Sh := [⟨[(0, .c (.rd [] .u8)), (3, .c (.int .i64))], [], []⟩]
noncomputable def spec_l01New_L0 : Lp := ⟨0, [], spec_l01New_h0, [], [(.exit 0, [])], spec_l01New_r0, loopC spec_l01New_s0⟩
noncomputable def spec_l01New (a0 : List Int) : Option ((Unit × Unit) × ((List Int × Int × Int × Unit) × Unit) × Unit) :=
 let x1 : Int := w64 ((3230 : Int) + (a0.length : Int));
 (loopC spec_l01New_s0 ((a0, x1, (0 : Int), ()), (), ())).bind fun r11 =>
 some (((), ()), ((r11.1.1, (0 : Int), r11.1.2.1, ()), ()), ())
noncomputable def spec_l01New_C : Ctr := ⟨45, spec_l01New_arg, spec_l01New_res, fun x => spec_l01New x.1.1, none⟩
def spec_l01New_H : Hint := ⟨[], [], [], fun _ => []⟩
noncomputable def spec_l01New_T : List Ctr := []
noncomputable def spec_l01New_Ls : List Lp := [spec_l01New_L0]
theorem spec_l01New_l0 : ∀ x, spec_l01New_s0 x = stepW E0 spec_l01New_T spec_l01New_Ls spec_l01New_H (loopAt (bodyOf Try.f45) 0) 0 spec_l01New_h0 [] [(.exit 0, [])] spec_l01New_r0 x := fun x => by kernel_rfl
theorem spec_l01New_e : ∀ x, spec_l01New_C.F x = runBodyW E0 spec_l01New_T spec_l01New_Ls spec_l01New_H 45 Try.f45.results.toList (bodyOf Try.f45) [] (spec_l01New_arg.mk' x) spec_l01New_res := fun x => by kernel_rfl
theorem spec_l01New_ok : spec_l01New_C.Ok E0 := fn_ok (T := spec_l01New_T) (h := spec_l01New_H) (Ls := spec_l01New_Ls) E0_mixed T_nil Try.func45 (bodyOf_some (by kernel_rfl)) (by kernel_rfl) (loops_of (ks := [0]) (by kernel_rfl) ⟨(loop_one (h := spec_l01New_H) (own := []) (head := spec_l01New_h0) (back := []) (exs := [(.exit 0, [])]) (res := spec_l01New_r0) (step := spec_l01New_s0) (by kernel_rfl) spec_l01New_l0), trivial⟩) spec_l01New_e
def spec_l01Byte_arg : Sh := ⟨[(0, .c (.box 0 0))], [(0, .cells [.rd [] .u8, .int .i64, .int .i64])], []⟩
def spec_l01Byte_res : List Sh := [⟨[(0, .c (.int .i64)), (1, .c (.box 0 0))], [(0, .cells [.rd [] .u8, .int .i64, .int .i64])], []⟩]
noncomputable def spec_l01Byte (b0_0 : List Int) (b0_1 : Int) (b0_2 : Int) : Option ((Int × Unit × Unit) × ((List Int × Int × Int × Unit) × Unit) × Unit) :=
 let x1 : Int := w64 (b0_2 * (6364136223846793005 : Int));
 let x2 : Int := w64 (x1 + (1442695040888963407 : Int));
 let x3 : Int := x2.fdiv (2 ^ (33));
 let x4 : Int := x2.fdiv (2 ^ (45));
 let x5 : Int := bXor .i64 x3 x4;
 let x6 : Int := bAnd .i64 x5 (255 : Int);
 let x7 : Bool := decide (b0_1 < (b0_0.length : Int));
 br x7
 (ck (0 ≤ b0_1)
 (ck (b0_1.toNat < b0_0.length)
 (let x8 : Int := b0_0.getD b0_1.toNat 0;
 let x9 : Int := w64 x8;
 let x10 : Int := w64 (x6 + x9);
 let x11 : Int := bAnd .i64 x10 (255 : Int);
 let x12 : Int := w64 (b0_1 + (1 : Int));
 some ((x11, (), ()), ((b0_0, x12, x2, ()), ()), ()))))
 (some ((x6, (), ()), ((b0_0, b0_1, x2, ()), ()), ()))
noncomputable def spec_l01Byte_C : Ctr := ⟨103, spec_l01Byte_arg, spec_l01Byte_res, fun x => spec_l01Byte x.2.1.1.1 x.2.1.1.2.1 x.2.1.1.2.2.1, none⟩
def spec_l01Byte_H : Hint := ⟨[], [], [], fun _ => []⟩
noncomputable def spec_l01Byte_T : List Ctr := []
noncomputable def spec_l01Byte_Ls : List Lp := []
theorem spec_l01Byte_e : ∀ x, spec_l01Byte_C.F x = runBodyW E0 spec_l01Byte_T spec_l01Byte_Ls spec_l01Byte_H 103 Try.f103.results.toList (bodyOf Try.f103) [] (spec_l01Byte_arg.mk' x) spec_l01Byte_res := fun x => by kernel_rfl
theorem spec_l01Byte_ok : spec_l01Byte_C.Ok E0 := fn_ok (T := spec_l01Byte_T) (h := spec_l01Byte_H) (Ls := spec_l01Byte_Ls) E0_mixed T_nil Try.func103 (bodyOf_some (by kernel_rfl)) (by kernel_rfl) (loops_of (ks := []) (by kernel_rfl) trivial) spec_l01Byte_e
def spec_l01Below_arg : Sh := ⟨[(0, .c (.box 0 0)), (1, .c (.int .i64))], [(0, .cells [.rd [] .u8, .int .i64, .int .i64])], []⟩
def spec_l01Below_res : List Sh := [⟨[(0, .c (.int .i64)), (1, .c (.box 0 0))], [(0, .cells [.rd [] .u8, .int .i64, .int .i64])], []⟩]
noncomputable def spec_l01Below (a1 : Int) (b0_0 : List Int) (b0_1 : Int) (b0_2 : Int) : Option ((Int × Unit × Unit) × ((List Int × Int × Int × Unit) × Unit) × Unit) :=
 let x1 : Bool := decide (a1 ≤ (0 : Int));
 br x1
 (some (((0 : Int), (), ()), ((b0_0, b0_1, b0_2, ()), ()), ()))
 (let x2 : Bool := decide (a1 ≤ (256 : Int));
 br x2
 ((spec_l01Byte b0_0 b0_1 b0_2).bind fun r3 =>
 ck (a1 ≠ 0)
 (let x4 : Int := r3.1.1.tmod a1;
 some ((x4, (), ()), ((r3.2.1.1.1, r3.2.1.1.2.1, r3.2.1.1.2.2.1, ()), ()), ())))
 ((spec_l01Byte b0_0 b0_1 b0_2).bind fun r5 =>
 (spec_l01Byte r5.2.1.1.1 r5.2.1.1.2.1 r5.2.1.1.2.2.1).bind fun r6 =>
 (spec_l01Byte r6.2.1.1.1 r6.2.1.1.2.1 r6.2.1.1.2.2.1).bind fun r7 =>
 (spec_l01Byte r7.2.1.1.1 r7.2.1.1.2.1 r7.2.1.1.2.2.1).bind fun r8 =>
 let x9 : Int := w64 (r5.1.1 * (16777216 : Int));
 let x10 : Int := w64 (r6.1.1 * (65536 : Int));
 let x11 : Int := w64 (x9 + x10);
 let x12 : Int := w64 (r7.1.1 * (256 : Int));
 let x13 : Int := w64 (x11 + x12);
 let x14 : Int := w64 (x13 + r8.1.1);
 ck (a1 ≠ 0)
 (let x15 : Int := x14.tmod a1;
 some ((x15, (), ()), ((r8.2.1.1.1, r8.2.1.1.2.1, r8.2.1.1.2.2.1, ()), ()), ()))))
noncomputable def spec_l01Below_C : Ctr := ⟨74, spec_l01Below_arg, spec_l01Below_res, fun x => spec_l01Below x.1.2.1 x.2.1.1.1 x.2.1.1.2.1 x.2.1.1.2.2.1, none⟩
def spec_l01Below_H : Hint := ⟨[], [], [], fun _ => []⟩
noncomputable def spec_l01Below_T : List Ctr := [spec_l01Byte_C]
noncomputable def spec_l01Below_Ls : List Lp := []
theorem spec_l01Below_e : ∀ x, spec_l01Below_C.F x = runBodyW E0 spec_l01Below_T spec_l01Below_Ls spec_l01Below_H 74 Try.f74.results.toList (bodyOf Try.f74) [] (spec_l01Below_arg.mk' x) spec_l01Below_res := fun x => by kernel_rfl
theorem spec_l01Below_ok : spec_l01Below_C.Ok E0 := fn_ok (T := spec_l01Below_T) (h := spec_l01Below_H) (Ls := spec_l01Below_Ls) E0_mixed (T_cons spec_l01Byte_ok T_nil) Try.func74 (bodyOf_some (by kernel_rfl)) (by kernel_rfl) (loops_of (ks := []) (by kernel_rfl) trivial) spec_l01Below_e
def spec_l1In_arg : Sh := ⟨[(0, .c (.int .i64)), (1, .c (.int .i64)), (2, .c (.int .i64))], [], []⟩
def spec_l1In_res : List Sh := [⟨[(0, .c (.bool))], [], []⟩]
noncomputable def spec_l1In (a0 : Int) (a1 : Int) (a2 : Int) : Option ((Bool × Unit) × Unit × Unit) :=
 let x1 : Bool := decide (a0 ≥ a1);
 br x1
 (let x2 : Bool := decide (a0 ≤ a2);
 some ((x2, ()), (), ()))
 (some ((false, ()), (), ()))
noncomputable def spec_l1In_C : Ctr := ⟨61, spec_l1In_arg, spec_l1In_res, fun x => spec_l1In x.1.1 x.1.2.1 x.1.2.2.1, none⟩
def spec_l1In_H : Hint := ⟨[], [], [], fun _ => []⟩
noncomputable def spec_l1In_T : List Ctr := []
noncomputable def spec_l1In_Ls : List Lp := []
theorem spec_l1In_e : ∀ x, spec_l1In_C.F x = runBodyW E0 spec_l1In_T spec_l1In_Ls spec_l1In_H 61 Try.f61.results.toList (bodyOf Try.f61) [] (spec_l1In_arg.mk' x) spec_l1In_res := fun x => by kernel_rfl
theorem spec_l1In_ok : spec_l1In_C.Ok E0 := fn_ok (T := spec_l1In_T) (h := spec_l1In_H) (Ls := spec_l1In_Ls) E0_mixed T_nil Try.func61 (bodyOf_some (by kernel_rfl)) (by kernel_rfl) (loops_of (ks := []) (by kernel_rfl) trivial) spec_l1In_e
def spec_l1Set_arg : Sh := ⟨[(0, .c (.int .i64))], [], []⟩
def spec_l1Set_res : List Sh := [⟨[(0, .c (.bool))], [], []⟩]
noncomputable def spec_l1Set (a0 : Int) : Option ((Bool × Unit) × Unit × Unit) :=
 (spec_l1In a0 (0 : Int) (127 : Int)).bind fun r1 =>
 some ((r1.1.1, ()), (), ())
noncomputable def spec_l1Set_C : Ctr := ⟨95, spec_l1Set_arg, spec_l1Set_res, fun x => spec_l1Set x.1.1, none⟩
def spec_l1Set_H : Hint := ⟨[], [], [], fun _ => []⟩
noncomputable def spec_l1Set_T : List Ctr := [spec_l1In_C]
noncomputable def spec_l1Set_Ls : List Lp := []
theorem spec_l1Set_e : ∀ x, spec_l1Set_C.F x = runBodyW E0 spec_l1Set_T spec_l1Set_Ls spec_l1Set_H 95 Try.f95.results.toList (bodyOf Try.f95) [] (spec_l1Set_arg.mk' x) spec_l1Set_res := fun x => by kernel_rfl
theorem spec_l1Set_ok : spec_l1Set_C.Ok E0 := fn_ok (T := spec_l1Set_T) (h := spec_l1Set_H) (Ls := spec_l1Set_Ls) E0_mixed (T_cons spec_l1In_ok T_nil) Try.func95 (bodyOf_some (by kernel_rfl)) (by kernel_rfl) (loops_of (ks := []) (by kernel_rfl) trivial) spec_l1Set_e
def spec_IsBar_arg : Sh := ⟨[(0, .c (.rd [] .i64))], [], []⟩
def spec_IsBar_res : List Sh := [⟨[(0, .c (.bool))], [], []⟩]
noncomputable def spec_IsBar_s0 (x : (List Int × List Int × Int × Int × Unit) × Unit × Unit) : Option (((List Int × List Int × Int × Int × Unit) × Unit × Unit) ⊕ (((Bool × Unit) × Unit × Unit) ⊕ ((List Int × Unit) × Unit × Unit))) :=
 let x1 : Bool := decide (x.1.2.2.2.1 < x.1.2.2.1);
 br x1
 (ck (0 ≤ x.1.2.2.2.1)
 (ck (x.1.2.2.2.1.toNat < x.1.2.1.length)
 (let x2 : Int := x.1.2.1.getD x.1.2.2.2.1.toNat 0;
 (spec_l1Set x2).bind fun r3 =>
 br (!r3.1.1)
 (some (.inr (.inl ((false, ()), (), ()))))
 (let x4 : Int := w64 (x.1.2.2.2.1 + (1 : Int));
 some (.inl ((x.1.1, x.1.2.1, x.1.2.2.1, x4, ()), (), ()))))))
 (some (.inr (.inr ((x.1.1, ()), (), ()))))
def spec_IsBar_h0 : Sh := ⟨[(0, .c (.rd [] .i64)), (5, .c (.rd [] .i64)), (6, .c (.int .i64)), (7, .c (.int .i64))], [], []⟩
def spec_IsBar_r0 : List Sh := [⟨[(2, .c (.bool))], [], []⟩, ⟨[(0, .c (.rd [] .i64))], [], []⟩]
noncomputable def spec_IsBar_L0 : Lp := ⟨0, [], spec_IsBar_h0, [], [(.ret, []), (.exit 0, [])], spec_IsBar_r0, loopC spec_IsBar_s0⟩
noncomputable def spec_IsBar (a0 : List Int) : Option ((Bool × Unit) × Unit × Unit) :=
 (loopC spec_IsBar_s0 ((a0, a0, (a0.length : Int), (0 : Int), ()), (), ())).bind fun r5 =>
 sumK r5 (fun y8 =>
 some ((y8.1.1, ()), (), ())) (fun y9 =>
 (spec_l1In (y9.1.1.length : Int) (1 : Int) (40 : Int)).bind fun r10 =>
 some ((r10.1.1, ()), (), ()))
noncomputable def spec_IsBar_C : Ctr := ⟨116, spec_IsBar_arg, spec_IsBar_res, fun x => spec_IsBar x.1.1, none⟩
def spec_IsBar_H : Hint := ⟨[], [], [], fun _ => []⟩
noncomputable def spec_IsBar_T : List Ctr := [spec_l1Set_C, spec_l1In_C]
noncomputable def spec_IsBar_Ls : List Lp := [spec_IsBar_L0]
theorem spec_IsBar_l0 : ∀ x, spec_IsBar_s0 x = stepW E0 spec_IsBar_T spec_IsBar_Ls spec_IsBar_H (loopAt (bodyOf Try.f116) 0) 0 spec_IsBar_h0 [] [(.ret, []), (.exit 0, [])] spec_IsBar_r0 x := fun x => by kernel_rfl
theorem spec_IsBar_e : ∀ x, spec_IsBar_C.F x = runBodyW E0 spec_IsBar_T spec_IsBar_Ls spec_IsBar_H 116 Try.f116.results.toList (bodyOf Try.f116) [] (spec_IsBar_arg.mk' x) spec_IsBar_res := fun x => by kernel_rfl
theorem spec_IsBar_ok : spec_IsBar_C.Ok E0 := fn_ok (T := spec_IsBar_T) (h := spec_IsBar_H) (Ls := spec_IsBar_Ls) E0_mixed (T_cons spec_l1Set_ok (T_cons spec_l1In_ok T_nil)) Try.func116 (bodyOf_some (by kernel_rfl)) (by kernel_rfl) (loops_of (ks := [0]) (by kernel_rfl) ⟨(loop_one (h := spec_IsBar_H) (own := []) (head := spec_IsBar_h0) (back := []) (exs := [(.ret, []), (.exit 0, [])]) (res := spec_IsBar_r0) (step := spec_IsBar_s0) (by kernel_rfl) spec_IsBar_l0), trivial⟩) spec_IsBar_e
def spec_l1Sets_arg : Sh := ⟨[(0, .c (.rd [] .i64))], [], []⟩
def spec_l1Sets_res : List Sh := [⟨[(0, .c (.bool))], [], []⟩]
noncomputable def spec_l1Sets_s2 (x : (List Int × Int × List Int × Int × Int × List Int × Int × Int × Unit) × Unit × Unit) : Option (((List Int × Int × List Int × Int × Int × List Int × Int × Int × Unit) × Unit × Unit) ⊕ (((Bool × Unit) × Unit × Unit) ⊕ ((List Int × List Int × Int × Int × Unit) × Unit × Unit))) :=
 let x4 : Bool := decide (x.1.2.2.2.2.2.2.2.1 < x.1.2.2.2.2.2.2.1);
 br x4
 (ck (0 ≤ x.1.2.2.2.2.2.2.2.1)
 (ck (x.1.2.2.2.2.2.2.2.1.toNat < x.1.2.2.2.2.2.1.length)
 (let x5 : Int := x.1.2.2.2.2.2.1.getD x.1.2.2.2.2.2.2.2.1.toNat 0;
 let x6 : Bool := x.1.2.1 == x5;
 br x6
 (some (.inr (.inl ((false, ()), (), ()))))
 (let x7 : Int := w64 (x.1.2.2.2.2.2.2.2.1 + (1 : Int));
 some (.inl ((x.1.1, x.1.2.1, x.1.2.2.1, x.1.2.2.2.1, x.1.2.2.2.2.1, x.1.2.2.2.2.2.1, x.1.2.2.2.2.2.2.1, x7, ()), (), ()))))))
 (some (.inr (.inr ((x.1.1, x.1.2.2.1, x.1.2.2.2.1, x.1.2.2.2.2.1, ()), (), ()))))
def spec_l1Sets_h2 : Sh := ⟨[(0, .c (.rd [] .i64)), (4, .c (.int .i64)), (7, .c (.rd [] .i64)), (8, .c (.int .i64)), (9, .c (.int .i64)), (16, .c (.rd [] .i64)), (17, .c (.int .i64)), (18, .c (.int .i64))], [], []⟩
def spec_l1Sets_r2 : List Sh := [⟨[(2, .c (.bool))], [], []⟩, ⟨[(0, .c (.rd [] .i64)), (7, .c (.rd [] .i64)), (8, .c (.int .i64)), (9, .c (.int .i64))], [], []⟩]
noncomputable def spec_l1Sets_L2 : Lp := ⟨2, [], spec_l1Sets_h2, [], [(.ret, []), (.exit 2, [])], spec_l1Sets_r2, loopC spec_l1Sets_s2⟩
noncomputable def spec_l1Sets_s0 (x : (List Int × List Int × Int × Int × Unit) × Unit × Unit) : Option (((List Int × List Int × Int × Int × Unit) × Unit × Unit) ⊕ (((Bool × Unit) × Unit × Unit) ⊕ ((List Int × Unit) × Unit × Unit))) :=
 let x1 : Bool := decide (x.1.2.2.2.1 < x.1.2.2.1);
 br x1
 (ck (0 ≤ x.1.2.2.2.1)
 (ck (x.1.2.2.2.1.toNat < x.1.2.1.length)
 (let x2 : Int := x.1.2.1.getD x.1.2.2.2.1.toNat 0;
 ck (0 ≤ x.1.2.2.2.1)
 (ck (0 ≤ x.1.2.2.2.1.toNat ∧ x.1.2.2.2.1.toNat ≤ x.1.1.length)
 (let x3 : List Int := cut x.1.1 0 x.1.2.2.2.1.toNat;
 (loopC spec_l1Sets_s2 ((x.1.1, x2, x.1.2.1, x.1.2.2.1, x.1.2.2.2.1, x3, (x3.length : Int), (0 : Int), ()), (), ())).bind fun r8 =>
 sumK r8 (fun y11 =>
 some (.inr (.inl ((y11.1.1, ()), (), ())))) (fun y12 =>
 let x13 : Int := w64 (y12.1.2.2.2.1 + (1 : Int));
 some (.inl ((y12.1.1, y12.1.2.1, y12.1.2.2.1, x13, ()), (), ()))))))))
 (some (.inr (.inr ((x.1.1, ()), (), ()))))
def spec_l1Sets_h0 : Sh := ⟨[(0, .c (.rd [] .i64)), (7, .c (.rd [] .i64)), (8, .c (.int .i64)), (9, .c (.int .i64))], [], []⟩
def spec_l1Sets_r0 : List Sh := [⟨[(2, .c (.bool))], [], []⟩, ⟨[(0, .c (.rd [] .i64))], [], []⟩]
noncomputable def spec_l1Sets_L0 : Lp := ⟨0, [], spec_l1Sets_h0, [], [(.ret, []), (.exit 0, [])], spec_l1Sets_r0, loopC spec_l1Sets_s0⟩
noncomputable def spec_l1Sets (a0 : List Int) : Option ((Bool × Unit) × Unit × Unit) :=
 (loopC spec_l1Sets_s0 ((a0, a0, (a0.length : Int), (0 : Int), ()), (), ())).bind fun r14 =>
 sumK r14 (fun y17 =>
 some ((y17.1.1, ()), (), ())) (fun y18 =>
 (spec_IsBar y18.1.1).bind fun r19 =>
 some ((r19.1.1, ()), (), ()))
noncomputable def spec_l1Sets_C : Ctr := ⟨87, spec_l1Sets_arg, spec_l1Sets_res, fun x => spec_l1Sets x.1.1, none⟩
def spec_l1Sets_H : Hint := ⟨[], [], [], fun _ => []⟩
noncomputable def spec_l1Sets_T : List Ctr := [spec_IsBar_C]
noncomputable def spec_l1Sets_Ls : List Lp := [spec_l1Sets_L2, spec_l1Sets_L0]
theorem spec_l1Sets_l0 : ∀ x, spec_l1Sets_s0 x = stepW E0 spec_l1Sets_T spec_l1Sets_Ls spec_l1Sets_H (loopAt (bodyOf Try.f87) 0) 0 spec_l1Sets_h0 [] [(.ret, []), (.exit 0, [])] spec_l1Sets_r0 x := fun x => by kernel_rfl
theorem spec_l1Sets_l2 : ∀ x, spec_l1Sets_s2 x = stepW E0 spec_l1Sets_T spec_l1Sets_Ls spec_l1Sets_H (loopAt (bodyOf Try.f87) 1) 2 spec_l1Sets_h2 [] [(.ret, []), (.exit 2, [])] spec_l1Sets_r2 x := fun x => by kernel_rfl
theorem spec_l1Sets_e : ∀ x, spec_l1Sets_C.F x = runBodyW E0 spec_l1Sets_T spec_l1Sets_Ls spec_l1Sets_H 87 Try.f87.results.toList (bodyOf Try.f87) [] (spec_l1Sets_arg.mk' x) spec_l1Sets_res := fun x => by kernel_rfl
theorem spec_l1Sets_ok : spec_l1Sets_C.Ok E0 := fn_ok (T := spec_l1Sets_T) (h := spec_l1Sets_H) (Ls := spec_l1Sets_Ls) E0_mixed (T_cons spec_IsBar_ok T_nil) Try.func87 (bodyOf_some (by kernel_rfl)) (by kernel_rfl) (loops_of (ks := [0, 2]) (by kernel_rfl) ⟨(loop_one (h := spec_l1Sets_H) (own := []) (head := spec_l1Sets_h0) (back := []) (exs := [(.ret, []), (.exit 0, [])]) (res := spec_l1Sets_r0) (step := spec_l1Sets_s0) (by kernel_rfl) spec_l1Sets_l0), (loop_one (h := spec_l1Sets_H) (own := []) (head := spec_l1Sets_h2) (back := []) (exs := [(.ret, []), (.exit 2, [])]) (res := spec_l1Sets_r2) (step := spec_l1Sets_s2) (by kernel_rfl) spec_l1Sets_l2), trivial⟩) spec_l1Sets_e
def spec_l1Part_arg : Sh := ⟨[(0, .c (.int .i64)), (1, .c (.int .i64))], [], []⟩
def spec_l1Part_res : List Sh := [⟨[(0, .c (.bool))], [], []⟩]
noncomputable def spec_l1Part (a0 : Int) (a1 : Int) : Option ((Bool × Unit) × Unit × Unit) :=
 let x1 : Int := bAndNot .i64 a0 a1;
 let x2 : Bool := x1 == (0 : Int);
 some ((x2, ()), (), ())
noncomputable def spec_l1Part_C : Ctr := ⟨96, spec_l1Part_arg, spec_l1Part_res, fun x => spec_l1Part x.1.1 x.1.2.1, none⟩
def spec_l1Part_H : Hint := ⟨[], [], [], fun _ => []⟩
noncomputable def spec_l1Part_T : List Ctr := []
noncomputable def spec_l1Part_Ls : List Lp := []
theorem spec_l1Part_e : ∀ x, spec_l1Part_C.F x = runBodyW E0 spec_l1Part_T spec_l1Part_Ls spec_l1Part_H 96 Try.f96.results.toList (bodyOf Try.f96) [] (spec_l1Part_arg.mk' x) spec_l1Part_res := fun x => by kernel_rfl
theorem spec_l1Part_ok : spec_l1Part_C.Ok E0 := fn_ok (T := spec_l1Part_T) (h := spec_l1Part_H) (Ls := spec_l1Part_Ls) E0_mixed T_nil Try.func96 (bodyOf_some (by kernel_rfl)) (by kernel_rfl) (loops_of (ks := []) (by kernel_rfl) trivial) spec_l1Part_e
def spec_l1Free_arg : Sh := ⟨[(0, .c (.rd [] .i64)), (1, .c (.rd [] .bool)), (2, .c (.int .i64))], [], []⟩
def spec_l1Free_res : List Sh := [⟨[(0, .c (.bool))], [], []⟩]
noncomputable def spec_l1Free_s0 (x : (List Int × List Bool × Int × List Int × Int × Int × Unit) × Unit × Unit) : Option (((List Int × List Bool × Int × List Int × Int × Int × Unit) × Unit × Unit) ⊕ (((Bool × Unit) × Unit × Unit) ⊕ (Unit × Unit × Unit))) :=
 let x1 : Bool := decide (x.1.2.2.2.2.2.1 < x.1.2.2.2.2.1);
 br x1
 (ck (0 ≤ x.1.2.2.2.2.2.1)
 (ck (x.1.2.2.2.2.2.1.toNat < x.1.2.2.2.1.length)
 (let x2 : Int := x.1.2.2.2.1.getD x.1.2.2.2.2.2.1.toNat 0;
 let x3 : Bool := x.1.2.2.2.2.2.1 != x.1.2.2.1;
 br x3
 (ck (0 ≤ x.1.2.2.2.2.2.1)
 (ck (x.1.2.2.2.2.2.1.toNat < x.1.2.1.length)
 (let x4 : Bool := x.1.2.1.getD x.1.2.2.2.2.2.1.toNat false;
 br x4
 (ck (0 ≤ x.1.2.2.1)
 (ck (x.1.2.2.1.toNat < x.1.1.length)
 (let x5 : Int := x.1.1.getD x.1.2.2.1.toNat 0;
 (spec_l1Part x2 x5).bind fun r6 =>
 br r6.1.1
 (some (.inr (.inl ((false, ()), (), ()))))
 (let x7 : Int := w64 (x.1.2.2.2.2.2.1 + (1 : Int));
 some (.inl ((x.1.1, x.1.2.1, x.1.2.2.1, x.1.2.2.2.1, x.1.2.2.2.2.1, x7, ()), (), ()))))))
 (let x8 : Int := w64 (x.1.2.2.2.2.2.1 + (1 : Int));
 some (.inl ((x.1.1, x.1.2.1, x.1.2.2.1, x.1.2.2.2.1, x.1.2.2.2.2.1, x8, ()), (), ()))))))
 (let x9 : Int := w64 (x.1.2.2.2.2.2.1 + (1 : Int));
 some (.inl ((x.1.1, x.1.2.1, x.1.2.2.1, x.1.2.2.2.1, x.1.2.2.2.2.1, x9, ()), (), ()))))))
 (some (.inr (.inr ((), (), ()))))
def spec_l1Free_h0 : Sh := ⟨[(0, .c (.rd [] .i64)), (1, .c (.rd [] .bool)), (2, .c (.int .i64)), (9, .c (.rd [] .i64)), (10, .c (.int .i64)), (11, .c (.int .i64))], [], []⟩
def spec_l1Free_r0 : List Sh := [⟨[(6, .c (.bool))], [], []⟩, ⟨[], [], []⟩]
noncomputable def spec_l1Free_L0 : Lp := ⟨0, [], spec_l1Free_h0, [], [(.ret, []), (.exit 0, [])], spec_l1Free_r0, loopC spec_l1Free_s0⟩
noncomputable def spec_l1Free (a0 : List Int) (a1 : List Bool) (a2 : Int) : Option ((Bool × Unit) × Unit × Unit) :=
 (loopC spec_l1Free_s0 ((a0, a1, a2, a0, (a0.length : Int), (0 : Int), ()), (), ())).bind fun r10 =>
 sumK r10 (fun y13 =>
 some ((y13.1.1, ()), (), ())) (fun y14 =>
 some ((true, ()), (), ()))
noncomputable def spec_l1Free_C : Ctr := ⟨117, spec_l1Free_arg, spec_l1Free_res, fun x => spec_l1Free x.1.1 x.1.2.1 x.1.2.2.1, none⟩
def spec_l1Free_H : Hint := ⟨[], [], [], fun _ => []⟩
noncomputable def spec_l1Free_T : List Ctr := [spec_l1Part_C]
noncomputable def spec_l1Free_Ls : List Lp := [spec_l1Free_L0]
theorem spec_l1Free_l0 : ∀ x, spec_l1Free_s0 x = stepW E0 spec_l1Free_T spec_l1Free_Ls spec_l1Free_H (loopAt (bodyOf Try.f117) 0) 0 spec_l1Free_h0 [] [(.ret, []), (.exit 0, [])] spec_l1Free_r0 x := fun x => by kernel_rfl
theorem spec_l1Free_e : ∀ x, spec_l1Free_C.F x = runBodyW E0 spec_l1Free_T spec_l1Free_Ls spec_l1Free_H 117 Try.f117.results.toList (bodyOf Try.f117) [] (spec_l1Free_arg.mk' x) spec_l1Free_res := fun x => by kernel_rfl
theorem spec_l1Free_ok : spec_l1Free_C.Ok E0 := fn_ok (T := spec_l1Free_T) (h := spec_l1Free_H) (Ls := spec_l1Free_Ls) E0_mixed (T_cons spec_l1Part_ok T_nil) Try.func117 (bodyOf_some (by kernel_rfl)) (by kernel_rfl) (loops_of (ks := [0]) (by kernel_rfl) ⟨(loop_one (h := spec_l1Free_H) (own := []) (head := spec_l1Free_h0) (back := []) (exs := [(.ret, []), (.exit 0, [])]) (res := spec_l1Free_r0) (step := spec_l1Free_s0) (by kernel_rfl) spec_l1Free_l0), trivial⟩) spec_l1Free_e
def spec_OrderBar_arg : Sh := ⟨[(0, .c (.rd [] .i64))], [], []⟩
def spec_OrderBar_res : List Sh := [⟨[(0, .c (.own 0)), (1, .c (.bool))], [], [(0, .i64)]⟩]
noncomputable def spec_OrderBar_s0 (x : (List Int × Unit × Int × Int × Unit) × Unit × (List Bool × Unit)) : Option (((List Int × Unit × Int × Int × Unit) × Unit × (List Bool × Unit)) ⊕ ((List Int × Unit × Unit) × Unit × (List Bool × Unit))) :=
 let x3 : Bool := decide (x.1.2.2.2.1 < x.1.2.2.1);
 br x3
 (ck (0 ≤ x.1.2.2.2.1)
 (ck (x.1.2.2.2.1.toNat < x.2.2.1.length)
 (ck (x.1.2.2.2.1.toNat < x.2.2.1.length)
 (let x4 : List Bool := x.2.2.1.set x.1.2.2.2.1.toNat true;
 let x5 : Int := w64 (x.1.2.2.2.1 + (1 : Int));
 some (.inl ((x.1.1, (), x.1.2.2.1, x5, ()), (), (x4, ())))))))
 (some (.inr ((x.1.1, (), ()), (), (x.2.2.1, ()))))
def spec_OrderBar_h0 : Sh := ⟨[(0, .c (.rd [] .i64)), (4, .c (.own 0)), (16, .c (.int .i64)), (17, .c (.int .i64))], [], [(0, .bool)]⟩
def spec_OrderBar_r0 : List Sh := [⟨[(0, .c (.rd [] .i64)), (4, .c (.own 0))], [], [(0, .bool)]⟩]
noncomputable def spec_OrderBar_L0 : Lp := ⟨0, [], spec_OrderBar_h0, [], [(.exit 0, [])], spec_OrderBar_r0, loopC spec_OrderBar_s0⟩
noncomputable def spec_OrderBar_s4 (x : (List Int × Unit × Unit × List Int × Int × Int × Unit) × Unit × (List Bool × List Int × Unit)) : Option (((List Int × Unit × Unit × List Int × Int × Int × Unit) × Unit × (List Bool × List Int × Unit)) ⊕ (((List Int × Unit × Unit × List Int × Unit × Int × Bool × Unit) × Unit × (List Bool × List Int × Unit)) ⊕ ((List Int × Unit × Unit × Unit) × Unit × (List Bool × List Int × Unit)))) :=
 let x8 : Bool := decide (x.1.2.2.2.2.2.1 < x.1.2.2.2.2.1);
 br x8
 (ck (0 ≤ x.1.2.2.2.2.2.1)
 (ck (x.1.2.2.2.2.2.1.toNat < x.1.2.2.2.1.length)
 (let x9 : Int := x.1.2.2.2.1.getD x.1.2.2.2.2.2.1.toNat 0;
 ck (0 ≤ x.1.2.2.2.2.2.1)
 (ck (x.1.2.2.2.2.2.1.toNat < x.2.2.1.length)
 (ck (x.1.2.2.2.2.2.1.toNat < x.2.2.1.length)
 (let x10 : Bool := x.2.2.1.getD x.1.2.2.2.2.2.1.toNat false;
 br x10
 ((spec_l1Free x.1.1 x.2.2.1 x.1.2.2.2.2.2.1).bind fun r11 =>
 br r11.1.1
 (ck ((x.2.2.2.1.length + [x9].length) * 8 ≤ 140737488355328 ∧ (x.2.2.2.1.length + [x9].length) ≤ 9223372036854775807)
 (let x12 : List Int := x.2.2.2.1 ++ [x9];
 ck (0 ≤ x.1.2.2.2.2.2.1)
 (ck (x.1.2.2.2.2.2.1.toNat < x.2.2.1.length)
 (ck (x.1.2.2.2.2.2.1.toNat < x.2.2.1.length)
 (let x13 : List Bool := x.2.2.1.set x.1.2.2.2.2.2.1.toNat false;
 some (.inr (.inl ((x.1.1, (), (), x.1.1, (), x.1.2.2.2.2.2.1, r11.1.1, ()), (), (x13, x12, ())))))))))
 (let x14 : Int := w64 (x.1.2.2.2.2.2.1 + (1 : Int));
 some (.inl ((x.1.1, (), (), x.1.2.2.2.1, x.1.2.2.2.2.1, x14, ()), (), (x.2.2.1, x.2.2.2.1, ())))))
 (let x15 : Int := w64 (x.1.2.2.2.2.2.1 + (1 : Int));
 some (.inl ((x.1.1, (), (), x.1.2.2.2.1, x.1.2.2.2.2.1, x15, ()), (), (x.2.2.1, x.2.2.2.1, ()))))))))))
 (some (.inr (.inr ((x.1.1, (), (), ()), (), (x.2.2.1, x.2.2.2.1, ())))))
def spec_OrderBar_h4 : Sh := ⟨[(0, .c (.rd [] .i64)), (4, .c (.own 0)), (6, .c (.own 1)), (30, .c (.rd [] .i64)), (31, .c (.int .i64)), (32, .c (.int .i64))], [], [(0, .bool), (1, .i64)]⟩
def spec_OrderBar_r4 : List Sh := [⟨[(0, .c (.rd [] .i64)), (4, .c (.own 0)), (6, .c (.own 1)), (42, .c (.rd [] .i64)), (43, .c (.own 0)), (44, .c (.int .i64)), (45, .c (.bool))], [], [(0, .bool), (1, .i64)]⟩, ⟨[(0, .c (.rd [] .i64)), (4, .c (.own 0)), (6, .c (.own 1))], [], [(0, .bool), (1, .i64)]⟩]
noncomputable def spec_OrderBar_L4 : Lp := ⟨4, [], spec_OrderBar_h4, [], [(.exit 4, []), (.exit 4, [])], spec_OrderBar_r4, loopC spec_OrderBar_s4⟩
noncomputable def spec_OrderBar_s2 (x : (List Int × Unit × Unit × Unit) × Unit × (List Bool × List Int × Unit)) : Option (((List Int × Unit × Unit × Unit) × Unit × (List Bool × List Int × Unit)) ⊕ ((Unit × Unit) × Unit × (List Int × Unit))) :=
 let x7 : Bool := decide ((x.2.2.2.1.length : Int) < (x.1.1.length : Int));
 br x7
 ((loopC spec_OrderBar_s4 ((x.1.1, (), (), x.1.1, (x.1.1.length : Int), (0 : Int), ()), (), (x.2.2.1, x.2.2.2.1, ()))).bind fun r16 =>
 sumK r16 (fun y19 =>
 some (.inl ((y19.1.1, (), (), ()), (), (y19.2.2.1, y19.2.2.2.1, ())))) (fun y20 =>
 some (.inl ((y20.1.1, (), (), ()), (), (y20.2.2.1, y20.2.2.2.1, ())))))
 (some (.inr (((), ()), (), (x.2.2.2.1, ()))))
def spec_OrderBar_h2 : Sh := ⟨[(0, .c (.rd [] .i64)), (4, .c (.own 0)), (6, .c (.own 1))], [], [(0, .bool), (1, .i64)]⟩
def spec_OrderBar_r2 : List Sh := [⟨[(6, .c (.own 0))], [], [(0, .i64)]⟩]
noncomputable def spec_OrderBar_L2 : Lp := ⟨2, [], spec_OrderBar_h2, [], [(.exit 2, [])], spec_OrderBar_r2, loopC spec_OrderBar_s2⟩
noncomputable def spec_OrderBar (a0 : List Int) : Option ((Unit × Bool × Unit) × Unit × (List Int × Unit)) :=
 (spec_l1Sets a0).bind fun r1 =>
 br (!r1.1.1)
 (some (((), false, ()), (), ([], ())))
 (ck (0 ≤ (a0.length : Int))
 (ck (0 ≤ (a0.length : Int))
 (ck ((a0.length : Int).toNat = (a0.length : Int).toNat ∧ (a0.length : Int).toNat * 1 ≤ 140737488355328 ∧ (a0.length : Int).toNat ≤ 9223372036854775807)
 (let x2 : List Bool := List.replicate ((a0.length : Int).toNat) false;
 (loopC spec_OrderBar_s0 ((a0, (), (x2.length : Int), (0 : Int), ()), (), (x2, ()))).bind fun r6 =>
 (loopC spec_OrderBar_s2 ((r6.1.1, (), (), ()), (), (r6.2.2.1, [], ()))).bind fun r21 =>
 some (((), true, ()), (), (r21.2.2.1, ()))))))
noncomputable def spec_OrderBar_C : Ctr := ⟨88, spec_OrderBar_arg, spec_OrderBar_res, fun x => spec_OrderBar x.1.1, none⟩
def spec_OrderBar_H : Hint := ⟨[], [], [], fun _ => []⟩
noncomputable def spec_OrderBar_T : List Ctr := [spec_l1Sets_C, spec_l1Free_C]
noncomputable def spec_OrderBar_Ls : List Lp := [spec_OrderBar_L0, spec_OrderBar_L4, spec_OrderBar_L2]
theorem spec_OrderBar_l0 : ∀ x, spec_OrderBar_s0 x = stepW E0 spec_OrderBar_T spec_OrderBar_Ls spec_OrderBar_H (loopAt (bodyOf Try.f88) 0) 0 spec_OrderBar_h0 [] [(.exit 0, [])] spec_OrderBar_r0 x := fun x => by kernel_rfl
theorem spec_OrderBar_l2 : ∀ x, spec_OrderBar_s2 x = stepW E0 spec_OrderBar_T spec_OrderBar_Ls spec_OrderBar_H (loopAt (bodyOf Try.f88) 1) 2 spec_OrderBar_h2 [] [(.exit 2, [])] spec_OrderBar_r2 x := fun x => by kernel_rfl
theorem spec_OrderBar_l4 : ∀ x, spec_OrderBar_s4 x = stepW E0 spec_OrderBar_T spec_OrderBar_Ls spec_OrderBar_H (loopAt (bodyOf Try.f88) 2) 4 spec_OrderBar_h4 [] [(.exit 4, []), (.exit 4, [])] spec_OrderBar_r4 x := fun x => by kernel_rfl
theorem spec_OrderBar_e : ∀ x, spec_OrderBar_C.F x = runBodyW E0 spec_OrderBar_T spec_OrderBar_Ls spec_OrderBar_H 88 Try.f88.results.toList (bodyOf Try.f88) [(.tm 2, 6000000, .i64)] (spec_OrderBar_arg.mk' x) spec_OrderBar_res := fun x => by kernel_rfl
theorem spec_OrderBar_ok : spec_OrderBar_C.Ok E0 := fn_ok (T := spec_OrderBar_T) (h := spec_OrderBar_H) (Ls := spec_OrderBar_Ls) E0_mixed (T_cons spec_l1Sets_ok (T_cons spec_l1Free_ok T_nil)) Try.func88 (bodyOf_some (by kernel_rfl)) (by kernel_rfl) (loops_of (ks := [0, 2, 4]) (by kernel_rfl) ⟨(loop_one (h := spec_OrderBar_H) (own := []) (head := spec_OrderBar_h0) (back := []) (exs := [(.exit 0, [])]) (res := spec_OrderBar_r0) (step := spec_OrderBar_s0) (by kernel_rfl) spec_OrderBar_l0), (loop_one (h := spec_OrderBar_H) (own := []) (head := spec_OrderBar_h2) (back := []) (exs := [(.exit 2, [])]) (res := spec_OrderBar_r2) (step := spec_OrderBar_s2) (by kernel_rfl) spec_OrderBar_l2), (loop_one (h := spec_OrderBar_H) (own := []) (head := spec_OrderBar_h4) (back := []) (exs := [(.exit 4, []), (.exit 4, [])]) (res := spec_OrderBar_r4) (step := spec_OrderBar_s4) (by kernel_rfl) spec_OrderBar_l4), trivial⟩) spec_OrderBar_e
def spec_l2Font_arg : Sh := ⟨[(0, .c (.box 0 0)), (1, .c (.int .i64))], [(0, .cells [.rd [] .u8, .int .i64, .int .i64])], []⟩
def spec_l2Font_res : List Sh := [⟨[(0, .agg [.str, .own 0, .own 1]), (1, .c (.box 0 0))], [(0, .cells [.rd [] .u8, .int .i64, .int .i64])], [(0, .i64), (1, .i64)]⟩]
noncomputable def spec_l2Font_s0 (x : (Unit × Unit × Unit × Unit × Int × Unit) × ((List Int × Int × Int × Unit) × (ByteArray × Unit × Unit × Unit) × (ByteArray × Unit × Unit × Unit) × Unit) × (List Int × Unit)) : Option (((Unit × Unit × Unit × Unit × Int × Unit) × ((List Int × Int × Int × Unit) × (ByteArray × Unit × Unit × Unit) × (ByteArray × Unit × Unit × Unit) × Unit) × (List Int × Unit)) ⊕ ((Unit × Unit × Unit × Unit × Unit) × ((List Int × Int × Int × Unit) × (ByteArray × Unit × Unit × Unit) × (ByteArray × Unit × Unit × Unit) × Unit) × (List Int × Unit))) :=
 let x3 : Bool := decide (x.1.2.2.2.2.1 > (0 : Int));
 br x3
 ((spec_l01Below (5 : Int) x.2.1.1.1 x.2.1.1.2.1 x.2.1.1.2.2.1).bind fun r4 =>
 ck (0 ≤ r4.1.1)
 (let x5 : Int := w64 ((1 : Int) * 2 ^ (min r4.1.1.toNat 64));
 (spec_l01Below (5 : Int) r4.2.1.1.1 r4.2.1.1.2.1 r4.2.1.1.2.2.1).bind fun r6 =>
 ck (0 ≤ r6.1.1)
 (let x7 : Int := w64 ((1 : Int) * 2 ^ (min r6.1.1.toNat 64));
 let x8 : Int := bOr .i64 x5 x7;
 (spec_l01Below (7 : Int) r6.2.1.1.1 r6.2.1.1.2.1 r6.2.1.1.2.2.1).bind fun r9 =>
 ck (0 ≤ r9.1.1)
 (let x10 : Int := w64 ((1 : Int) * 2 ^ (min r9.1.1.toNat 64));
 let x11 : Int := bOr .i64 x8 x10;
 ck ((([] : List Int).length + x.2.2.1.length) * 8 ≤ 140737488355328 ∧ (([] : List Int).length + x.2.2.1.length) ≤ 9223372036854775807)
 (let x12 : List Int := [] ++ x.2.2.1;
 ck ((x12.length + [x11].length) * 8 ≤ 140737488355328 ∧ (x12.length + [x11].length) ≤ 9223372036854775807)
 (let x13 : List Int := x12 ++ [x11];
 (spec_l1Sets x13).bind fun r14 =>
 br r14.1.1
 (let x15 : Int := w64 (x.1.2.2.2.2.1 - (1 : Int));
 some (.inl (((), (), (), (), x15, ()), ((r9.2.1.1.1, r9.2.1.1.2.1, r9.2.1.1.2.2.1, ()), (x.2.1.2.1.1, (), (), ()), (x.2.1.2.2.1.1, (), (), ()), ()), (x13, ()))))
 (let x16 : Int := w64 (x.1.2.2.2.2.1 - (1 : Int));
 some (.inl (((), (), (), (), x16, ()), ((r9.2.1.1.1, r9.2.1.1.2.1, r9.2.1.1.2.2.1, ()), (x.2.1.2.1.1, (), (), ()), (x.2.1.2.2.1.1, (), (), ()), ()), (x.2.2.1, ()))))))))))
 (some (.inr (((), (), (), (), ()), ((x.2.1.1.1, x.2.1.1.2.1, x.2.1.1.2.2.1, ()), (x.2.1.2.1.1, (), (), ()), (x.2.1.2.2.1.1, (), (), ()), ()), (x.2.2.1, ()))))
def spec_l2Font_h0 : Sh := ⟨[(0, .c (.box 0 0)), (4, .c (.box 1 0)), (5, .c (.box 2 0)), (6, .c (.own 0)), (7, .c (.int .i64))], [(0, .cells [.rd [] .u8, .int .i64, .int .i64]), (1, .cells [.str, .nil, .nil]), (2, .cells [.str, .nil, .nil])], [(0, .i64)]⟩
def spec_l2Font_r0 : List Sh := [⟨[(0, .c (.box 0 0)), (4, .c (.box 1 0)), (5, .c (.box 2 0)), (6, .c (.own 0))], [(0, .cells [.rd [] .u8, .int .i64, .int .i64]), (1, .cells [.str, .nil, .nil]), (2, .cells [.str, .nil, .nil])], [(0, .i64)]⟩]
noncomputable def spec_l2Font_L0 : Lp := ⟨0, [], spec_l2Font_h0, [], [(.exit 0, [])], spec_l2Font_r0, loopC spec_l2Font_s0⟩
noncomputable def spec_l2Font_s2 (x : (Unit × Unit × Unit × Int × Int × Unit) × ((List Int × Int × Int × Unit) × (ByteArray × Unit × Unit × Unit) × (ByteArray × Unit × Unit × Unit) × Unit) × (List Int × List Int × Unit)) : Option (((Unit × Unit × Unit × Int × Int × Unit) × ((List Int × Int × Int × Unit) × (ByteArray × Unit × Unit × Unit) × (ByteArray × Unit × Unit × Unit) × Unit) × (List Int × List Int × Unit)) ⊕ ((Unit × Unit × Unit × Unit) × ((List Int × Int × Int × Unit) × (ByteArray × Unit × Unit × Unit) × (ByteArray × Unit × Unit × Unit) × Unit) × (List Int × List Int × Unit))) :=
 let x19 : Bool := decide (x.1.2.2.2.2.1 < x.1.2.2.2.1);
 br x19
 (let x20 : Int := w64 (x.1.2.2.2.2.1 + (1 : Int));
 ck (0 ≤ x.1.2.2.2.2.1)
 (ck (0 ≤ x20)
 (ck (x.1.2.2.2.2.1.toNat ≤ x20.toNat ∧ x20.toNat ≤ (ByteArray.mk #[97, 101, 110, 111, 114, 116, 105, 46, 44, 104, 115, 100, 108, 117, 99, 109, 102, 119, 45, 103, 121, 112, 98, 118, 107, 113, 120, 106, 122, 33, 40, 41, 48, 49, 50, 51, 52, 53, 54, 55]).size)
 (let x21 : ByteArray := (ByteArray.mk #[97, 101, 110, 111, 114, 116, 105, 46, 44, 104, 115, 100, 108, 117, 99, 109, 102, 119, 45, 103, 121, 112, 98, 118, 107, 113, 120, 106, 122, 33, 40, 41, 48, 49, 50, 51, 52, 53, 54, 55]).extract x.1.2.2.2.2.1.toNat x20.toNat;
 ck (((x.2.1.2.2.1.1.size + x21.size : Nat) : Int) ≤ IntKind.i64.max)
 (let x22 : ByteArray := x.2.1.2.2.1.1 ++ x21;
 (spec_l01Below (20 : Int) x.2.1.1.1 x.2.1.1.2.1 x.2.1.1.2.2.1).bind fun r23 =>
 let x24 : Int := w64 ((1 : Int) + r23.1.1);
 ck ((x.2.2.1.length + [x24].length) * 8 ≤ 140737488355328 ∧ (x.2.2.1.length + [x24].length) ≤ 9223372036854775807)
 (let x25 : List Int := x.2.2.1 ++ [x24];
 some (.inl (((), (), (), x.1.2.2.2.1, x20, ()), ((r23.2.1.1.1, r23.2.1.1.2.1, r23.2.1.1.2.2.1, ()), (x.2.1.2.1.1, (), (), ()), (x22, (), (), ()), ()), (x25, x.2.2.2.1, ())))))))))
 (some (.inr (((), (), (), ()), ((x.2.1.1.1, x.2.1.1.2.1, x.2.1.1.2.2.1, ()), (x.2.1.2.1.1, (), (), ()), (x.2.1.2.2.1.1, (), (), ()), ()), (x.2.2.1, x.2.2.2.1, ()))))
def spec_l2Font_h2 : Sh := ⟨[(0, .c (.box 0 0)), (4, .c (.box 1 0)), (5, .c (.box 2 0)), (49, .c (.int .i64)), (50, .c (.int .i64))], [(0, .cells [.rd [] .u8, .int .i64, .int .i64]), (1, .cells [.str, .nil, .nil]), (2, .cells [.str, .own 0, .own 1])], [(0, .i64), (1, .i64)]⟩
def spec_l2Font_r2 : List Sh := [⟨[(0, .c (.box 0 0)), (4, .c (.box 1 0)), (5, .c (.box 2 0))], [(0, .cells [.rd [] .u8, .int .i64, .int .i64]), (1, .cells [.str, .nil, .nil]), (2, .cells [.str, .own 0, .own 1])], [(0, .i64), (1, .i64)]⟩]
noncomputable def spec_l2Font_L2 : Lp := ⟨2, [(.bx 5 1, 5000000, .i64)], spec_l2Font_h2, [(.bx 5 1, 5000000, .i64)], [(.exit 2, [])], spec_l2Font_r2, loopC spec_l2Font_s2⟩
noncomputable def spec_l2Font (a1 : Int) (b0_0 : List Int) (b0_1 : Int) (b0_2 : Int) : Option (((ByteArray × Unit × Unit × Unit) × Unit × Unit) × ((List Int × Int × Int × Unit) × Unit) × (List Int × List Int × Unit)) :=
 (spec_l01Below a1 b0_0 b0_1 b0_2).bind fun r1 =>
 let x2 : Int := w64 ((1 : Int) + r1.1.1);
 (loopC spec_l2Font_s0 (((), (), (), (), x2, ()), ((r1.2.1.1.1, r1.2.1.1.2.1, r1.2.1.1.2.2.1, ()), (ByteArray.empty, (), (), ()), (ByteArray.empty, (), (), ()), ()), ([], ()))).bind fun r17 =>
 (spec_OrderBar r17.2.2.1).bind fun r18 =>
 (loopC spec_l2Font_s2 (((), (), (), (r18.2.2.1.length : Int), (0 : Int), ()), ((r17.2.1.1.1, r17.2.1.1.2.1, r17.2.1.1.2.2.1, ()), (r17.2.1.2.1.1, (), (), ()), (r17.2.1.2.2.1.1, (), (), ()), ()), ([], r18.2.2.1, ()))).bind fun r26 =>
 some (((r26.2.1.2.2.1.1, (), (), ()), (), ()), ((r26.2.1.1.1, r26.2.1.1.2.1, r26.2.1.1.2.2.1, ()), ()), (r26.2.2.1, r26.2.2.2.1, ()))
noncomputable def spec_l2Font_C : Ctr := ⟨44, spec_l2Font_arg, spec_l2Font_res, fun x => spec_l2Font x.1.2.1 x.2.1.1.1 x.2.1.1.2.1 x.2.1.1.2.2.1, none⟩
def spec_l2Font_H : Hint := ⟨[], [], [], fun _ => []⟩
noncomputable def spec_l2Font_T : List Ctr := [spec_l01Below_C, spec_l1Sets_C, spec_OrderBar_C]
noncomputable def spec_l2Font_Ls : List Lp := [spec_l2Font_L0, spec_l2Font_L2]
theorem spec_l2Font_l0 : ∀ x, spec_l2Font_s0 x = stepW E0 spec_l2Font_T spec_l2Font_Ls spec_l2Font_H (loopAt (bodyOf Try.f44) 0) 0 spec_l2Font_h0 [] [(.exit 0, [])] spec_l2Font_r0 x := fun x => by kernel_rfl
theorem spec_l2Font_l2 : ∀ x, spec_l2Font_s2 x = stepW E0 spec_l2Font_T spec_l2Font_Ls spec_l2Font_H (loopAt (bodyOf Try.f44) 1) 2 spec_l2Font_h2 [(.bx 5 1, 5000000, .i64)] [(.exit 2, [])] spec_l2Font_r2 x := fun x => by kernel_rfl
theorem spec_l2Font_e : ∀ x, spec_l2Font_C.F x = runBodyW E0 spec_l2Font_T spec_l2Font_Ls spec_l2Font_H 44 Try.f44.results.toList (bodyOf Try.f44) [] (spec_l2Font_arg.mk' x) spec_l2Font_res := fun x => by kernel_rfl
theorem spec_l2Font_ok : spec_l2Font_C.Ok E0 := fn_ok (T := spec_l2Font_T) (h := spec_l2Font_H) (Ls := spec_l2Font_Ls) E0_mixed (T_cons spec_l01Below_ok (T_cons spec_l1Sets_ok (T_cons spec_OrderBar_ok T_nil))) Try.func44 (bodyOf_some (by kernel_rfl)) (by kernel_rfl) (loops_of (ks := [0, 2]) (by kernel_rfl) ⟨(loop_one (h := spec_l2Font_H) (own := []) (head := spec_l2Font_h0) (back := []) (exs := [(.exit 0, [])]) (res := spec_l2Font_r0) (step := spec_l2Font_s0) (by kernel_rfl) spec_l2Font_l0), (loop_one (h := spec_l2Font_H) (own := [(.bx 5 1, 5000000, .i64)]) (head := spec_l2Font_h2) (back := [(.bx 5 1, 5000000, .i64)]) (exs := [(.exit 2, [])]) (res := spec_l2Font_r2) (step := spec_l2Font_s2) (by kernel_rfl) spec_l2Font_l2), trivial⟩) spec_l2Font_e
def spec_l01Once_arg : Sh := ⟨[(0, .c (.box 0 0)), (1, .c (.int .i64))], [(0, .cells [.rd [] .u8, .int .i64, .int .i64])], []⟩
def spec_l01Once_res : List Sh := [⟨[(0, .c (.bool)), (1, .c (.box 0 0))], [(0, .cells [.rd [] .u8, .int .i64, .int .i64])], []⟩]
noncomputable def spec_l01Once (a1 : Int) (b0_0 : List Int) (b0_1 : Int) (b0_2 : Int) : Option ((Bool × Unit × Unit) × ((List Int × Int × Int × Unit) × Unit) × Unit) :=
 (spec_l01Below a1 b0_0 b0_1 b0_2).bind fun r1 =>
 let x2 : Bool := r1.1.1 == (0 : Int);
 some ((x2, (), ()), ((r1.2.1.1.1, r1.2.1.1.2.1, r1.2.1.1.2.2.1, ()), ()), ())
noncomputable def spec_l01Once_C : Ctr := ⟨75, spec_l01Once_arg, spec_l01Once_res, fun x => spec_l01Once x.1.2.1 x.2.1.1.1 x.2.1.1.2.1 x.2.1.1.2.2.1, none⟩
def spec_l01Once_H : Hint := ⟨[], [], [], fun _ => []⟩
noncomputable def spec_l01Once_T : List Ctr := [spec_l01Below_C]
noncomputable def spec_l01Once_Ls : List Lp := []
theorem spec_l01Once_e : ∀ x, spec_l01Once_C.F x = runBodyW E0 spec_l01Once_T spec_l01Once_Ls spec_l01Once_H 75 Try.f75.results.toList (bodyOf Try.f75) [] (spec_l01Once_arg.mk' x) spec_l01Once_res := fun x => by kernel_rfl
theorem spec_l01Once_ok : spec_l01Once_C.Ok E0 := fn_ok (T := spec_l01Once_T) (h := spec_l01Once_H) (Ls := spec_l01Once_Ls) E0_mixed (T_cons spec_l01Below_ok T_nil) Try.func75 (bodyOf_some (by kernel_rfl)) (by kernel_rfl) (loops_of (ks := []) (by kernel_rfl) trivial) spec_l01Once_e
def spec_l2Stock_arg : Sh := ⟨[(0, .c (.box 0 0)), (1, .agg [.str, .rd [] .i64, .rd [] .i64])], [(0, .cells [.rd [] .u8, .int .i64, .int .i64])], []⟩
def spec_l2Stock_res : List Sh := [⟨[(0, .c (.own 0)), (1, .c (.box 0 0))], [(0, .cells [.rd [] .u8, .int .i64, .int .i64])], [(0, .mats)]⟩]
noncomputable def spec_l2Stock_s2 (x : (Unit × Unit × Int × Unit × Int × Int × Int × Int × Int × Unit) × ((List Int × Int × Int × Unit) × (ByteArray × List Int × List Int × Unit) × Unit) × (List (List (Int × Int)) × Unit)) : Option (((Unit × Unit × Int × Unit × Int × Int × Int × Int × Int × Unit) × ((List Int × Int × Int × Unit) × (ByteArray × List Int × List Int × Unit) × Unit) × (List (List (Int × Int)) × Unit)) ⊕ ((Unit × Unit × Int × Unit × Int × Int × Int × Unit) × ((List Int × Int × Int × Unit) × (ByteArray × List Int × List Int × Unit) × Unit) × (List (List (Int × Int)) × Unit))) :=
 let x8 : Bool := decide (x.1.2.2.2.2.2.2.1 > (0 : Int));
 br x8
 (let x9 : Bool := decide (x.1.2.2.2.2.1 > (0 : Int));
 br x9
 ((spec_l01Once (4 : Int) x.2.1.1.1 x.2.1.1.2.1 x.2.1.1.2.2.1).bind fun r10 =>
 br r10.1.1
 ((spec_l01Below x.1.2.2.1 r10.2.1.1.1 r10.2.1.1.2.1 r10.2.1.1.2.2.1).bind fun r11 =>
 let x12 : Bool := decide (r11.1.1 < (x.2.1.2.1.2.2.1.length : Int));
 br x12
 (ck (0 ≤ r11.1.1)
 (ck (r11.1.1.toNat < x.2.1.2.1.2.2.1.length)
 (let x13 : Int := x.2.1.2.1.2.2.1.getD r11.1.1.toNat 0;
 let x14 : Bool := decide (x.1.2.2.2.2.1 > (1 : Int));
 br x14
 ((spec_l01Once (3 : Int) r11.2.1.1.1 r11.2.1.1.2.1 r11.2.1.1.2.2.1).bind fun r15 =>
 br r15.1.1
 ((spec_l01Below (7 : Int) r15.2.1.1.1 r15.2.1.1.2.1 r15.2.1.1.2.2.1).bind fun r16 =>
 ck (0 ≤ r16.1.1)
 (let x17 : Int := w64 ((1 : Int) * 2 ^ (min r16.1.1.toNat 64));
 let x18 : Int := bAndNot .i64 x13 x17;
 ck (0 ≤ x.1.2.2.2.2.2.1)
 (ck (x.1.2.2.2.2.2.1.toNat < x.2.2.1.length)
 (ck (x.1.2.2.2.2.2.1.toNat < x.2.2.1.length)
 (ck (x.1.2.2.2.2.2.1.toNat < x.2.2.1.length)
 (ck (x.1.2.2.2.2.2.1.toNat < x.2.2.1.length)
 (let x19 : List (Int × Int) := x.2.2.1.getD x.1.2.2.2.2.2.1.toNat [];
 ck ((x19.length + [(r11.1.1, x18)].length) * 16 ≤ 140737488355328 ∧ (x19.length + [(r11.1.1, x18)].length) ≤ 9223372036854775807)
 (let x20 : List (Int × Int) := x19 ++ [(r11.1.1, x18)];
 ck (0 ≤ x.1.2.2.2.2.2.1)
 (ck (x.1.2.2.2.2.2.1.toNat < x.2.2.1.length)
 (ck (x.1.2.2.2.2.2.1.toNat = x.1.2.2.2.2.2.1.toNat ∧ x.1.2.2.2.2.2.1.toNat < x.2.2.1.length)
 (let x21 : List (List (Int × Int)) := x.2.2.1.set x.1.2.2.2.2.2.1.toNat x20;
 let x22 : Int := w64 (x.1.2.2.2.2.2.2.1 - (1 : Int));
 some (.inl (((), (), x.1.2.2.1, (), x.1.2.2.2.2.1, x.1.2.2.2.2.2.1, x22, x.1.2.2.2.2.2.2.2.1, x.1.2.2.2.2.2.2.2.2.1, ()), ((r16.2.1.1.1, r16.2.1.1.2.1, r16.2.1.1.2.2.1, ()), (x.2.1.2.1.1, x.2.1.2.1.2.1, x.2.1.2.1.2.2.1, ()), ()), (x21, ()))))))))))))))
 (ck (0 ≤ x.1.2.2.2.2.2.1)
 (ck (x.1.2.2.2.2.2.1.toNat < x.2.2.1.length)
 (ck (x.1.2.2.2.2.2.1.toNat < x.2.2.1.length)
 (ck (x.1.2.2.2.2.2.1.toNat < x.2.2.1.length)
 (ck (x.1.2.2.2.2.2.1.toNat < x.2.2.1.length)
 (let x23 : List (Int × Int) := x.2.2.1.getD x.1.2.2.2.2.2.1.toNat [];
 ck ((x23.length + [(r11.1.1, x13)].length) * 16 ≤ 140737488355328 ∧ (x23.length + [(r11.1.1, x13)].length) ≤ 9223372036854775807)
 (let x24 : List (Int × Int) := x23 ++ [(r11.1.1, x13)];
 ck (0 ≤ x.1.2.2.2.2.2.1)
 (ck (x.1.2.2.2.2.2.1.toNat < x.2.2.1.length)
 (ck (x.1.2.2.2.2.2.1.toNat = x.1.2.2.2.2.2.1.toNat ∧ x.1.2.2.2.2.2.1.toNat < x.2.2.1.length)
 (let x25 : List (List (Int × Int)) := x.2.2.1.set x.1.2.2.2.2.2.1.toNat x24;
 let x26 : Int := w64 (x.1.2.2.2.2.2.2.1 - (1 : Int));
 some (.inl (((), (), x.1.2.2.1, (), x.1.2.2.2.2.1, x.1.2.2.2.2.2.1, x26, x.1.2.2.2.2.2.2.2.1, x.1.2.2.2.2.2.2.2.2.1, ()), ((r15.2.1.1.1, r15.2.1.1.2.1, r15.2.1.1.2.2.1, ()), (x.2.1.2.1.1, x.2.1.2.1.2.1, x.2.1.2.1.2.2.1, ()), ()), (x25, ()))))))))))))))
 (ck (0 ≤ x.1.2.2.2.2.2.1)
 (ck (x.1.2.2.2.2.2.1.toNat < x.2.2.1.length)
 (ck (x.1.2.2.2.2.2.1.toNat < x.2.2.1.length)
 (ck (x.1.2.2.2.2.2.1.toNat < x.2.2.1.length)
 (ck (x.1.2.2.2.2.2.1.toNat < x.2.2.1.length)
 (let x27 : List (Int × Int) := x.2.2.1.getD x.1.2.2.2.2.2.1.toNat [];
 ck ((x27.length + [(r11.1.1, x13)].length) * 16 ≤ 140737488355328 ∧ (x27.length + [(r11.1.1, x13)].length) ≤ 9223372036854775807)
 (let x28 : List (Int × Int) := x27 ++ [(r11.1.1, x13)];
 ck (0 ≤ x.1.2.2.2.2.2.1)
 (ck (x.1.2.2.2.2.2.1.toNat < x.2.2.1.length)
 (ck (x.1.2.2.2.2.2.1.toNat = x.1.2.2.2.2.2.1.toNat ∧ x.1.2.2.2.2.2.1.toNat < x.2.2.1.length)
 (let x29 : List (List (Int × Int)) := x.2.2.1.set x.1.2.2.2.2.2.1.toNat x28;
 let x30 : Int := w64 (x.1.2.2.2.2.2.2.1 - (1 : Int));
 some (.inl (((), (), x.1.2.2.1, (), x.1.2.2.2.2.1, x.1.2.2.2.2.2.1, x30, x.1.2.2.2.2.2.2.2.1, x.1.2.2.2.2.2.2.2.2.1, ()), ((r11.2.1.1.1, r11.2.1.1.2.1, r11.2.1.1.2.2.1, ()), (x.2.1.2.1.1, x.2.1.2.1.2.1, x.2.1.2.1.2.2.1, ()), ()), (x29, ()))))))))))))))))
 (let x31 : Bool := decide (x.1.2.2.2.2.1 > (1 : Int));
 br x31
 ((spec_l01Once (3 : Int) r11.2.1.1.1 r11.2.1.1.2.1 r11.2.1.1.2.2.1).bind fun r32 =>
 br r32.1.1
 ((spec_l01Below (7 : Int) r32.2.1.1.1 r32.2.1.1.2.1 r32.2.1.1.2.2.1).bind fun r33 =>
 ck (0 ≤ r33.1.1)
 (let x34 : Int := w64 ((1 : Int) * 2 ^ (min r33.1.1.toNat 64));
 let x35 : Int := bAndNot .i64 (0 : Int) x34;
 ck (0 ≤ x.1.2.2.2.2.2.1)
 (ck (x.1.2.2.2.2.2.1.toNat < x.2.2.1.length)
 (ck (x.1.2.2.2.2.2.1.toNat < x.2.2.1.length)
 (ck (x.1.2.2.2.2.2.1.toNat < x.2.2.1.length)
 (ck (x.1.2.2.2.2.2.1.toNat < x.2.2.1.length)
 (let x36 : List (Int × Int) := x.2.2.1.getD x.1.2.2.2.2.2.1.toNat [];
 ck ((x36.length + [(r11.1.1, x35)].length) * 16 ≤ 140737488355328 ∧ (x36.length + [(r11.1.1, x35)].length) ≤ 9223372036854775807)
 (let x37 : List (Int × Int) := x36 ++ [(r11.1.1, x35)];
 ck (0 ≤ x.1.2.2.2.2.2.1)
 (ck (x.1.2.2.2.2.2.1.toNat < x.2.2.1.length)
 (ck (x.1.2.2.2.2.2.1.toNat = x.1.2.2.2.2.2.1.toNat ∧ x.1.2.2.2.2.2.1.toNat < x.2.2.1.length)
 (let x38 : List (List (Int × Int)) := x.2.2.1.set x.1.2.2.2.2.2.1.toNat x37;
 let x39 : Int := w64 (x.1.2.2.2.2.2.2.1 - (1 : Int));
 some (.inl (((), (), x.1.2.2.1, (), x.1.2.2.2.2.1, x.1.2.2.2.2.2.1, x39, x.1.2.2.2.2.2.2.2.1, x.1.2.2.2.2.2.2.2.2.1, ()), ((r33.2.1.1.1, r33.2.1.1.2.1, r33.2.1.1.2.2.1, ()), (x.2.1.2.1.1, x.2.1.2.1.2.1, x.2.1.2.1.2.2.1, ()), ()), (x38, ()))))))))))))))
 (ck (0 ≤ x.1.2.2.2.2.2.1)
 (ck (x.1.2.2.2.2.2.1.toNat < x.2.2.1.length)
 (ck (x.1.2.2.2.2.2.1.toNat < x.2.2.1.length)
 (ck (x.1.2.2.2.2.2.1.toNat < x.2.2.1.length)
 (ck (x.1.2.2.2.2.2.1.toNat < x.2.2.1.length)
 (let x40 : List (Int × Int) := x.2.2.1.getD x.1.2.2.2.2.2.1.toNat [];
 ck ((x40.length + [(r11.1.1, (0 : Int))].length) * 16 ≤ 140737488355328 ∧ (x40.length + [(r11.1.1, (0 : Int))].length) ≤ 9223372036854775807)
 (let x41 : List (Int × Int) := x40 ++ [(r11.1.1, (0 : Int))];
 ck (0 ≤ x.1.2.2.2.2.2.1)
 (ck (x.1.2.2.2.2.2.1.toNat < x.2.2.1.length)
 (ck (x.1.2.2.2.2.2.1.toNat = x.1.2.2.2.2.2.1.toNat ∧ x.1.2.2.2.2.2.1.toNat < x.2.2.1.length)
 (let x42 : List (List (Int × Int)) := x.2.2.1.set x.1.2.2.2.2.2.1.toNat x41;
 let x43 : Int := w64 (x.1.2.2.2.2.2.2.1 - (1 : Int));
 some (.inl (((), (), x.1.2.2.1, (), x.1.2.2.2.2.1, x.1.2.2.2.2.2.1, x43, x.1.2.2.2.2.2.2.2.1, x.1.2.2.2.2.2.2.2.2.1, ()), ((r32.2.1.1.1, r32.2.1.1.2.1, r32.2.1.1.2.2.1, ()), (x.2.1.2.1.1, x.2.1.2.1.2.1, x.2.1.2.1.2.2.1, ()), ()), (x42, ()))))))))))))))
 (ck (0 ≤ x.1.2.2.2.2.2.1)
 (ck (x.1.2.2.2.2.2.1.toNat < x.2.2.1.length)
 (ck (x.1.2.2.2.2.2.1.toNat < x.2.2.1.length)
 (ck (x.1.2.2.2.2.2.1.toNat < x.2.2.1.length)
 (ck (x.1.2.2.2.2.2.1.toNat < x.2.2.1.length)
 (let x44 : List (Int × Int) := x.2.2.1.getD x.1.2.2.2.2.2.1.toNat [];
 ck ((x44.length + [(r11.1.1, (0 : Int))].length) * 16 ≤ 140737488355328 ∧ (x44.length + [(r11.1.1, (0 : Int))].length) ≤ 9223372036854775807)
 (let x45 : List (Int × Int) := x44 ++ [(r11.1.1, (0 : Int))];
 ck (0 ≤ x.1.2.2.2.2.2.1)
 (ck (x.1.2.2.2.2.2.1.toNat < x.2.2.1.length)
 (ck (x.1.2.2.2.2.2.1.toNat = x.1.2.2.2.2.2.1.toNat ∧ x.1.2.2.2.2.2.1.toNat < x.2.2.1.length)
 (let x46 : List (List (Int × Int)) := x.2.2.1.set x.1.2.2.2.2.2.1.toNat x45;
 let x47 : Int := w64 (x.1.2.2.2.2.2.2.1 - (1 : Int));
 some (.inl (((), (), x.1.2.2.1, (), x.1.2.2.2.2.1, x.1.2.2.2.2.2.1, x47, x.1.2.2.2.2.2.2.2.1, x.1.2.2.2.2.2.2.2.2.1, ()), ((r11.2.1.1.1, r11.2.1.1.2.1, r11.2.1.1.2.2.1, ()), (x.2.1.2.1.1, x.2.1.2.1.2.1, x.2.1.2.1.2.2.1, ()), ()), (x46, ())))))))))))))))
 (let x48 : Bool := decide (x.1.2.2.2.2.2.1 < (x.2.1.2.1.2.2.1.length : Int));
 br x48
 (ck (0 ≤ x.1.2.2.2.2.2.1)
 (ck (x.1.2.2.2.2.2.1.toNat < x.2.1.2.1.2.2.1.length)
 (let x49 : Int := x.2.1.2.1.2.2.1.getD x.1.2.2.2.2.2.1.toNat 0;
 let x50 : Bool := decide (x.1.2.2.2.2.1 > (1 : Int));
 br x50
 ((spec_l01Once (3 : Int) r10.2.1.1.1 r10.2.1.1.2.1 r10.2.1.1.2.2.1).bind fun r51 =>
 br r51.1.1
 ((spec_l01Below (7 : Int) r51.2.1.1.1 r51.2.1.1.2.1 r51.2.1.1.2.2.1).bind fun r52 =>
 ck (0 ≤ r52.1.1)
 (let x53 : Int := w64 ((1 : Int) * 2 ^ (min r52.1.1.toNat 64));
 let x54 : Int := bAndNot .i64 x49 x53;
 ck (0 ≤ x.1.2.2.2.2.2.1)
 (ck (x.1.2.2.2.2.2.1.toNat < x.2.2.1.length)
 (ck (x.1.2.2.2.2.2.1.toNat < x.2.2.1.length)
 (ck (x.1.2.2.2.2.2.1.toNat < x.2.2.1.length)
 (ck (x.1.2.2.2.2.2.1.toNat < x.2.2.1.length)
 (let x55 : List (Int × Int) := x.2.2.1.getD x.1.2.2.2.2.2.1.toNat [];
 ck ((x55.length + [(x.1.2.2.2.2.2.1, x54)].length) * 16 ≤ 140737488355328 ∧ (x55.length + [(x.1.2.2.2.2.2.1, x54)].length) ≤ 9223372036854775807)
 (let x56 : List (Int × Int) := x55 ++ [(x.1.2.2.2.2.2.1, x54)];
 ck (0 ≤ x.1.2.2.2.2.2.1)
 (ck (x.1.2.2.2.2.2.1.toNat < x.2.2.1.length)
 (ck (x.1.2.2.2.2.2.1.toNat = x.1.2.2.2.2.2.1.toNat ∧ x.1.2.2.2.2.2.1.toNat < x.2.2.1.length)
 (let x57 : List (List (Int × Int)) := x.2.2.1.set x.1.2.2.2.2.2.1.toNat x56;
 let x58 : Int := w64 (x.1.2.2.2.2.2.2.1 - (1 : Int));
 some (.inl (((), (), x.1.2.2.1, (), x.1.2.2.2.2.1, x.1.2.2.2.2.2.1, x58, x.1.2.2.2.2.2.2.2.1, x.1.2.2.2.2.2.2.2.2.1, ()), ((r52.2.1.1.1, r52.2.1.1.2.1, r52.2.1.1.2.2.1, ()), (x.2.1.2.1.1, x.2.1.2.1.2.1, x.2.1.2.1.2.2.1, ()), ()), (x57, ()))))))))))))))
 (ck (0 ≤ x.1.2.2.2.2.2.1)
 (ck (x.1.2.2.2.2.2.1.toNat < x.2.2.1.length)
 (ck (x.1.2.2.2.2.2.1.toNat < x.2.2.1.length)
 (ck (x.1.2.2.2.2.2.1.toNat < x.2.2.1.length)
 (ck (x.1.2.2.2.2.2.1.toNat < x.2.2.1.length)
 (let x59 : List (Int × Int) := x.2.2.1.getD x.1.2.2.2.2.2.1.toNat [];
 ck ((x59.length + [(x.1.2.2.2.2.2.1, x49)].length) * 16 ≤ 140737488355328 ∧ (x59.length + [(x.1.2.2.2.2.2.1, x49)].length) ≤ 9223372036854775807)
 (let x60 : List (Int × Int) := x59 ++ [(x.1.2.2.2.2.2.1, x49)];
 ck (0 ≤ x.1.2.2.2.2.2.1)
 (ck (x.1.2.2.2.2.2.1.toNat < x.2.2.1.length)
 (ck (x.1.2.2.2.2.2.1.toNat = x.1.2.2.2.2.2.1.toNat ∧ x.1.2.2.2.2.2.1.toNat < x.2.2.1.length)
 (let x61 : List (List (Int × Int)) := x.2.2.1.set x.1.2.2.2.2.2.1.toNat x60;
 let x62 : Int := w64 (x.1.2.2.2.2.2.2.1 - (1 : Int));
 some (.inl (((), (), x.1.2.2.1, (), x.1.2.2.2.2.1, x.1.2.2.2.2.2.1, x62, x.1.2.2.2.2.2.2.2.1, x.1.2.2.2.2.2.2.2.2.1, ()), ((r51.2.1.1.1, r51.2.1.1.2.1, r51.2.1.1.2.2.1, ()), (x.2.1.2.1.1, x.2.1.2.1.2.1, x.2.1.2.1.2.2.1, ()), ()), (x61, ()))))))))))))))
 (ck (0 ≤ x.1.2.2.2.2.2.1)
 (ck (x.1.2.2.2.2.2.1.toNat < x.2.2.1.length)
 (ck (x.1.2.2.2.2.2.1.toNat < x.2.2.1.length)
 (ck (x.1.2.2.2.2.2.1.toNat < x.2.2.1.length)
 (ck (x.1.2.2.2.2.2.1.toNat < x.2.2.1.length)
 (let x63 : List (Int × Int) := x.2.2.1.getD x.1.2.2.2.2.2.1.toNat [];
 ck ((x63.length + [(x.1.2.2.2.2.2.1, x49)].length) * 16 ≤ 140737488355328 ∧ (x63.length + [(x.1.2.2.2.2.2.1, x49)].length) ≤ 9223372036854775807)
 (let x64 : List (Int × Int) := x63 ++ [(x.1.2.2.2.2.2.1, x49)];
 ck (0 ≤ x.1.2.2.2.2.2.1)
 (ck (x.1.2.2.2.2.2.1.toNat < x.2.2.1.length)
 (ck (x.1.2.2.2.2.2.1.toNat = x.1.2.2.2.2.2.1.toNat ∧ x.1.2.2.2.2.2.1.toNat < x.2.2.1.length)
 (let x65 : List (List (Int × Int)) := x.2.2.1.set x.1.2.2.2.2.2.1.toNat x64;
 let x66 : Int := w64 (x.1.2.2.2.2.2.2.1 - (1 : Int));
 some (.inl (((), (), x.1.2.2.1, (), x.1.2.2.2.2.1, x.1.2.2.2.2.2.1, x66, x.1.2.2.2.2.2.2.2.1, x.1.2.2.2.2.2.2.2.2.1, ()), ((r10.2.1.1.1, r10.2.1.1.2.1, r10.2.1.1.2.2.1, ()), (x.2.1.2.1.1, x.2.1.2.1.2.1, x.2.1.2.1.2.2.1, ()), ()), (x65, ()))))))))))))))))
 (let x67 : Bool := decide (x.1.2.2.2.2.1 > (1 : Int));
 br x67
 ((spec_l01Once (3 : Int) r10.2.1.1.1 r10.2.1.1.2.1 r10.2.1.1.2.2.1).bind fun r68 =>
 br r68.1.1
 ((spec_l01Below (7 : Int) r68.2.1.1.1 r68.2.1.1.2.1 r68.2.1.1.2.2.1).bind fun r69 =>
 ck (0 ≤ r69.1.1)
 (let x70 : Int := w64 ((1 : Int) * 2 ^ (min r69.1.1.toNat 64));
 let x71 : Int := bAndNot .i64 (0 : Int) x70;
 ck (0 ≤ x.1.2.2.2.2.2.1)
 (ck (x.1.2.2.2.2.2.1.toNat < x.2.2.1.length)
 (ck (x.1.2.2.2.2.2.1.toNat < x.2.2.1.length)
 (ck (x.1.2.2.2.2.2.1.toNat < x.2.2.1.length)
 (ck (x.1.2.2.2.2.2.1.toNat < x.2.2.1.length)
 (let x72 : List (Int × Int) := x.2.2.1.getD x.1.2.2.2.2.2.1.toNat [];
 ck ((x72.length + [(x.1.2.2.2.2.2.1, x71)].length) * 16 ≤ 140737488355328 ∧ (x72.length + [(x.1.2.2.2.2.2.1, x71)].length) ≤ 9223372036854775807)
 (let x73 : List (Int × Int) := x72 ++ [(x.1.2.2.2.2.2.1, x71)];
 ck (0 ≤ x.1.2.2.2.2.2.1)
 (ck (x.1.2.2.2.2.2.1.toNat < x.2.2.1.length)
 (ck (x.1.2.2.2.2.2.1.toNat = x.1.2.2.2.2.2.1.toNat ∧ x.1.2.2.2.2.2.1.toNat < x.2.2.1.length)
 (let x74 : List (List (Int × Int)) := x.2.2.1.set x.1.2.2.2.2.2.1.toNat x73;
 let x75 : Int := w64 (x.1.2.2.2.2.2.2.1 - (1 : Int));
 some (.inl (((), (), x.1.2.2.1, (), x.1.2.2.2.2.1, x.1.2.2.2.2.2.1, x75, x.1.2.2.2.2.2.2.2.1, x.1.2.2.2.2.2.2.2.2.1, ()), ((r69.2.1.1.1, r69.2.1.1.2.1, r69.2.1.1.2.2.1, ()), (x.2.1.2.1.1, x.2.1.2.1.2.1, x.2.1.2.1.2.2.1, ()), ()), (x74, ()))))))))))))))
 (ck (0 ≤ x.1.2.2.2.2.2.1)
 (ck (x.1.2.2.2.2.2.1.toNat < x.2.2.1.length)
 (ck (x.1.2.2.2.2.2.1.toNat < x.2.2.1.length)
 (ck (x.1.2.2.2.2.2.1.toNat < x.2.2.1.length)
 (ck (x.1.2.2.2.2.2.1.toNat < x.2.2.1.length)
 (let x76 : List (Int × Int) := x.2.2.1.getD x.1.2.2.2.2.2.1.toNat [];
 ck ((x76.length + [(x.1.2.2.2.2.2.1, (0 : Int))].length) * 16 ≤ 140737488355328 ∧ (x76.length + [(x.1.2.2.2.2.2.1, (0 : Int))].length) ≤ 9223372036854775807)
 (let x77 : List (Int × Int) := x76 ++ [(x.1.2.2.2.2.2.1, (0 : Int))];
 ck (0 ≤ x.1.2.2.2.2.2.1)
 (ck (x.1.2.2.2.2.2.1.toNat < x.2.2.1.length)
 (ck (x.1.2.2.2.2.2.1.toNat = x.1.2.2.2.2.2.1.toNat ∧ x.1.2.2.2.2.2.1.toNat < x.2.2.1.length)
 (let x78 : List (List (Int × Int)) := x.2.2.1.set x.1.2.2.2.2.2.1.toNat x77;
 let x79 : Int := w64 (x.1.2.2.2.2.2.2.1 - (1 : Int));
 some (.inl (((), (), x.1.2.2.1, (), x.1.2.2.2.2.1, x.1.2.2.2.2.2.1, x79, x.1.2.2.2.2.2.2.2.1, x.1.2.2.2.2.2.2.2.2.1, ()), ((r68.2.1.1.1, r68.2.1.1.2.1, r68.2.1.1.2.2.1, ()), (x.2.1.2.1.1, x.2.1.2.1.2.1, x.2.1.2.1.2.2.1, ()), ()), (x78, ()))))))))))))))
 (ck (0 ≤ x.1.2.2.2.2.2.1)
 (ck (x.1.2.2.2.2.2.1.toNat < x.2.2.1.length)
 (ck (x.1.2.2.2.2.2.1.toNat < x.2.2.1.length)
 (ck (x.1.2.2.2.2.2.1.toNat < x.2.2.1.length)
 (ck (x.1.2.2.2.2.2.1.toNat < x.2.2.1.length)
 (let x80 : List (Int × Int) := x.2.2.1.getD x.1.2.2.2.2.2.1.toNat [];
 ck ((x80.length + [(x.1.2.2.2.2.2.1, (0 : Int))].length) * 16 ≤ 140737488355328 ∧ (x80.length + [(x.1.2.2.2.2.2.1, (0 : Int))].length) ≤ 9223372036854775807)
 (let x81 : List (Int × Int) := x80 ++ [(x.1.2.2.2.2.2.1, (0 : Int))];
 ck (0 ≤ x.1.2.2.2.2.2.1)
 (ck (x.1.2.2.2.2.2.1.toNat < x.2.2.1.length)
 (ck (x.1.2.2.2.2.2.1.toNat = x.1.2.2.2.2.2.1.toNat ∧ x.1.2.2.2.2.2.1.toNat < x.2.2.1.length)
 (let x82 : List (List (Int × Int)) := x.2.2.1.set x.1.2.2.2.2.2.1.toNat x81;
 let x83 : Int := w64 (x.1.2.2.2.2.2.2.1 - (1 : Int));
 some (.inl (((), (), x.1.2.2.1, (), x.1.2.2.2.2.1, x.1.2.2.2.2.2.1, x83, x.1.2.2.2.2.2.2.2.1, x.1.2.2.2.2.2.2.2.2.1, ()), ((r10.2.1.1.1, r10.2.1.1.2.1, r10.2.1.1.2.2.1, ()), (x.2.1.2.1.1, x.2.1.2.1.2.1, x.2.1.2.1.2.2.1, ()), ()), (x82, ()))))))))))))))))
 (let x84 : Bool := decide (x.1.2.2.2.2.2.1 < (x.2.1.2.1.2.2.1.length : Int));
 br x84
 (ck (0 ≤ x.1.2.2.2.2.2.1)
 (ck (x.1.2.2.2.2.2.1.toNat < x.2.1.2.1.2.2.1.length)
 (let x85 : Int := x.2.1.2.1.2.2.1.getD x.1.2.2.2.2.2.1.toNat 0;
 let x86 : Bool := decide (x.1.2.2.2.2.1 > (1 : Int));
 br x86
 ((spec_l01Once (3 : Int) x.2.1.1.1 x.2.1.1.2.1 x.2.1.1.2.2.1).bind fun r87 =>
 br r87.1.1
 ((spec_l01Below (7 : Int) r87.2.1.1.1 r87.2.1.1.2.1 r87.2.1.1.2.2.1).bind fun r88 =>
 ck (0 ≤ r88.1.1)
 (let x89 : Int := w64 ((1 : Int) * 2 ^ (min r88.1.1.toNat 64));
 let x90 : Int := bAndNot .i64 x85 x89;
 ck (0 ≤ x.1.2.2.2.2.2.1)
 (ck (x.1.2.2.2.2.2.1.toNat < x.2.2.1.length)
 (ck (x.1.2.2.2.2.2.1.toNat < x.2.2.1.length)
 (ck (x.1.2.2.2.2.2.1.toNat < x.2.2.1.length)
 (ck (x.1.2.2.2.2.2.1.toNat < x.2.2.1.length)
 (let x91 : List (Int × Int) := x.2.2.1.getD x.1.2.2.2.2.2.1.toNat [];
 ck ((x91.length + [(x.1.2.2.2.2.2.1, x90)].length) * 16 ≤ 140737488355328 ∧ (x91.length + [(x.1.2.2.2.2.2.1, x90)].length) ≤ 9223372036854775807)
 (let x92 : List (Int × Int) := x91 ++ [(x.1.2.2.2.2.2.1, x90)];
 ck (0 ≤ x.1.2.2.2.2.2.1)
 (ck (x.1.2.2.2.2.2.1.toNat < x.2.2.1.length)
 (ck (x.1.2.2.2.2.2.1.toNat = x.1.2.2.2.2.2.1.toNat ∧ x.1.2.2.2.2.2.1.toNat < x.2.2.1.length)
 (let x93 : List (List (Int × Int)) := x.2.2.1.set x.1.2.2.2.2.2.1.toNat x92;
 let x94 : Int := w64 (x.1.2.2.2.2.2.2.1 - (1 : Int));
 some (.inl (((), (), x.1.2.2.1, (), x.1.2.2.2.2.1, x.1.2.2.2.2.2.1, x94, x.1.2.2.2.2.2.2.2.1, x.1.2.2.2.2.2.2.2.2.1, ()), ((r88.2.1.1.1, r88.2.1.1.2.1, r88.2.1.1.2.2.1, ()), (x.2.1.2.1.1, x.2.1.2.1.2.1, x.2.1.2.1.2.2.1, ()), ()), (x93, ()))))))))))))))
 (ck (0 ≤ x.1.2.2.2.2.2.1)
 (ck (x.1.2.2.2.2.2.1.toNat < x.2.2.1.length)
 (ck (x.1.2.2.2.2.2.1.toNat < x.2.2.1.length)
 (ck (x.1.2.2.2.2.2.1.toNat < x.2.2.1.length)
 (ck (x.1.2.2.2.2.2.1.toNat < x.2.2.1.length)
 (let x95 : List (Int × Int) := x.2.2.1.getD x.1.2.2.2.2.2.1.toNat [];
 ck ((x95.length + [(x.1.2.2.2.2.2.1, x85)].length) * 16 ≤ 140737488355328 ∧ (x95.length + [(x.1.2.2.2.2.2.1, x85)].length) ≤ 9223372036854775807)
 (let x96 : List (Int × Int) := x95 ++ [(x.1.2.2.2.2.2.1, x85)];
 ck (0 ≤ x.1.2.2.2.2.2.1)
 (ck (x.1.2.2.2.2.2.1.toNat < x.2.2.1.length)
 (ck (x.1.2.2.2.2.2.1.toNat = x.1.2.2.2.2.2.1.toNat ∧ x.1.2.2.2.2.2.1.toNat < x.2.2.1.length)
 (let x97 : List (List (Int × Int)) := x.2.2.1.set x.1.2.2.2.2.2.1.toNat x96;
 let x98 : Int := w64 (x.1.2.2.2.2.2.2.1 - (1 : Int));
 some (.inl (((), (), x.1.2.2.1, (), x.1.2.2.2.2.1, x.1.2.2.2.2.2.1, x98, x.1.2.2.2.2.2.2.2.1, x.1.2.2.2.2.2.2.2.2.1, ()), ((r87.2.1.1.1, r87.2.1.1.2.1, r87.2.1.1.2.2.1, ()), (x.2.1.2.1.1, x.2.1.2.1.2.1, x.2.1.2.1.2.2.1, ()), ()), (x97, ()))))))))))))))
 (ck (0 ≤ x.1.2.2.2.2.2.1)
 (ck (x.1.2.2.2.2.2.1.toNat < x.2.2.1.length)
 (ck (x.1.2.2.2.2.2.1.toNat < x.2.2.1.length)
 (ck (x.1.2.2.2.2.2.1.toNat < x.2.2.1.length)
 (ck (x.1.2.2.2.2.2.1.toNat < x.2.2.1.length)
 (let x99 : List (Int × Int) := x.2.2.1.getD x.1.2.2.2.2.2.1.toNat [];
 ck ((x99.length + [(x.1.2.2.2.2.2.1, x85)].length) * 16 ≤ 140737488355328 ∧ (x99.length + [(x.1.2.2.2.2.2.1, x85)].length) ≤ 9223372036854775807)
 (let x100 : List (Int × Int) := x99 ++ [(x.1.2.2.2.2.2.1, x85)];
 ck (0 ≤ x.1.2.2.2.2.2.1)
 (ck (x.1.2.2.2.2.2.1.toNat < x.2.2.1.length)
 (ck (x.1.2.2.2.2.2.1.toNat = x.1.2.2.2.2.2.1.toNat ∧ x.1.2.2.2.2.2.1.toNat < x.2.2.1.length)
 (let x101 : List (List (Int × Int)) := x.2.2.1.set x.1.2.2.2.2.2.1.toNat x100;
 let x102 : Int := w64 (x.1.2.2.2.2.2.2.1 - (1 : Int));
 some (.inl (((), (), x.1.2.2.1, (), x.1.2.2.2.2.1, x.1.2.2.2.2.2.1, x102, x.1.2.2.2.2.2.2.2.1, x.1.2.2.2.2.2.2.2.2.1, ()), ((x.2.1.1.1, x.2.1.1.2.1, x.2.1.1.2.2.1, ()), (x.2.1.2.1.1, x.2.1.2.1.2.1, x.2.1.2.1.2.2.1, ()), ()), (x101, ()))))))))))))))))
 (let x103 : Bool := decide (x.1.2.2.2.2.1 > (1 : Int));
 br x103
 ((spec_l01Once (3 : Int) x.2.1.1.1 x.2.1.1.2.1 x.2.1.1.2.2.1).bind fun r104 =>
 br r104.1.1
 ((spec_l01Below (7 : Int) r104.2.1.1.1 r104.2.1.1.2.1 r104.2.1.1.2.2.1).bind fun r105 =>
 ck (0 ≤ r105.1.1)
 (let x106 : Int := w64 ((1 : Int) * 2 ^ (min r105.1.1.toNat 64));
 let x107 : Int := bAndNot .i64 (0 : Int) x106;
 ck (0 ≤ x.1.2.2.2.2.2.1)
 (ck (x.1.2.2.2.2.2.1.toNat < x.2.2.1.length)
 (ck (x.1.2.2.2.2.2.1.toNat < x.2.2.1.length)
 (ck (x.1.2.2.2.2.2.1.toNat < x.2.2.1.length)
 (ck (x.1.2.2.2.2.2.1.toNat < x.2.2.1.length)
 (let x108 : List (Int × Int) := x.2.2.1.getD x.1.2.2.2.2.2.1.toNat [];
 ck ((x108.length + [(x.1.2.2.2.2.2.1, x107)].length) * 16 ≤ 140737488355328 ∧ (x108.length + [(x.1.2.2.2.2.2.1, x107)].length) ≤ 9223372036854775807)
 (let x109 : List (Int × Int) := x108 ++ [(x.1.2.2.2.2.2.1, x107)];
 ck (0 ≤ x.1.2.2.2.2.2.1)
 (ck (x.1.2.2.2.2.2.1.toNat < x.2.2.1.length)
 (ck (x.1.2.2.2.2.2.1.toNat = x.1.2.2.2.2.2.1.toNat ∧ x.1.2.2.2.2.2.1.toNat < x.2.2.1.length)
 (let x110 : List (List (Int × Int)) := x.2.2.1.set x.1.2.2.2.2.2.1.toNat x109;
 let x111 : Int := w64 (x.1.2.2.2.2.2.2.1 - (1 : Int));
 some (.inl (((), (), x.1.2.2.1, (), x.1.2.2.2.2.1, x.1.2.2.2.2.2.1, x111, x.1.2.2.2.2.2.2.2.1, x.1.2.2.2.2.2.2.2.2.1, ()), ((r105.2.1.1.1, r105.2.1.1.2.1, r105.2.1.1.2.2.1, ()), (x.2.1.2.1.1, x.2.1.2.1.2.1, x.2.1.2.1.2.2.1, ()), ()), (x110, ()))))))))))))))
 (ck (0 ≤ x.1.2.2.2.2.2.1)
 (ck (x.1.2.2.2.2.2.1.toNat < x.2.2.1.length)
 (ck (x.1.2.2.2.2.2.1.toNat < x.2.2.1.length)
 (ck (x.1.2.2.2.2.2.1.toNat < x.2.2.1.length)
 (ck (x.1.2.2.2.2.2.1.toNat < x.2.2.1.length)
 (let x112 : List (Int × Int) := x.2.2.1.getD x.1.2.2.2.2.2.1.toNat [];
 ck ((x112.length + [(x.1.2.2.2.2.2.1, (0 : Int))].length) * 16 ≤ 140737488355328 ∧ (x112.length + [(x.1.2.2.2.2.2.1, (0 : Int))].length) ≤ 9223372036854775807)
 (let x113 : List (Int × Int) := x112 ++ [(x.1.2.2.2.2.2.1, (0 : Int))];
 ck (0 ≤ x.1.2.2.2.2.2.1)
 (ck (x.1.2.2.2.2.2.1.toNat < x.2.2.1.length)
 (ck (x.1.2.2.2.2.2.1.toNat = x.1.2.2.2.2.2.1.toNat ∧ x.1.2.2.2.2.2.1.toNat < x.2.2.1.length)
 (let x114 : List (List (Int × Int)) := x.2.2.1.set x.1.2.2.2.2.2.1.toNat x113;
 let x115 : Int := w64 (x.1.2.2.2.2.2.2.1 - (1 : Int));
 some (.inl (((), (), x.1.2.2.1, (), x.1.2.2.2.2.1, x.1.2.2.2.2.2.1, x115, x.1.2.2.2.2.2.2.2.1, x.1.2.2.2.2.2.2.2.2.1, ()), ((r104.2.1.1.1, r104.2.1.1.2.1, r104.2.1.1.2.2.1, ()), (x.2.1.2.1.1, x.2.1.2.1.2.1, x.2.1.2.1.2.2.1, ()), ()), (x114, ()))))))))))))))
 (ck (0 ≤ x.1.2.2.2.2.2.1)
 (ck (x.1.2.2.2.2.2.1.toNat < x.2.2.1.length)
 (ck (x.1.2.2.2.2.2.1.toNat < x.2.2.1.length)
 (ck (x.1.2.2.2.2.2.1.toNat < x.2.2.1.length)
 (ck (x.1.2.2.2.2.2.1.toNat < x.2.2.1.length)
 (let x116 : List (Int × Int) := x.2.2.1.getD x.1.2.2.2.2.2.1.toNat [];
 ck ((x116.length + [(x.1.2.2.2.2.2.1, (0 : Int))].length) * 16 ≤ 140737488355328 ∧ (x116.length + [(x.1.2.2.2.2.2.1, (0 : Int))].length) ≤ 9223372036854775807)
 (let x117 : List (Int × Int) := x116 ++ [(x.1.2.2.2.2.2.1, (0 : Int))];
 ck (0 ≤ x.1.2.2.2.2.2.1)
 (ck (x.1.2.2.2.2.2.1.toNat < x.2.2.1.length)
 (ck (x.1.2.2.2.2.2.1.toNat = x.1.2.2.2.2.2.1.toNat ∧ x.1.2.2.2.2.2.1.toNat < x.2.2.1.length)
 (let x118 : List (List (Int × Int)) := x.2.2.1.set x.1.2.2.2.2.2.1.toNat x117;
 let x119 : Int := w64 (x.1.2.2.2.2.2.2.1 - (1 : Int));
 some (.inl (((), (), x.1.2.2.1, (), x.1.2.2.2.2.1, x.1.2.2.2.2.2.1, x119, x.1.2.2.2.2.2.2.2.1, x.1.2.2.2.2.2.2.2.2.1, ()), ((x.2.1.1.1, x.2.1.1.2.1, x.2.1.1.2.2.1, ()), (x.2.1.2.1.1, x.2.1.2.1.2.1, x.2.1.2.1.2.2.1, ()), ()), (x118, ()))))))))))))))))
 (some (.inr (((), (), x.1.2.2.1, (), x.1.2.2.2.2.1, x.1.2.2.2.2.2.2.2.1, x.1.2.2.2.2.2.2.2.2.1, ()), ((x.2.1.1.1, x.2.1.1.2.1, x.2.1.1.2.2.1, ()), (x.2.1.2.1.1, x.2.1.2.1.2.1, x.2.1.2.1.2.2.1, ()), ()), (x.2.2.1, ()))))
def spec_l2Stock_h2 : Sh := ⟨[(0, .c (.box 0 0)), (3, .c (.box 1 0)), (5, .c (.int .i64)), (6, .c (.own 0)), (7, .c (.int .i64)), (8, .c (.int .i64)), (9, .c (.int .i64)), (19, .c (.int .i64)), (20, .c (.int .i64))], [(0, .cells [.rd [] .u8, .int .i64, .int .i64]), (1, .cells [.str, .rd [] .i64, .rd [] .i64])], [(0, .mats)]⟩
def spec_l2Stock_r2 : List Sh := [⟨[(0, .c (.box 0 0)), (3, .c (.box 1 0)), (5, .c (.int .i64)), (6, .c (.own 0)), (7, .c (.int .i64)), (19, .c (.int .i64)), (20, .c (.int .i64))], [(0, .cells [.rd [] .u8, .int .i64, .int .i64]), (1, .cells [.str, .rd [] .i64, .rd [] .i64])], [(0, .mats)]⟩]
noncomputable def spec_l2Stock_L2 : Lp := ⟨2, [], spec_l2Stock_h2, [], [(.exit 2, [])], spec_l2Stock_r2, loopC spec_l2Stock_s2⟩
noncomputable def spec_l2Stock_s0 (x : (Unit × Unit × Int × Unit × Int × Int × Int × Unit) × ((List Int × Int × Int × Unit) × (ByteArray × List Int × List Int × Unit) × Unit) × (List (List (Int × Int)) × Unit)) : Option (((Unit × Unit × Int × Unit × Int × Int × Int × Unit) × ((List Int × Int × Int × Unit) × (ByteArray × List Int × List Int × Unit) × Unit) × (List (List (Int × Int)) × Unit)) ⊕ ((Unit × Unit × Unit) × ((List Int × Int × Int × Unit) × Unit) × (List (List (Int × Int)) × Unit))) :=
 let x3 : Bool := decide (x.1.2.2.2.2.2.2.1 < x.1.2.2.2.2.2.1);
 br x3
 ((spec_l01Below (5 : Int) x.2.1.1.1 x.2.1.1.2.1 x.2.1.1.2.2.1).bind fun r4 =>
 (spec_l01Once (10 : Int) r4.2.1.1.1 r4.2.1.1.2.1 r4.2.1.1.2.2.1).bind fun r5 =>
 br r5.1.1
 ((spec_l01Below (2 : Int) r5.2.1.1.1 r5.2.1.1.2.1 r5.2.1.1.2.2.1).bind fun r6 =>
 let x7 : Int := w64 ((19 : Int) + r6.1.1);
 (loopC spec_l2Stock_s2 (((), (), x.1.2.2.1, (), x.1.2.2.2.2.1, x.1.2.2.2.2.2.2.1, x7, x.1.2.2.2.2.2.1, x.1.2.2.2.2.2.2.1, ()), ((r6.2.1.1.1, r6.2.1.1.2.1, r6.2.1.1.2.2.1, ()), (x.2.1.2.1.1, x.2.1.2.1.2.1, x.2.1.2.1.2.2.1, ()), ()), (x.2.2.1, ()))).bind fun r120 =>
 let x121 : Int := w64 (r120.1.2.2.2.2.2.2.1 + (1 : Int));
 some (.inl (((), (), r120.1.2.2.1, (), r120.1.2.2.2.2.1, r120.1.2.2.2.2.2.1, x121, ()), ((r120.2.1.1.1, r120.2.1.1.2.1, r120.2.1.1.2.2.1, ()), (r120.2.1.2.1.1, r120.2.1.2.1.2.1, r120.2.1.2.1.2.2.1, ()), ()), (r120.2.2.1, ()))))
 ((loopC spec_l2Stock_s2 (((), (), x.1.2.2.1, (), x.1.2.2.2.2.1, x.1.2.2.2.2.2.2.1, r4.1.1, x.1.2.2.2.2.2.1, x.1.2.2.2.2.2.2.1, ()), ((r5.2.1.1.1, r5.2.1.1.2.1, r5.2.1.1.2.2.1, ()), (x.2.1.2.1.1, x.2.1.2.1.2.1, x.2.1.2.1.2.2.1, ()), ()), (x.2.2.1, ()))).bind fun r122 =>
 let x123 : Int := w64 (r122.1.2.2.2.2.2.2.1 + (1 : Int));
 some (.inl (((), (), r122.1.2.2.1, (), r122.1.2.2.2.2.1, r122.1.2.2.2.2.2.1, x123, ()), ((r122.2.1.1.1, r122.2.1.1.2.1, r122.2.1.1.2.2.1, ()), (r122.2.1.2.1.1, r122.2.1.2.1.2.1, r122.2.1.2.1.2.2.1, ()), ()), (r122.2.2.1, ())))))
 (some (.inr (((), (), ()), ((x.2.1.1.1, x.2.1.1.2.1, x.2.1.1.2.2.1, ()), ()), (x.2.2.1, ()))))
def spec_l2Stock_h0 : Sh := ⟨[(0, .c (.box 0 0)), (3, .c (.box 1 0)), (5, .c (.int .i64)), (6, .c (.own 0)), (7, .c (.int .i64)), (19, .c (.int .i64)), (20, .c (.int .i64))], [(0, .cells [.rd [] .u8, .int .i64, .int .i64]), (1, .cells [.str, .rd [] .i64, .rd [] .i64])], [(0, .mats)]⟩
def spec_l2Stock_r0 : List Sh := [⟨[(0, .c (.box 0 0)), (6, .c (.own 0))], [(0, .cells [.rd [] .u8, .int .i64, .int .i64])], [(0, .mats)]⟩]
noncomputable def spec_l2Stock_L0 : Lp := ⟨0, [], spec_l2Stock_h0, [], [(.exit 0, [])], spec_l2Stock_r0, loopC spec_l2Stock_s0⟩
noncomputable def spec_l2Stock (a1_0 : ByteArray) (a1_1 : List Int) (a1_2 : List Int) (b0_0 : List Int) (b0_1 : Int) (b0_2 : Int) : Option ((Unit × Unit × Unit) × ((List Int × Int × Int × Unit) × Unit) × (List (List (Int × Int)) × Unit)) :=
 ck (0 ≤ (a1_0.size : Int))
 (ck (0 ≤ (a1_0.size : Int))
 (ck ((a1_0.size : Int).toNat = (a1_0.size : Int).toNat ∧ (a1_0.size : Int).toNat * 24 ≤ 140737488355328 ∧ (a1_0.size : Int).toNat ≤ 9223372036854775807)
 (let x1 : List (List (Int × Int)) := List.replicate ((a1_0.size : Int).toNat) [];
 (spec_l01Below (3 : Int) b0_0 b0_1 b0_2).bind fun r2 =>
 (loopC spec_l2Stock_s0 (((), (), (a1_0.size : Int), (), r2.1.1, (x1.length : Int), (0 : Int), ()), ((r2.2.1.1.1, r2.2.1.1.2.1, r2.2.1.1.2.2.1, ()), (a1_0, a1_1, a1_2, ()), ()), (x1, ()))).bind fun r124 =>
 some (((), (), ()), ((r124.2.1.1.1, r124.2.1.1.2.1, r124.2.1.1.2.2.1, ()), ()), (r124.2.2.1, ())))))
noncomputable def spec_l2Stock_C : Ctr := ⟨119, spec_l2Stock_arg, spec_l2Stock_res, fun x => spec_l2Stock x.1.2.1.1 x.1.2.1.2.1 x.1.2.1.2.2.1 x.2.1.1.1 x.2.1.1.2.1 x.2.1.1.2.2.1, none⟩
def spec_l2Stock_H : Hint := ⟨[], [], [], fun _ => []⟩
noncomputable def spec_l2Stock_T : List Ctr := [spec_l01Below_C, spec_l01Once_C]
noncomputable def spec_l2Stock_Ls : List Lp := [spec_l2Stock_L2, spec_l2Stock_L0]
theorem spec_l2Stock_l0 : ∀ x, spec_l2Stock_s0 x = stepW E0 spec_l2Stock_T spec_l2Stock_Ls spec_l2Stock_H (loopAt (bodyOf Try.f119) 0) 0 spec_l2Stock_h0 [] [(.exit 0, [])] spec_l2Stock_r0 x := fun x => by kernel_rfl
theorem spec_l2Stock_l2 : ∀ x, spec_l2Stock_s2 x = stepW E0 spec_l2Stock_T spec_l2Stock_Ls spec_l2Stock_H (loopAt (bodyOf Try.f119) 1) 2 spec_l2Stock_h2 [] [(.exit 2, [])] spec_l2Stock_r2 x := fun x => by kernel_rfl
theorem spec_l2Stock_e : ∀ x, spec_l2Stock_C.F x = runBodyW E0 spec_l2Stock_T spec_l2Stock_Ls spec_l2Stock_H 119 Try.f119.results.toList (bodyOf Try.f119) [] (spec_l2Stock_arg.mk' x) spec_l2Stock_res := fun x => by kernel_rfl
theorem spec_l2Stock_ok : spec_l2Stock_C.Ok E0 := fn_ok (T := spec_l2Stock_T) (h := spec_l2Stock_H) (Ls := spec_l2Stock_Ls) E0_mixed (T_cons spec_l01Below_ok (T_cons spec_l01Once_ok T_nil)) Try.func119 (bodyOf_some (by kernel_rfl)) (by kernel_rfl) (loops_of (ks := [0, 2]) (by kernel_rfl) ⟨(loop_one (h := spec_l2Stock_H) (own := []) (head := spec_l2Stock_h0) (back := []) (exs := [(.exit 0, [])]) (res := spec_l2Stock_r0) (step := spec_l2Stock_s0) (by kernel_rfl) spec_l2Stock_l0), (loop_one (h := spec_l2Stock_H) (own := []) (head := spec_l2Stock_h2) (back := []) (exs := [(.exit 2, [])]) (res := spec_l2Stock_r2) (step := spec_l2Stock_s2) (by kernel_rfl) spec_l2Stock_l2), trivial⟩) spec_l2Stock_e
def spec_l01Int_arg : Sh := ⟨[(0, .c (.box 0 0)), (1, .c (.rd [] .i64))], [(0, .cells [.rd [] .u8, .int .i64, .int .i64])], []⟩
def spec_l01Int_res : List Sh := [⟨[(0, .c (.int .i64)), (1, .c (.box 0 0))], [(0, .cells [.rd [] .u8, .int .i64, .int .i64])], []⟩]
noncomputable def spec_l01Int (a1 : List Int) (b0_0 : List Int) (b0_1 : Int) (b0_2 : Int) : Option ((Int × Unit × Unit) × ((List Int × Int × Int × Unit) × Unit) × Unit) :=
 (spec_l01Below (a1.length : Int) b0_0 b0_1 b0_2).bind fun r1 =>
 ck (0 ≤ r1.1.1)
 (ck (r1.1.1.toNat < a1.length)
 (let x2 : Int := a1.getD r1.1.1.toNat 0;
 some ((x2, (), ()), ((r1.2.1.1.1, r1.2.1.1.2.1, r1.2.1.1.2.2.1, ()), ()), ())))
noncomputable def spec_l01Int_C : Ctr := ⟨59, spec_l01Int_arg, spec_l01Int_res, fun x => spec_l01Int x.1.2.1 x.2.1.1.1 x.2.1.1.2.1 x.2.1.1.2.2.1, none⟩
def spec_l01Int_H : Hint := ⟨[], [], [], fun _ => []⟩
noncomputable def spec_l01Int_T : List Ctr := [spec_l01Below_C]
noncomputable def spec_l01Int_Ls : List Lp := []
theorem spec_l01Int_e : ∀ x, spec_l01Int_C.F x = runBodyW E0 spec_l01Int_T spec_l01Int_Ls spec_l01Int_H 59 Try.f59.results.toList (bodyOf Try.f59) [] (spec_l01Int_arg.mk' x) spec_l01Int_res := fun x => by kernel_rfl
theorem spec_l01Int_ok : spec_l01Int_C.Ok E0 := fn_ok (T := spec_l01Int_T) (h := spec_l01Int_H) (Ls := spec_l01Int_Ls) E0_mixed (T_cons spec_l01Below_ok T_nil) Try.func59 (bodyOf_some (by kernel_rfl)) (by kernel_rfl) (loops_of (ks := []) (by kernel_rfl) trivial) spec_l01Int_e
def spec_l3Measure_arg : Sh := ⟨[(0, .c (.box 0 0))], [(0, .cells [.rd [] .u8, .int .i64, .int .i64])], []⟩
def spec_l3Measure_res : List Sh := [⟨[(0, .agg [.int .i64, .int .i64, .int .i64]), (1, .c (.box 0 0))], [(0, .cells [.rd [] .u8, .int .i64, .int .i64])], []⟩]
noncomputable def spec_l3Measure (b0_0 : List Int) (b0_1 : Int) (b0_2 : Int) : Option (((Int × Int × Int × Unit) × Unit × Unit) × ((List Int × Int × Int × Unit) × Unit) × Unit) :=
 (spec_l01Below (200 : Int) b0_0 b0_1 b0_2).bind fun r1 =>
 let x2 : Int := w64 ((1 : Int) + r1.1.1);
 (spec_l01Below (6 : Int) r1.2.1.1.1 r1.2.1.1.2.1 r1.2.1.1.2.2.1).bind fun r3 =>
 let x4 : Int := w64 ((1 : Int) + r3.1.1);
 (spec_l01Below (12 : Int) r3.2.1.1.1 r3.2.1.1.2.1 r3.2.1.1.2.2.1).bind fun r5 =>
 let x6 : Int := w64 (x4 + r5.1.1);
 some (((x2, x4, x6, ()), (), ()), ((r5.2.1.1.1, r5.2.1.1.2.1, r5.2.1.1.2.2.1, ()), ()), ())
noncomputable def spec_l3Measure_C : Ctr := ⟨120, spec_l3Measure_arg, spec_l3Measure_res, fun x => spec_l3Measure x.2.1.1.1 x.2.1.1.2.1 x.2.1.1.2.2.1, none⟩
def spec_l3Measure_H : Hint := ⟨[], [], [], fun _ => []⟩
noncomputable def spec_l3Measure_T : List Ctr := [spec_l01Below_C]
noncomputable def spec_l3Measure_Ls : List Lp := []
theorem spec_l3Measure_e : ∀ x, spec_l3Measure_C.F x = runBodyW E0 spec_l3Measure_T spec_l3Measure_Ls spec_l3Measure_H 120 Try.f120.results.toList (bodyOf Try.f120) [] (spec_l3Measure_arg.mk' x) spec_l3Measure_res := fun x => by kernel_rfl
theorem spec_l3Measure_ok : spec_l3Measure_C.Ok E0 := fn_ok (T := spec_l3Measure_T) (h := spec_l3Measure_H) (Ls := spec_l3Measure_Ls) E0_mixed (T_cons spec_l01Below_ok T_nil) Try.func120 (bodyOf_some (by kernel_rfl)) (by kernel_rfl) (loops_of (ks := []) (by kernel_rfl) trivial) spec_l3Measure_e
def spec_l1Fall_arg : Sh := ⟨[(0, .c (.rd [] .i64)), (1, .c (.int .i64))], [], []⟩
def spec_l1Fall_res : List Sh := [⟨[(0, .c (.int .i64))], [], []⟩]
noncomputable def spec_l1Fall_s0 (x : (List Int × Int × List Int × Int × Int × Unit) × Unit × Unit) : Option (((List Int × Int × List Int × Int × Int × Unit) × Unit × Unit) ⊕ (((Int × Unit) × Unit × Unit) ⊕ ((List Int × Unit) × Unit × Unit))) :=
 let x1 : Bool := decide (x.1.2.2.2.2.1 < x.1.2.2.2.1);
 br x1
 (ck (0 ≤ x.1.2.2.2.2.1)
 (ck (x.1.2.2.2.2.1.toNat < x.1.2.2.1.length)
 (let x2 : Int := x.1.2.2.1.getD x.1.2.2.2.2.1.toNat 0;
 (spec_l1Part x.1.2.1 x2).bind fun r3 =>
 br r3.1.1
 (some (.inr (.inl ((x.1.2.2.2.2.1, ()), (), ()))))
 (let x4 : Int := w64 (x.1.2.2.2.2.1 + (1 : Int));
 some (.inl ((x.1.1, x.1.2.1, x.1.2.2.1, x.1.2.2.2.1, x4, ()), (), ()))))))
 (some (.inr (.inr ((x.1.1, ()), (), ()))))
def spec_l1Fall_h0 : Sh := ⟨[(0, .c (.rd [] .i64)), (1, .c (.int .i64)), (7, .c (.rd [] .i64)), (8, .c (.int .i64)), (9, .c (.int .i64))], [], []⟩
def spec_l1Fall_r0 : List Sh := [⟨[(4, .c (.int .i64))], [], []⟩, ⟨[(0, .c (.rd [] .i64))], [], []⟩]
noncomputable def spec_l1Fall_L0 : Lp := ⟨0, [], spec_l1Fall_h0, [], [(.ret, []), (.exit 0, [])], spec_l1Fall_r0, loopC spec_l1Fall_s0⟩
noncomputable def spec_l1Fall (a0 : List Int) (a1 : Int) : Option ((Int × Unit) × Unit × Unit) :=
 (loopC spec_l1Fall_s0 ((a0, a1, a0, (a0.length : Int), (0 : Int), ()), (), ())).bind fun r5 =>
 sumK r5 (fun y8 =>
 some ((y8.1.1, ()), (), ())) (fun y9 =>
 some (((y9.1.1.length : Int), ()), (), ()))
noncomputable def spec_l1Fall_C : Ctr := ⟨131, spec_l1Fall_arg, spec_l1Fall_res, fun x => spec_l1Fall x.1.1 x.1.2.1, none⟩
def spec_l1Fall_H : Hint := ⟨[], [], [], fun _ => []⟩
noncomputable def spec_l1Fall_T : List Ctr := [spec_l1Part_C]
noncomputable def spec_l1Fall_Ls : List Lp := [spec_l1Fall_L0]
theorem spec_l1Fall_l0 : ∀ x, spec_l1Fall_s0 x = stepW E0 spec_l1Fall_T spec_l1Fall_Ls spec_l1Fall_H (loopAt (bodyOf Try.f131) 0) 0 spec_l1Fall_h0 [] [(.ret, []), (.exit 0, [])] spec_l1Fall_r0 x := fun x => by kernel_rfl
theorem spec_l1Fall_e : ∀ x, spec_l1Fall_C.F x = runBodyW E0 spec_l1Fall_T spec_l1Fall_Ls spec_l1Fall_H 131 Try.f131.results.toList (bodyOf Try.f131) [] (spec_l1Fall_arg.mk' x) spec_l1Fall_res := fun x => by kernel_rfl
theorem spec_l1Fall_ok : spec_l1Fall_C.Ok E0 := fn_ok (T := spec_l1Fall_T) (h := spec_l1Fall_H) (Ls := spec_l1Fall_Ls) E0_mixed (T_cons spec_l1Part_ok T_nil) Try.func131 (bodyOf_some (by kernel_rfl)) (by kernel_rfl) (loops_of (ks := [0]) (by kernel_rfl) ⟨(loop_one (h := spec_l1Fall_H) (own := []) (head := spec_l1Fall_h0) (back := []) (exs := [(.ret, []), (.exit 0, [])]) (res := spec_l1Fall_r0) (step := spec_l1Fall_s0) (by kernel_rfl) spec_l1Fall_l0), trivial⟩) spec_l1Fall_e
def spec_SortsAll_arg : Sh := ⟨[(0, .c (.rd [] .i64))], [], []⟩
def spec_SortsAll_res : List Sh := [⟨[(0, .c (.bool))], [], []⟩]
noncomputable def spec_SortsAll_s0 (x : (List Int × List Int × Int × Int × Unit) × Unit × Unit) : Option (((List Int × List Int × Int × Int × Unit) × Unit × Unit) ⊕ (((Bool × Unit) × Unit × Unit) ⊕ ((List Int × Unit) × Unit × Unit))) :=
 let x1 : Bool := decide (x.1.2.2.2.1 < x.1.2.2.1);
 br x1
 (ck (0 ≤ x.1.2.2.2.1)
 (ck (x.1.2.2.2.1.toNat < x.1.2.1.length)
 (let x2 : Int := x.1.2.1.getD x.1.2.2.2.1.toNat 0;
 (spec_l1Fall x.1.1 x2).bind fun r3 =>
 let x4 : Bool := r3.1.1 != x.1.2.2.2.1;
 br x4
 (some (.inr (.inl ((false, ()), (), ()))))
 (let x5 : Int := w64 (x.1.2.2.2.1 + (1 : Int));
 some (.inl ((x.1.1, x.1.2.1, x.1.2.2.1, x5, ()), (), ()))))))
 (some (.inr (.inr ((x.1.1, ()), (), ()))))
def spec_SortsAll_h0 : Sh := ⟨[(0, .c (.rd [] .i64)), (5, .c (.rd [] .i64)), (6, .c (.int .i64)), (7, .c (.int .i64))], [], []⟩
def spec_SortsAll_r0 : List Sh := [⟨[(2, .c (.bool))], [], []⟩, ⟨[(0, .c (.rd [] .i64))], [], []⟩]
noncomputable def spec_SortsAll_L0 : Lp := ⟨0, [], spec_SortsAll_h0, [], [(.ret, []), (.exit 0, [])], spec_SortsAll_r0, loopC spec_SortsAll_s0⟩
noncomputable def spec_SortsAll (a0 : List Int) : Option ((Bool × Unit) × Unit × Unit) :=
 (loopC spec_SortsAll_s0 ((a0, a0, (a0.length : Int), (0 : Int), ()), (), ())).bind fun r6 =>
 sumK r6 (fun y9 =>
 some ((y9.1.1, ()), (), ())) (fun y10 =>
 (spec_IsBar y10.1.1).bind fun r11 =>
 some ((r11.1.1, ()), (), ()))
noncomputable def spec_SortsAll_C : Ctr := ⟨122, spec_SortsAll_arg, spec_SortsAll_res, fun x => spec_SortsAll x.1.1, none⟩
def spec_SortsAll_H : Hint := ⟨[], [], [], fun _ => []⟩
noncomputable def spec_SortsAll_T : List Ctr := [spec_l1Fall_C, spec_IsBar_C]
noncomputable def spec_SortsAll_Ls : List Lp := [spec_SortsAll_L0]
theorem spec_SortsAll_l0 : ∀ x, spec_SortsAll_s0 x = stepW E0 spec_SortsAll_T spec_SortsAll_Ls spec_SortsAll_H (loopAt (bodyOf Try.f122) 0) 0 spec_SortsAll_h0 [] [(.ret, []), (.exit 0, [])] spec_SortsAll_r0 x := fun x => by kernel_rfl
theorem spec_SortsAll_e : ∀ x, spec_SortsAll_C.F x = runBodyW E0 spec_SortsAll_T spec_SortsAll_Ls spec_SortsAll_H 122 Try.f122.results.toList (bodyOf Try.f122) [] (spec_SortsAll_arg.mk' x) spec_SortsAll_res := fun x => by kernel_rfl
theorem spec_SortsAll_ok : spec_SortsAll_C.Ok E0 := fn_ok (T := spec_SortsAll_T) (h := spec_SortsAll_H) (Ls := spec_SortsAll_Ls) E0_mixed (T_cons spec_l1Fall_ok (T_cons spec_IsBar_ok T_nil)) Try.func122 (bodyOf_some (by kernel_rfl)) (by kernel_rfl) (loops_of (ks := [0]) (by kernel_rfl) ⟨(loop_one (h := spec_SortsAll_H) (own := []) (head := spec_SortsAll_h0) (back := []) (exs := [(.ret, []), (.exit 0, [])]) (res := spec_SortsAll_r0) (step := spec_SortsAll_s0) (by kernel_rfl) spec_SortsAll_l0), trivial⟩) spec_SortsAll_e
def spec_FontOk_arg : Sh := ⟨[(0, .agg [.str, .rd [] .i64, .rd [] .i64])], [], []⟩
def spec_FontOk_res : List Sh := [⟨[(0, .c (.bool))], [], []⟩]
noncomputable def spec_FontOk_s2 (x : (Unit × Int × Int × Int × Unit × ByteArray × Int × Int × Bool × Unit × List Int × Int × (Int × Unit) × Int × Bool × Bool × Unit) × ((ByteArray × List Int × List Int × Unit) × Unit) × Unit) : Option (((Unit × Int × Int × Int × Unit × ByteArray × Int × Int × Bool × Unit × List Int × Int × (Int × Unit) × Int × Bool × Bool × Unit) × ((ByteArray × List Int × List Int × Unit) × Unit) × Unit) ⊕ (((Bool × Unit) × Unit × Unit) ⊕ ((Unit × Int × Int × Unit × ByteArray × Int × Int × Bool × Unit × List Int × Int × (Int × Unit) × Int × Bool × Bool × Unit) × ((ByteArray × List Int × List Int × Unit) × Unit) × Unit))) :=
 let x11 : Bool := decide (x.1.2.2.2.1 < x.1.2.2.1);
 br x11
 (ck (0 ≤ x.1.2.2.1 ∧ x.1.2.2.1.toNat < x.2.1.1.1.size)
 (let x12 : Int := byteAt x.2.1.1.1 x.1.2.2.1.toNat;
 ck (0 ≤ x.1.2.2.2.1 ∧ x.1.2.2.2.1.toNat < x.2.1.1.1.size)
 (let x13 : Int := byteAt x.2.1.1.1 x.1.2.2.2.1.toNat;
 let x14 : Bool := x12 == x13;
 br x14
 (some (.inr (.inl ((false, ()), (), ()))))
 (let x15 : Int := w64 (x.1.2.2.2.1 + (1 : Int));
 some (.inl (((), x.1.2.1, x.1.2.2.1, x15, (), x.1.2.2.2.2.2.1, x.1.2.2.2.2.2.2.1, x.1.2.2.2.2.2.2.2.1, x.1.2.2.2.2.2.2.2.2.1, (), x.1.2.2.2.2.2.2.2.2.2.2.1, x.1.2.2.2.2.2.2.2.2.2.2.2.1, (x.1.2.2.2.2.2.2.2.2.2.2.2.2.1.1, ()), x.1.2.2.2.2.2.2.2.2.2.2.2.2.2.1, x.1.2.2.2.2.2.2.2.2.2.2.2.2.2.2.1, x.1.2.2.2.2.2.2.2.2.2.2.2.2.2.2.2.1, ()), ((x.2.1.1.1, x.2.1.1.2.1, x.2.1.1.2.2.1, ()), ()), ()))))))
 (some (.inr (.inr (((), x.1.2.1, x.1.2.2.1, (), x.1.2.2.2.2.2.1, x.1.2.2.2.2.2.2.1, x.1.2.2.2.2.2.2.2.1, x.1.2.2.2.2.2.2.2.2.1, (), x.1.2.2.2.2.2.2.2.2.2.2.1, x.1.2.2.2.2.2.2.2.2.2.2.2.1, (x.1.2.2.2.2.2.2.2.2.2.2.2.2.1.1, ()), x.1.2.2.2.2.2.2.2.2.2.2.2.2.2.1, x.1.2.2.2.2.2.2.2.2.2.2.2.2.2.2.1, x.1.2.2.2.2.2.2.2.2.2.2.2.2.2.2.2.1, ()), ((x.2.1.1.1, x.2.1.1.2.1, x.2.1.1.2.2.1, ()), ()), ()))))
def spec_FontOk_h2 : Sh := ⟨[(1, .c (.box 0 0)), (3, .c (.int .i64)), (4, .c (.int .i64)), (5, .c (.int .i64)), (43, .c (.box 0 0)), (44, .c (.str)), (45, .c (.int .i64)), (46, .c (.int .u8)), (47, .c (.bool)), (50, .c (.box 0 1)), (51, .c (.rd [] .i64)), (52, .c (.int .i64)), (53, .c (.rad [] [.int .i64])), (54, .c (.int .i64)), (55, .c (.bool)), (56, .c (.bool))], [(0, .cells [.str, .rd [] .i64, .rd [] .i64])], []⟩
def spec_FontOk_r2 : List Sh := [⟨[(2, .c (.bool))], [], []⟩, ⟨[(1, .c (.box 0 0)), (3, .c (.int .i64)), (4, .c (.int .i64)), (43, .c (.box 0 0)), (44, .c (.str)), (45, .c (.int .i64)), (46, .c (.int .u8)), (47, .c (.bool)), (50, .c (.box 0 1)), (51, .c (.rd [] .i64)), (52, .c (.int .i64)), (53, .c (.rad [] [.int .i64])), (54, .c (.int .i64)), (55, .c (.bool)), (56, .c (.bool))], [(0, .cells [.str, .rd [] .i64, .rd [] .i64])], []⟩]
noncomputable def spec_FontOk_L2 : Lp := ⟨2, [], spec_FontOk_h2, [], [(.ret, []), (.exit 2, [])], spec_FontOk_r2, loopC spec_FontOk_s2⟩
noncomputable def spec_FontOk_s0 (x : (Unit × Int × Int × Unit) × ((ByteArray × List Int × List Int × Unit) × Unit) × Unit) : Option (((Unit × Int × Int × Unit) × ((ByteArray × List Int × List Int × Unit) × Unit) × Unit) ⊕ (((Bool × Unit) × Unit × Unit) ⊕ (Unit × Unit × Unit))) :=
 let x5 : Bool := decide (x.1.2.2.1 < x.1.2.1);
 br x5
 (ck (0 ≤ x.1.2.2.1 ∧ x.1.2.2.1.toNat < x.2.1.1.1.size)
 (let x6 : Int := byteAt x.2.1.1.1 x.1.2.2.1.toNat;
 let x7 : Bool := decide (x6 < (33 : Int));
 br x7
 (some (.inr (.inl ((false, ()), (), ()))))
 (ck (0 ≤ x.1.2.2.1 ∧ x.1.2.2.1.toNat < x.2.1.1.1.size)
 (let x8 : Bool := decide (x6 > (126 : Int));
 br x8
 (some (.inr (.inl ((false, ()), (), ()))))
 (ck (0 ≤ x.1.2.2.1)
 (ck (x.1.2.2.1.toNat < x.2.1.1.2.1.length)
 (let x9 : Int := x.2.1.1.2.1.getD x.1.2.2.1.toNat 0;
 (spec_l1In x9 (1 : Int) (60 : Int)).bind fun r10 =>
 br (!r10.1.1)
 (some (.inr (.inl ((false, ()), (), ()))))
 ((loopC spec_FontOk_s2 (((), x.1.2.1, x.1.2.2.1, (0 : Int), (), x.2.1.1.1, x.1.2.2.1, x6, x8, (), x.2.1.1.2.1, x.1.2.2.1, (x9, ()), x9, r10.1.1, !r10.1.1, ()), ((x.2.1.1.1, x.2.1.1.2.1, x.2.1.1.2.2.1, ()), ()), ())).bind fun r16 =>
 sumK r16 (fun y19 =>
 some (.inr (.inl ((y19.1.1, ()), (), ())))) (fun y20 =>
 let x21 : Int := w64 (y20.1.2.2.1 + (1 : Int));
 some (.inl (((), y20.1.2.1, x21, ()), ((y20.2.1.1.1, y20.2.1.1.2.1, y20.2.1.1.2.2.1, ()), ()), ())))))))))))
 (some (.inr (.inr ((), (), ()))))
def spec_FontOk_h0 : Sh := ⟨[(1, .c (.box 0 0)), (3, .c (.int .i64)), (4, .c (.int .i64))], [(0, .cells [.str, .rd [] .i64, .rd [] .i64])], []⟩
def spec_FontOk_r0 : List Sh := [⟨[(2, .c (.bool))], [], []⟩, ⟨[], [], []⟩]
noncomputable def spec_FontOk_L0 : Lp := ⟨0, [], spec_FontOk_h0, [], [(.ret, []), (.exit 0, [])], spec_FontOk_r0, loopC spec_FontOk_s0⟩
noncomputable def spec_FontOk (a0_0 : ByteArray) (a0_1 : List Int) (a0_2 : List Int) : Option ((Bool × Unit) × Unit × Unit) :=
 (spec_l1In (a0_0.size : Int) (1 : Int) (40 : Int)).bind fun r1 =>
 br (!r1.1.1)
 (some ((false, ()), (), ()))
 (let x2 : Bool := (a0_1.length : Int) != (a0_0.size : Int);
 br x2
 (some ((false, ()), (), ()))
 (let x3 : Bool := (a0_2.length : Int) != (a0_0.size : Int);
 br x3
 (some ((false, ()), (), ()))
 ((spec_SortsAll a0_2).bind fun r4 =>
 br (!r4.1.1)
 (some ((false, ()), (), ()))
 ((loopC spec_FontOk_s0 (((), (a0_0.size : Int), (0 : Int), ()), ((a0_0, a0_1, a0_2, ()), ()), ())).bind fun r22 =>
 sumK r22 (fun y25 =>
 some ((y25.1.1, ()), (), ())) (fun y26 =>
 some ((true, ()), (), ()))))))
noncomputable def spec_FontOk_C : Ctr := ⟨94, spec_FontOk_arg, spec_FontOk_res, fun x => spec_FontOk x.1.1.1 x.1.1.2.1 x.1.1.2.2.1, none⟩
def spec_FontOk_H : Hint := ⟨[], [], [], fun _ => []⟩
noncomputable def spec_FontOk_T : List Ctr := [spec_l1In_C, spec_SortsAll_C]
noncomputable def spec_FontOk_Ls : List Lp := [spec_FontOk_L2, spec_FontOk_L0]
theorem spec_FontOk_l0 : ∀ x, spec_FontOk_s0 x = stepW E0 spec_FontOk_T spec_FontOk_Ls spec_FontOk_H (loopAt (bodyOf Try.f94) 0) 0 spec_FontOk_h0 [] [(.ret, []), (.exit 0, [])] spec_FontOk_r0 x := fun x => by kernel_rfl
theorem spec_FontOk_l2 : ∀ x, spec_FontOk_s2 x = stepW E0 spec_FontOk_T spec_FontOk_Ls spec_FontOk_H (loopAt (bodyOf Try.f94) 1) 2 spec_FontOk_h2 [] [(.ret, []), (.exit 2, [])] spec_FontOk_r2 x := fun x => by kernel_rfl
theorem spec_FontOk_e : ∀ x, spec_FontOk_C.F x = runBodyW E0 spec_FontOk_T spec_FontOk_Ls spec_FontOk_H 94 Try.f94.results.toList (bodyOf Try.f94) [] (spec_FontOk_arg.mk' x) spec_FontOk_res := fun x => by kernel_rfl
theorem spec_FontOk_ok : spec_FontOk_C.Ok E0 := fn_ok (T := spec_FontOk_T) (h := spec_FontOk_H) (Ls := spec_FontOk_Ls) E0_mixed (T_cons spec_l1In_ok (T_cons spec_SortsAll_ok T_nil)) Try.func94 (bodyOf_some (by kernel_rfl)) (by kernel_rfl) (loops_of (ks := [0, 2]) (by kernel_rfl) ⟨(loop_one (h := spec_FontOk_H) (own := []) (head := spec_FontOk_h0) (back := []) (exs := [(.ret, []), (.exit 0, [])]) (res := spec_FontOk_r0) (step := spec_FontOk_s0) (by kernel_rfl) spec_FontOk_l0), (loop_one (h := spec_FontOk_H) (own := []) (head := spec_FontOk_h2) (back := []) (exs := [(.ret, []), (.exit 2, [])]) (res := spec_FontOk_r2) (step := spec_FontOk_s2) (by kernel_rfl) spec_FontOk_l2), trivial⟩) spec_FontOk_e
def spec_FillMagazine_arg : Sh := ⟨[(0, .agg [.str, .rd [] .i64, .rd [] .i64]), (1, .c (.int .i64))], [], []⟩
def spec_FillMagazine_res : List Sh := [⟨[(0, .c (.own 0)), (1, .c (.bool))], [], [(0, .mats)]⟩]
noncomputable def spec_FillMagazine_s2 (x : (Int × Unit × Int × Int × Int × List Int × Int × Int × Unit) × Unit × (List (List (Int × Int)) × Unit)) : Option (((Int × Unit × Int × Int × Int × List Int × Int × Int × Unit) × Unit × (List (List (Int × Int)) × Unit)) ⊕ ((Int × Unit × List Int × Int × Int × Unit) × Unit × (List (List (Int × Int)) × Unit))) :=
 let x6 : Bool := decide (x.1.2.2.2.2.1 < x.1.1);
 br x6
 (ck (0 ≤ x.1.2.2.1)
 (ck (x.1.2.2.1.toNat < x.2.2.1.length)
 (ck (x.1.2.2.1.toNat < x.2.2.1.length)
 (ck (x.1.2.2.1.toNat < x.2.2.1.length)
 (let x7 : List (Int × Int) := x.2.2.1.getD x.1.2.2.1.toNat [];
 ck ((x7.length + [(x.1.2.2.1, x.1.2.2.2.1)].length) * 16 ≤ 140737488355328 ∧ (x7.length + [(x.1.2.2.1, x.1.2.2.2.1)].length) ≤ 9223372036854775807)
 (let x8 : List (Int × Int) := x7 ++ [(x.1.2.2.1, x.1.2.2.2.1)];
 ck (0 ≤ x.1.2.2.1)
 (ck (x.1.2.2.1.toNat < x.2.2.1.length)
 (ck (x.1.2.2.1.toNat = x.1.2.2.1.toNat ∧ x.1.2.2.1.toNat < x.2.2.1.length)
 (let x9 : List (List (Int × Int)) := x.2.2.1.set x.1.2.2.1.toNat x8;
 let x10 : Int := w64 (x.1.2.2.2.2.1 + (1 : Int));
 some (.inl ((x.1.1, (), x.1.2.2.1, x.1.2.2.2.1, x10, x.1.2.2.2.2.2.1, x.1.2.2.2.2.2.2.1, x.1.2.2.2.2.2.2.2.1, ()), (), (x9, ()))))))))))))
 (some (.inr ((x.1.1, (), x.1.2.2.2.2.2.1, x.1.2.2.2.2.2.2.1, x.1.2.2.2.2.2.2.2.1, ()), (), (x.2.2.1, ()))))
def spec_FillMagazine_h2 : Sh := ⟨[(1, .c (.int .i64)), (6, .c (.own 0)), (7, .c (.int .i64)), (8, .c (.int .i64)), (9, .c (.int .i64)), (23, .c (.rd [] .i64)), (24, .c (.int .i64)), (25, .c (.int .i64))], [], [(0, .mats)]⟩
def spec_FillMagazine_r2 : List Sh := [⟨[(1, .c (.int .i64)), (6, .c (.own 0)), (23, .c (.rd [] .i64)), (24, .c (.int .i64)), (25, .c (.int .i64))], [], [(0, .mats)]⟩]
noncomputable def spec_FillMagazine_L2 : Lp := ⟨2, [], spec_FillMagazine_h2, [], [(.exit 2, [])], spec_FillMagazine_r2, loopC spec_FillMagazine_s2⟩
noncomputable def spec_FillMagazine_s0 (x : (Int × Unit × List Int × Int × Int × Unit) × Unit × (List (List (Int × Int)) × Unit)) : Option (((Int × Unit × List Int × Int × Int × Unit) × Unit × (List (List (Int × Int)) × Unit)) ⊕ ((Unit × Unit) × Unit × (List (List (Int × Int)) × Unit))) :=
 let x4 : Bool := decide (x.1.2.2.2.2.1 < x.1.2.2.2.1);
 br x4
 (ck (0 ≤ x.1.2.2.2.2.1)
 (ck (x.1.2.2.2.2.1.toNat < x.1.2.2.1.length)
 (let x5 : Int := x.1.2.2.1.getD x.1.2.2.2.2.1.toNat 0;
 (loopC spec_FillMagazine_s2 ((x.1.1, (), x.1.2.2.2.2.1, x5, (0 : Int), x.1.2.2.1, x.1.2.2.2.1, x.1.2.2.2.2.1, ()), (), (x.2.2.1, ()))).bind fun r11 =>
 let x12 : Int := w64 (r11.1.2.2.2.2.1 + (1 : Int));
 some (.inl ((r11.1.1, (), r11.1.2.2.1, r11.1.2.2.2.1, x12, ()), (), (r11.2.2.1, ()))))))
 (some (.inr (((), ()), (), (x.2.2.1, ()))))
def spec_FillMagazine_h0 : Sh := ⟨[(1, .c (.int .i64)), (6, .c (.own 0)), (23, .c (.rd [] .i64)), (24, .c (.int .i64)), (25, .c (.int .i64))], [], [(0, .mats)]⟩
def spec_FillMagazine_r0 : List Sh := [⟨[(6, .c (.own 0))], [], [(0, .mats)]⟩]
noncomputable def spec_FillMagazine_L0 : Lp := ⟨0, [], spec_FillMagazine_h0, [], [(.exit 0, [])], spec_FillMagazine_r0, loopC spec_FillMagazine_s0⟩
noncomputable def spec_FillMagazine (a0_0 : ByteArray) (a0_1 : List Int) (a0_2 : List Int) (a1 : Int) : Option ((Unit × Bool × Unit) × Unit × (List (List (Int × Int)) × Unit)) :=
 (spec_FontOk a0_0 a0_1 a0_2).bind fun r1 =>
 br (!r1.1.1)
 (some (((), false, ()), (), ([], ())))
 ((spec_l1In a1 (0 : Int) (20 : Int)).bind fun r2 =>
 br (!r2.1.1)
 (some (((), false, ()), (), ([], ())))
 (ck (0 ≤ (a0_0.size : Int))
 (ck (0 ≤ (a0_0.size : Int))
 (ck ((a0_0.size : Int).toNat = (a0_0.size : Int).toNat ∧ (a0_0.size : Int).toNat * 24 ≤ 140737488355328 ∧ (a0_0.size : Int).toNat ≤ 9223372036854775807)
 (let x3 : List (List (Int × Int)) := List.replicate ((a0_0.size : Int).toNat) [];
 (loopC spec_FillMagazine_s0 ((a1, (), a0_2, (a0_2.length : Int), (0 : Int), ()), (), (x3, ()))).bind fun r13 =>
 some (((), true, ()), (), (r13.2.2.1, ())))))))
noncomputable def spec_FillMagazine_C : Ctr := ⟨121, spec_FillMagazine_arg, spec_FillMagazine_res, fun x => spec_FillMagazine x.1.1.1 x.1.1.2.1 x.1.1.2.2.1 x.1.2.1, none⟩
def spec_FillMagazine_H : Hint := ⟨[], [], [], fun _ => []⟩
noncomputable def spec_FillMagazine_T : List Ctr := [spec_FontOk_C, spec_l1In_C]
noncomputable def spec_FillMagazine_Ls : List Lp := [spec_FillMagazine_L2, spec_FillMagazine_L0]
theorem spec_FillMagazine_l0 : ∀ x, spec_FillMagazine_s0 x = stepW E0 spec_FillMagazine_T spec_FillMagazine_Ls spec_FillMagazine_H (loopAt (bodyOf Try.f121) 0) 0 spec_FillMagazine_h0 [] [(.exit 0, [])] spec_FillMagazine_r0 x := fun x => by kernel_rfl
theorem spec_FillMagazine_l2 : ∀ x, spec_FillMagazine_s2 x = stepW E0 spec_FillMagazine_T spec_FillMagazine_Ls spec_FillMagazine_H (loopAt (bodyOf Try.f121) 1) 2 spec_FillMagazine_h2 [] [(.exit 2, [])] spec_FillMagazine_r2 x := fun x => by kernel_rfl
theorem spec_FillMagazine_e : ∀ x, spec_FillMagazine_C.F x = runBodyW E0 spec_FillMagazine_T spec_FillMagazine_Ls spec_FillMagazine_H 121 Try.f121.results.toList (bodyOf Try.f121) [(.tm 4, 6000000, .mats)] (spec_FillMagazine_arg.mk' x) spec_FillMagazine_res := fun x => by kernel_rfl
theorem spec_FillMagazine_ok : spec_FillMagazine_C.Ok E0 := fn_ok (T := spec_FillMagazine_T) (h := spec_FillMagazine_H) (Ls := spec_FillMagazine_Ls) E0_mixed (T_cons spec_FontOk_ok (T_cons spec_l1In_ok T_nil)) Try.func121 (bodyOf_some (by kernel_rfl)) (by kernel_rfl) (loops_of (ks := [0, 2]) (by kernel_rfl) ⟨(loop_one (h := spec_FillMagazine_H) (own := []) (head := spec_FillMagazine_h0) (back := []) (exs := [(.exit 0, [])]) (res := spec_FillMagazine_r0) (step := spec_FillMagazine_s0) (by kernel_rfl) spec_FillMagazine_l0), (loop_one (h := spec_FillMagazine_H) (own := []) (head := spec_FillMagazine_h2) (back := []) (exs := [(.exit 2, [])]) (res := spec_FillMagazine_r2) (step := spec_FillMagazine_s2) (by kernel_rfl) spec_FillMagazine_l2), trivial⟩) spec_FillMagazine_e
def spec_l2Matrix_arg : Sh := ⟨[(0, .agg [.str, .rd [] .i64, .rd [] .i64]), (1, .agg [.int .i64, .int .i64])], [], []⟩
def spec_l2Matrix_res : List Sh := [⟨[(0, .c (.bool))], [], []⟩]
noncomputable def spec_l2Matrix (a0_0 : ByteArray) (a0_1 : List Int) (a0_2 : List Int) (a1_0 : Int) (a1_1 : Int) : Option ((Bool × Unit) × Unit × Unit) :=
 let x1 : Int := w64 ((a0_0.size : Int) - (1 : Int));
 (spec_l1In a1_0 (0 : Int) x1).bind fun r2 =>
 br r2.1.1
 ((spec_l1Set a1_1).bind fun r3 =>
 br r3.1.1
 (ck (0 ≤ a1_0)
 (ck (a1_0.toNat < a0_2.length)
 (let x4 : Int := a0_2.getD a1_0.toNat 0;
 (spec_l1Part a1_1 x4).bind fun r5 =>
 some ((r5.1.1, ()), (), ()))))
 (some ((false, ()), (), ())))
 (some ((false, ()), (), ()))
noncomputable def spec_l2Matrix_C : Ctr := ⟨62, spec_l2Matrix_arg, spec_l2Matrix_res, fun x => spec_l2Matrix x.1.1.1 x.1.1.2.1 x.1.1.2.2.1 x.1.2.1.1 x.1.2.1.2.1, none⟩
def spec_l2Matrix_H : Hint := ⟨[], [], [], fun _ => []⟩
noncomputable def spec_l2Matrix_T : List Ctr := [spec_l1In_C, spec_l1Set_C, spec_l1Part_C]
noncomputable def spec_l2Matrix_Ls : List Lp := []
theorem spec_l2Matrix_e : ∀ x, spec_l2Matrix_C.F x = runBodyW E0 spec_l2Matrix_T spec_l2Matrix_Ls spec_l2Matrix_H 62 Try.f62.results.toList (bodyOf Try.f62) [] (spec_l2Matrix_arg.mk' x) spec_l2Matrix_res := fun x => by kernel_rfl
theorem spec_l2Matrix_ok : spec_l2Matrix_C.Ok E0 := fn_ok (T := spec_l2Matrix_T) (h := spec_l2Matrix_H) (Ls := spec_l2Matrix_Ls) E0_mixed (T_cons spec_l1In_ok (T_cons spec_l1Set_ok (T_cons spec_l1Part_ok T_nil))) Try.func62 (bodyOf_some (by kernel_rfl)) (by kernel_rfl) (loops_of (ks := []) (by kernel_rfl) trivial) spec_l2Matrix_e
def spec_MagazineOk_arg : Sh := ⟨[(0, .agg [.str, .rd [] .i64, .rd [] .i64]), (1, .c (.rd [] .mats))], [], []⟩
def spec_MagazineOk_res : List Sh := [⟨[(0, .c (.bool))], [], []⟩]
noncomputable def spec_MagazineOk_s2 (x : (Unit × List (List (Int × Int)) × Int × Int × List (Int × Int) × Int × Int × Unit) × ((ByteArray × List Int × List Int × Unit) × Unit) × Unit) : Option (((Unit × List (List (Int × Int)) × Int × Int × List (Int × Int) × Int × Int × Unit) × ((ByteArray × List Int × List Int × Unit) × Unit) × Unit) ⊕ (((Bool × Unit) × Unit × Unit) ⊕ ((Unit × List (List (Int × Int)) × Int × Int × Unit) × ((ByteArray × List Int × List Int × Unit) × Unit) × Unit))) :=
 let x6 : Bool := decide (x.1.2.2.2.2.2.2.1 < x.1.2.2.2.2.2.1);
 br x6
 (ck (0 ≤ x.1.2.2.2.2.2.2.1)
 (ck (x.1.2.2.2.2.2.2.1.toNat < x.1.2.2.2.2.1.length)
 (let x7 : Int × Int := x.1.2.2.2.2.1.getD x.1.2.2.2.2.2.2.1.toNat (0, 0);
 (spec_l2Matrix x.2.1.1.1 x.2.1.1.2.1 x.2.1.1.2.2.1 x7.1 x7.2).bind fun r8 =>
 br (!r8.1.1)
 (some (.inr (.inl ((false, ()), (), ()))))
 (let x9 : Int := w64 (x.1.2.2.2.2.2.2.1 + (1 : Int));
 some (.inl (((), x.1.2.1, x.1.2.2.1, x.1.2.2.2.1, x.1.2.2.2.2.1, x.1.2.2.2.2.2.1, x9, ()), ((x.2.1.1.1, x.2.1.1.2.1, x.2.1.1.2.2.1, ()), ()), ()))))))
 (some (.inr (.inr (((), x.1.2.1, x.1.2.2.1, x.1.2.2.2.1, ()), ((x.2.1.1.1, x.2.1.1.2.1, x.2.1.1.2.2.1, ()), ()), ()))))
def spec_MagazineOk_h2 : Sh := ⟨[(2, .c (.box 0 0)), (20, .c (.rd [] .mats)), (21, .c (.int .i64)), (22, .c (.int .i64)), (29, .c (.rd [] .mat)), (30, .c (.int .i64)), (31, .c (.int .i64))], [(0, .cells [.str, .rd [] .i64, .rd [] .i64])], []⟩
def spec_MagazineOk_r2 : List Sh := [⟨[(4, .c (.bool))], [], []⟩, ⟨[(2, .c (.box 0 0)), (20, .c (.rd [] .mats)), (21, .c (.int .i64)), (22, .c (.int .i64))], [(0, .cells [.str, .rd [] .i64, .rd [] .i64])], []⟩]
noncomputable def spec_MagazineOk_L2 : Lp := ⟨2, [], spec_MagazineOk_h2, [], [(.ret, []), (.exit 2, [])], spec_MagazineOk_r2, loopC spec_MagazineOk_s2⟩
noncomputable def spec_MagazineOk_s0 (x : (Unit × List (List (Int × Int)) × Int × Int × Unit) × ((ByteArray × List Int × List Int × Unit) × Unit) × Unit) : Option (((Unit × List (List (Int × Int)) × Int × Int × Unit) × ((ByteArray × List Int × List Int × Unit) × Unit) × Unit) ⊕ (((Bool × Unit) × Unit × Unit) ⊕ (Unit × Unit × Unit))) :=
 let x3 : Bool := decide (x.1.2.2.2.1 < x.1.2.2.1);
 br x3
 (ck (0 ≤ x.1.2.2.2.1)
 (ck (x.1.2.2.2.1.toNat < x.1.2.1.length)
 (let x4 : List (Int × Int) := x.1.2.1.getD x.1.2.2.2.1.toNat [];
 let x5 : Bool := decide ((x4.length : Int) > (20 : Int));
 br x5
 (some (.inr (.inl ((false, ()), (), ()))))
 ((loopC spec_MagazineOk_s2 (((), x.1.2.1, x.1.2.2.1, x.1.2.2.2.1, x4, (x4.length : Int), (0 : Int), ()), ((x.2.1.1.1, x.2.1.1.2.1, x.2.1.1.2.2.1, ()), ()), ())).bind fun r10 =>
 sumK r10 (fun y13 =>
 some (.inr (.inl ((y13.1.1, ()), (), ())))) (fun y14 =>
 let x15 : Int := w64 (y14.1.2.2.2.1 + (1 : Int));
 some (.inl (((), y14.1.2.1, y14.1.2.2.1, x15, ()), ((y14.2.1.1.1, y14.2.1.1.2.1, y14.2.1.1.2.2.1, ()), ()), ())))))))
 (some (.inr (.inr ((), (), ()))))
def spec_MagazineOk_h0 : Sh := ⟨[(2, .c (.box 0 0)), (20, .c (.rd [] .mats)), (21, .c (.int .i64)), (22, .c (.int .i64))], [(0, .cells [.str, .rd [] .i64, .rd [] .i64])], []⟩
def spec_MagazineOk_r0 : List Sh := [⟨[(4, .c (.bool))], [], []⟩, ⟨[], [], []⟩]
noncomputable def spec_MagazineOk_L0 : Lp := ⟨0, [], spec_MagazineOk_h0, [], [(.ret, []), (.exit 0, [])], spec_MagazineOk_r0, loopC spec_MagazineOk_s0⟩
noncomputable def spec_MagazineOk (a0_0 : ByteArray) (a0_1 : List Int) (a0_2 : List Int) (a1 : List (List (Int × Int))) : Option ((Bool × Unit) × Unit × Unit) :=
 (spec_FontOk a0_0 a0_1 a0_2).bind fun r1 =>
 br (!r1.1.1)
 (some ((false, ()), (), ()))
 (let x2 : Bool := (a1.length : Int) != (a0_0.size : Int);
 br x2
 (some ((false, ()), (), ()))
 ((loopC spec_MagazineOk_s0 (((), a1, (a1.length : Int), (0 : Int), ()), ((a0_0, a0_1, a0_2, ()), ()), ())).bind fun r16 =>
 sumK r16 (fun y19 =>
 some ((y19.1.1, ()), (), ())) (fun y20 =>
 some ((true, ()), (), ()))))
noncomputable def spec_MagazineOk_C : Ctr := ⟨60, spec_MagazineOk_arg, spec_MagazineOk_res, fun x => spec_MagazineOk x.1.1.1 x.1.1.2.1 x.1.1.2.2.1 x.1.2.1, none⟩
def spec_MagazineOk_H : Hint := ⟨[], [], [], fun _ => []⟩
noncomputable def spec_MagazineOk_T : List Ctr := [spec_FontOk_C, spec_l2Matrix_C]
noncomputable def spec_MagazineOk_Ls : List Lp := [spec_MagazineOk_L2, spec_MagazineOk_L0]
theorem spec_MagazineOk_l0 : ∀ x, spec_MagazineOk_s0 x = stepW E0 spec_MagazineOk_T spec_MagazineOk_Ls spec_MagazineOk_H (loopAt (bodyOf Try.f60) 0) 0 spec_MagazineOk_h0 [] [(.ret, []), (.exit 0, [])] spec_MagazineOk_r0 x := fun x => by kernel_rfl
theorem spec_MagazineOk_l2 : ∀ x, spec_MagazineOk_s2 x = stepW E0 spec_MagazineOk_T spec_MagazineOk_Ls spec_MagazineOk_H (loopAt (bodyOf Try.f60) 1) 2 spec_MagazineOk_h2 [] [(.ret, []), (.exit 2, [])] spec_MagazineOk_r2 x := fun x => by kernel_rfl
theorem spec_MagazineOk_e : ∀ x, spec_MagazineOk_C.F x = runBodyW E0 spec_MagazineOk_T spec_MagazineOk_Ls spec_MagazineOk_H 60 Try.f60.results.toList (bodyOf Try.f60) [] (spec_MagazineOk_arg.mk' x) spec_MagazineOk_res := fun x => by kernel_rfl
theorem spec_MagazineOk_ok : spec_MagazineOk_C.Ok E0 := fn_ok (T := spec_MagazineOk_T) (h := spec_MagazineOk_H) (Ls := spec_MagazineOk_Ls) E0_mixed (T_cons spec_FontOk_ok (T_cons spec_l2Matrix_ok T_nil)) Try.func60 (bodyOf_some (by kernel_rfl)) (by kernel_rfl) (loops_of (ks := [0, 2]) (by kernel_rfl) ⟨(loop_one (h := spec_MagazineOk_H) (own := []) (head := spec_MagazineOk_h0) (back := []) (exs := [(.ret, []), (.exit 0, [])]) (res := spec_MagazineOk_r0) (step := spec_MagazineOk_s0) (by kernel_rfl) spec_MagazineOk_l0), (loop_one (h := spec_MagazineOk_H) (own := []) (head := spec_MagazineOk_h2) (back := []) (exs := [(.ret, []), (.exit 2, [])]) (res := spec_MagazineOk_r2) (step := spec_MagazineOk_s2) (by kernel_rfl) spec_MagazineOk_l2), trivial⟩) spec_MagazineOk_e
def spec_MeasureOk_arg : Sh := ⟨[(0, .agg [.int .i64, .int .i64, .int .i64])], [], []⟩
def spec_MeasureOk_res : List Sh := [⟨[(0, .c (.bool))], [], []⟩]
noncomputable def spec_MeasureOk (a0_0 : Int) (a0_1 : Int) (a0_2 : Int) : Option ((Bool × Unit) × Unit × Unit) :=
 (spec_l1In a0_0 (1 : Int) (2000 : Int)).bind fun r1 =>
 br r1.1.1
 ((spec_l1In a0_1 (1 : Int) (100 : Int)).bind fun r2 =>
 br r2.1.1
 ((spec_l1In a0_2 a0_1 (100 : Int)).bind fun r3 =>
 some ((r3.1.1, ()), (), ()))
 (some ((false, ()), (), ())))
 (some ((false, ()), (), ()))
noncomputable def spec_MeasureOk_C : Ctr := ⟨39, spec_MeasureOk_arg, spec_MeasureOk_res, fun x => spec_MeasureOk x.1.1.1 x.1.1.2.1 x.1.1.2.2.1, none⟩
def spec_MeasureOk_H : Hint := ⟨[], [], [], fun _ => []⟩
noncomputable def spec_MeasureOk_T : List Ctr := [spec_l1In_C]
noncomputable def spec_MeasureOk_Ls : List Lp := []
theorem spec_MeasureOk_e : ∀ x, spec_MeasureOk_C.F x = runBodyW E0 spec_MeasureOk_T spec_MeasureOk_Ls spec_MeasureOk_H 39 Try.f39.results.toList (bodyOf Try.f39) [] (spec_MeasureOk_arg.mk' x) spec_MeasureOk_res := fun x => by kernel_rfl
theorem spec_MeasureOk_ok : spec_MeasureOk_C.Ok E0 := fn_ok (T := spec_MeasureOk_T) (h := spec_MeasureOk_H) (Ls := spec_MeasureOk_Ls) E0_mixed (T_cons spec_l1In_ok T_nil) Try.func39 (bodyOf_some (by kernel_rfl)) (by kernel_rfl) (loops_of (ks := []) (by kernel_rfl) trivial) spec_MeasureOk_e
def spec_l5Items_arg : Sh := ⟨[(0, .agg [.str, .rd [] .i64, .rd [] .i64]), (1, .c (.rd [] .mat))], [], []⟩
def spec_l5Items_res : List Sh := [⟨[(0, .c (.own 0))], [], [(0, .i64)]⟩]
noncomputable def spec_l5Items_s0 (x : (Unit × Unit × List (Int × Int) × Int × Int × Unit) × ((ByteArray × List Int × List Int × Unit) × Unit) × (List Int × Unit)) : Option (((Unit × Unit × List (Int × Int) × Int × Int × Unit) × ((ByteArray × List Int × List Int × Unit) × Unit) × (List Int × Unit)) ⊕ ((Unit × Unit) × Unit × (List Int × Unit))) :=
 let x1 : Bool := decide (x.1.2.2.2.2.1 < x.1.2.2.2.1);
 br x1
 (ck (0 ≤ x.1.2.2.2.2.1)
 (ck (x.1.2.2.2.2.1.toNat < x.1.2.2.1.length)
 (let x2 : Int × Int := x.1.2.2.1.getD x.1.2.2.2.2.1.toNat (0, 0);
 let x3 : Bool := decide (x2.1 < (0 : Int));
 br x3
 (ck ((x.2.2.1.length + [(0 : Int)].length) * 8 ≤ 140737488355328 ∧ (x.2.2.1.length + [(0 : Int)].length) ≤ 9223372036854775807)
 (let x4 : List Int := x.2.2.1 ++ [(0 : Int)];
 let x5 : Int := w64 (x.1.2.2.2.2.1 + (1 : Int));
 some (.inl (((), (), x.1.2.2.1, x.1.2.2.2.1, x5, ()), ((x.2.1.1.1, x.2.1.1.2.1, x.2.1.1.2.2.1, ()), ()), (x4, ())))))
 (ck (0 ≤ x2.1)
 (ck (x2.1.toNat < x.2.1.1.2.1.length)
 (let x6 : Int := x.2.1.1.2.1.getD x2.1.toNat 0;
 ck ((x.2.2.1.length + [x6].length) * 8 ≤ 140737488355328 ∧ (x.2.2.1.length + [x6].length) ≤ 9223372036854775807)
 (let x7 : List Int := x.2.2.1 ++ [x6];
 let x8 : Int := w64 (x.1.2.2.2.2.1 + (1 : Int));
 some (.inl (((), (), x.1.2.2.1, x.1.2.2.2.1, x8, ()), ((x.2.1.1.1, x.2.1.1.2.1, x.2.1.1.2.2.1, ()), ()), (x7, ()))))))))))
 (some (.inr (((), ()), (), (x.2.2.1, ()))))
def spec_l5Items_h0 : Sh := ⟨[(2, .c (.box 0 0)), (5, .c (.own 0)), (9, .c (.rd [] .mat)), (10, .c (.int .i64)), (11, .c (.int .i64))], [(0, .cells [.str, .rd [] .i64, .rd [] .i64])], [(0, .i64)]⟩
def spec_l5Items_r0 : List Sh := [⟨[(5, .c (.own 0))], [], [(0, .i64)]⟩]
noncomputable def spec_l5Items_L0 : Lp := ⟨0, [], spec_l5Items_h0, [], [(.exit 0, [])], spec_l5Items_r0, loopC spec_l5Items_s0⟩
noncomputable def spec_l5Items (a0_0 : ByteArray) (a0_1 : List Int) (a0_2 : List Int) (a1 : List (Int × Int)) : Option ((Unit × Unit) × Unit × (List Int × Unit)) :=
 (loopC spec_l5Items_s0 (((), (), a1, (a1.length : Int), (0 : Int), ()), ((a0_0, a0_1, a0_2, ()), ()), ([], ()))).bind fun r9 =>
 some (((), ()), (), (r9.2.2.1, ()))
noncomputable def spec_l5Items_C : Ctr := ⟨64, spec_l5Items_arg, spec_l5Items_res, fun x => spec_l5Items x.1.1.1 x.1.1.2.1 x.1.1.2.2.1 x.1.2.1, none⟩
def spec_l5Items_H : Hint := ⟨[], [], [], fun _ => []⟩
noncomputable def spec_l5Items_T : List Ctr := []
noncomputable def spec_l5Items_Ls : List Lp := [spec_l5Items_L0]
theorem spec_l5Items_l0 : ∀ x, spec_l5Items_s0 x = stepW E0 spec_l5Items_T spec_l5Items_Ls spec_l5Items_H (loopAt (bodyOf Try.f64) 0) 0 spec_l5Items_h0 [] [(.exit 0, [])] spec_l5Items_r0 x := fun x => by kernel_rfl
theorem spec_l5Items_e : ∀ x, spec_l5Items_C.F x = runBodyW E0 spec_l5Items_T spec_l5Items_Ls spec_l5Items_H 64 Try.f64.results.toList (bodyOf Try.f64) [] (spec_l5Items_arg.mk' x) spec_l5Items_res := fun x => by kernel_rfl
theorem spec_l5Items_ok : spec_l5Items_C.Ok E0 := fn_ok (T := spec_l5Items_T) (h := spec_l5Items_H) (Ls := spec_l5Items_Ls) E0_mixed T_nil Try.func64 (bodyOf_some (by kernel_rfl)) (by kernel_rfl) (loops_of (ks := [0]) (by kernel_rfl) ⟨(loop_one (h := spec_l5Items_H) (own := []) (head := spec_l5Items_h0) (back := []) (exs := [(.exit 0, [])]) (res := spec_l5Items_r0) (step := spec_l5Items_s0) (by kernel_rfl) spec_l5Items_l0), trivial⟩) spec_l5Items_e
def spec_l3Sum_arg : Sh := ⟨[(0, .c (.rd [] .i64))], [], []⟩
def spec_l3Sum_res : List Sh := [⟨[(0, .c (.int .i64)), (1, .c (.int .i64))], [], []⟩]
noncomputable def spec_l3Sum_s0 (x : (Int × Int × List Int × Int × Int × Unit) × Unit × Unit) : Option (((Int × Int × List Int × Int × Int × Unit) × Unit × Unit) ⊕ ((Int × Int × Unit) × Unit × Unit)) :=
 let x1 : Bool := decide (x.1.2.2.2.2.1 < x.1.2.2.2.1);
 br x1
 (ck (0 ≤ x.1.2.2.2.2.1)
 (ck (x.1.2.2.2.2.1.toNat < x.1.2.2.1.length)
 (let x2 : Int := x.1.2.2.1.getD x.1.2.2.2.2.1.toNat 0;
 let x3 : Int := w64 (x.1.1 + x2);
 let x4 : Bool := x2 == (0 : Int);
 br x4
 (let x5 : Int := w64 (x.1.2.1 + (1 : Int));
 let x6 : Int := w64 (x.1.2.2.2.2.1 + (1 : Int));
 some (.inl ((x3, x5, x.1.2.2.1, x.1.2.2.2.1, x6, ()), (), ())))
 (let x7 : Int := w64 (x.1.2.2.2.2.1 + (1 : Int));
 some (.inl ((x3, x.1.2.1, x.1.2.2.1, x.1.2.2.2.1, x7, ()), (), ()))))))
 (some (.inr ((x.1.1, x.1.2.1, ()), (), ())))
def spec_l3Sum_h0 : Sh := ⟨[(4, .c (.int .i64)), (5, .c (.int .i64)), (8, .c (.rd [] .i64)), (9, .c (.int .i64)), (10, .c (.int .i64))], [], []⟩
def spec_l3Sum_r0 : List Sh := [⟨[(4, .c (.int .i64)), (5, .c (.int .i64))], [], []⟩]
noncomputable def spec_l3Sum_L0 : Lp := ⟨0, [], spec_l3Sum_h0, [], [(.exit 0, [])], spec_l3Sum_r0, loopC spec_l3Sum_s0⟩
noncomputable def spec_l3Sum (a0 : List Int) : Option ((Int × Int × Unit) × Unit × Unit) :=
 (loopC spec_l3Sum_s0 (((0 : Int), (0 : Int), a0, (a0.length : Int), (0 : Int), ()), (), ())).bind fun r8 =>
 some ((r8.1.1, r8.1.2.1, ()), (), ())
noncomputable def spec_l3Sum_C : Ctr := ⟨97, spec_l3Sum_arg, spec_l3Sum_res, fun x => spec_l3Sum x.1.1, none⟩
def spec_l3Sum_H : Hint := ⟨[], [], [], fun _ => []⟩
noncomputable def spec_l3Sum_T : List Ctr := []
noncomputable def spec_l3Sum_Ls : List Lp := [spec_l3Sum_L0]
theorem spec_l3Sum_l0 : ∀ x, spec_l3Sum_s0 x = stepW E0 spec_l3Sum_T spec_l3Sum_Ls spec_l3Sum_H (loopAt (bodyOf Try.f97) 0) 0 spec_l3Sum_h0 [] [(.exit 0, [])] spec_l3Sum_r0 x := fun x => by kernel_rfl
theorem spec_l3Sum_e : ∀ x, spec_l3Sum_C.F x = runBodyW E0 spec_l3Sum_T spec_l3Sum_Ls spec_l3Sum_H 97 Try.f97.results.toList (bodyOf Try.f97) [] (spec_l3Sum_arg.mk' x) spec_l3Sum_res := fun x => by kernel_rfl
theorem spec_l3Sum_ok : spec_l3Sum_C.Ok E0 := fn_ok (T := spec_l3Sum_T) (h := spec_l3Sum_H) (Ls := spec_l3Sum_Ls) E0_mixed T_nil Try.func97 (bodyOf_some (by kernel_rfl)) (by kernel_rfl) (loops_of (ks := [0]) (by kernel_rfl) ⟨(loop_one (h := spec_l3Sum_H) (own := []) (head := spec_l3Sum_h0) (back := []) (exs := [(.exit 0, [])]) (res := spec_l3Sum_r0) (step := spec_l3Sum_s0) (by kernel_rfl) spec_l3Sum_l0), trivial⟩) spec_l3Sum_e
def spec_LineOk_arg : Sh := ⟨[(0, .c (.rd [] .i64))], [], []⟩
def spec_LineOk_res : List Sh := [⟨[(0, .c (.bool))], [], []⟩]
noncomputable def spec_LineOk_s0 (x : (List Int × List Int × Int × Int × Unit) × Unit × Unit) : Option (((List Int × List Int × Int × Int × Unit) × Unit × Unit) ⊕ (((Bool × Unit) × Unit × Unit) ⊕ ((List Int × Unit) × Unit × Unit))) :=
 let x1 : Bool := decide (x.1.2.2.2.1 < x.1.2.2.1);
 br x1
 (ck (0 ≤ x.1.2.2.2.1)
 (ck (x.1.2.2.2.1.toNat < x.1.2.1.length)
 (let x2 : Int := x.1.2.1.getD x.1.2.2.2.1.toNat 0;
 (spec_l1In x2 (0 : Int) (60 : Int)).bind fun r3 =>
 br (!r3.1.1)
 (some (.inr (.inl ((false, ()), (), ()))))
 (let x4 : Int := w64 (x.1.2.2.2.1 + (1 : Int));
 some (.inl ((x.1.1, x.1.2.1, x.1.2.2.1, x4, ()), (), ()))))))
 (some (.inr (.inr ((x.1.1, ()), (), ()))))
def spec_LineOk_h0 : Sh := ⟨[(0, .c (.rd [] .i64)), (5, .c (.rd [] .i64)), (6, .c (.int .i64)), (7, .c (.int .i64))], [], []⟩
def spec_LineOk_r0 : List Sh := [⟨[(2, .c (.bool))], [], []⟩, ⟨[(0, .c (.rd [] .i64))], [], []⟩]
noncomputable def spec_LineOk_L0 : Lp := ⟨0, [], spec_LineOk_h0, [], [(.ret, []), (.exit 0, [])], spec_LineOk_r0, loopC spec_LineOk_s0⟩
noncomputable def spec_LineOk (a0 : List Int) : Option ((Bool × Unit) × Unit × Unit) :=
 (loopC spec_LineOk_s0 ((a0, a0, (a0.length : Int), (0 : Int), ()), (), ())).bind fun r5 =>
 sumK r5 (fun y8 =>
 some ((y8.1.1, ()), (), ())) (fun y9 =>
 let x10 : Bool := decide ((y9.1.1.length : Int) ≤ (120 : Int));
 some ((x10, ()), (), ()))
noncomputable def spec_LineOk_C : Ctr := ⟨41, spec_LineOk_arg, spec_LineOk_res, fun x => spec_LineOk x.1.1, none⟩
def spec_LineOk_H : Hint := ⟨[], [], [], fun _ => []⟩
noncomputable def spec_LineOk_T : List Ctr := [spec_l1In_C]
noncomputable def spec_LineOk_Ls : List Lp := [spec_LineOk_L0]
theorem spec_LineOk_l0 : ∀ x, spec_LineOk_s0 x = stepW E0 spec_LineOk_T spec_LineOk_Ls spec_LineOk_H (loopAt (bodyOf Try.f41) 0) 0 spec_LineOk_h0 [] [(.ret, []), (.exit 0, [])] spec_LineOk_r0 x := fun x => by kernel_rfl
theorem spec_LineOk_e : ∀ x, spec_LineOk_C.F x = runBodyW E0 spec_LineOk_T spec_LineOk_Ls spec_LineOk_H 41 Try.f41.results.toList (bodyOf Try.f41) [] (spec_LineOk_arg.mk' x) spec_LineOk_res := fun x => by kernel_rfl
theorem spec_LineOk_ok : spec_LineOk_C.Ok E0 := fn_ok (T := spec_LineOk_T) (h := spec_LineOk_H) (Ls := spec_LineOk_Ls) E0_mixed (T_cons spec_l1In_ok T_nil) Try.func41 (bodyOf_some (by kernel_rfl)) (by kernel_rfl) (loops_of (ks := [0]) (by kernel_rfl) ⟨(loop_one (h := spec_LineOk_H) (own := []) (head := spec_LineOk_h0) (back := []) (exs := [(.ret, []), (.exit 0, [])]) (res := spec_LineOk_r0) (step := spec_LineOk_s0) (by kernel_rfl) spec_LineOk_l0), trivial⟩) spec_LineOk_e
def spec_l3Fits_arg : Sh := ⟨[(0, .agg [.int .i64, .int .i64, .int .i64]), (1, .c (.rd [] .i64))], [], []⟩
def spec_l3Fits_res : List Sh := [⟨[(0, .c (.bool))], [], []⟩]
noncomputable def spec_l3Fits (a0_0 : Int) (a0_1 : Int) (a0_2 : Int) (a1 : List Int) : Option ((Bool × Unit) × Unit × Unit) :=
 (spec_l3Sum a1).bind fun r1 =>
 (spec_LineOk a1).bind fun r2 =>
 br r2.1.1
 (let x3 : Int := w64 (r1.1.2.1 * a0_1);
 let x4 : Int := w64 (r1.1.1 + x3);
 let x5 : Bool := decide (x4 ≤ a0_0);
 some ((x5, ()), (), ()))
 (some ((false, ()), (), ()))
noncomputable def spec_l3Fits_C : Ctr := ⟨63, spec_l3Fits_arg, spec_l3Fits_res, fun x => spec_l3Fits x.1.1.1 x.1.1.2.1 x.1.1.2.2.1 x.1.2.1, none⟩
def spec_l3Fits_H : Hint := ⟨[], [], [], fun _ => []⟩
noncomputable def spec_l3Fits_T : List Ctr := [spec_l3Sum_C, spec_LineOk_C]
noncomputable def spec_l3Fits_Ls : List Lp := []
theorem spec_l3Fits_e : ∀ x, spec_l3Fits_C.F x = runBodyW E0 spec_l3Fits_T spec_l3Fits_Ls spec_l3Fits_H 63 Try.f63.results.toList (bodyOf Try.f63) [] (spec_l3Fits_arg.mk' x) spec_l3Fits_res := fun x => by kernel_rfl
theorem spec_l3Fits_ok : spec_l3Fits_C.Ok E0 := fn_ok (T := spec_l3Fits_T) (h := spec_l3Fits_H) (Ls := spec_l3Fits_Ls) E0_mixed (T_cons spec_l3Sum_ok (T_cons spec_LineOk_ok T_nil)) Try.func63 (bodyOf_some (by kernel_rfl)) (by kernel_rfl) (loops_of (ks := []) (by kernel_rfl) trivial) spec_l3Fits_e
def spec_MachineOk_arg : Sh := ⟨[(0, .agg [.str, .rd [] .i64, .rd [] .i64, .rd [] .mats, .int .i64, .int .i64, .int .i64, .int .i64, .rd [] .mat, .rd [] .mat])], [], []⟩
def spec_MachineOk_res : List Sh := [⟨[(0, .c (.bool))], [], []⟩]
noncomputable def spec_MachineOk_s0 (x : (Unit × List (Int × Int) × Int × Int × Unit) × ((ByteArray × List Int × List Int × List (List (Int × Int)) × Int × Int × Int × Int × List (Int × Int) × List (Int × Int) × Unit) × Unit) × Unit) : Option (((Unit × List (Int × Int) × Int × Int × Unit) × ((ByteArray × List Int × List Int × List (List (Int × Int)) × Int × Int × Int × Int × List (Int × Int) × List (Int × Int) × Unit) × Unit) × Unit) ⊕ (((Bool × Unit) × Unit × Unit) ⊕ ((Unit × Unit) × ((ByteArray × List Int × List Int × List (List (Int × Int)) × Int × Int × Int × Int × List (Int × Int) × List (Int × Int) × Unit) × Unit) × Unit))) :=
 let x5 : Bool := decide (x.1.2.2.2.1 < x.1.2.2.1);
 br x5
 (ck (0 ≤ x.1.2.2.2.1)
 (ck (x.1.2.2.2.1.toNat < x.1.2.1.length)
 (let x6 : Int × Int := x.1.2.1.getD x.1.2.2.2.1.toNat (0, 0);
 (spec_l2Matrix x.2.1.1.1 x.2.1.1.2.1 x.2.1.1.2.2.1 x6.1 x6.2).bind fun r7 =>
 br (!r7.1.1)
 (let x8 : Bool := x6.1 != (-1 : Int);
 br x8
 (some (.inr (.inl ((false, ()), (), ()))))
 (let x9 : Bool := x6.2 != (0 : Int);
 br x9
 (some (.inr (.inl ((false, ()), (), ()))))
 (let x10 : Int := w64 (x.1.2.2.2.1 + (1 : Int));
 some (.inl (((), x.1.2.1, x.1.2.2.1, x10, ()), ((x.2.1.1.1, x.2.1.1.2.1, x.2.1.1.2.2.1, x.2.1.1.2.2.2.1, x.2.1.1.2.2.2.2.1, x.2.1.1.2.2.2.2.2.1, x.2.1.1.2.2.2.2.2.2.1, x.2.1.1.2.2.2.2.2.2.2.1, x.2.1.1.2.2.2.2.2.2.2.2.1, x.2.1.1.2.2.2.2.2.2.2.2.2.1, ()), ()), ())))))
 (let x11 : Int := w64 (x.1.2.2.2.1 + (1 : Int));
 some (.inl (((), x.1.2.1, x.1.2.2.1, x11, ()), ((x.2.1.1.1, x.2.1.1.2.1, x.2.1.1.2.2.1, x.2.1.1.2.2.2.1, x.2.1.1.2.2.2.2.1, x.2.1.1.2.2.2.2.2.1, x.2.1.1.2.2.2.2.2.2.1, x.2.1.1.2.2.2.2.2.2.2.1, x.2.1.1.2.2.2.2.2.2.2.2.1, x.2.1.1.2.2.2.2.2.2.2.2.2.1, ()), ()), ()))))))
 (some (.inr (.inr (((), ()), ((x.2.1.1.1, x.2.1.1.2.1, x.2.1.1.2.2.1, x.2.1.1.2.2.2.1, x.2.1.1.2.2.2.2.1, x.2.1.1.2.2.2.2.2.1, x.2.1.1.2.2.2.2.2.2.1, x.2.1.1.2.2.2.2.2.2.2.1, x.2.1.1.2.2.2.2.2.2.2.2.1, x.2.1.1.2.2.2.2.2.2.2.2.2.1, ()), ()), ()))))
def spec_MachineOk_h0 : Sh := ⟨[(1, .c (.box 0 0)), (32, .c (.rd [] .mat)), (33, .c (.int .i64)), (34, .c (.int .i64))], [(0, .cells [.str, .rd [] .i64, .rd [] .i64, .rd [] .mats, .int .i64, .int .i64, .int .i64, .int .i64, .rd [] .mat, .rd [] .mat])], []⟩
def spec_MachineOk_r0 : List Sh := [⟨[(2, .c (.bool))], [], []⟩, ⟨[(1, .c (.box 0 0))], [(0, .cells [.str, .rd [] .i64, .rd [] .i64, .rd [] .mats, .int .i64, .int .i64, .int .i64, .int .i64, .rd [] .mat, .rd [] .mat])], []⟩]
noncomputable def spec_MachineOk_L0 : Lp := ⟨0, [], spec_MachineOk_h0, [], [(.ret, []), (.exit 0, [])], spec_MachineOk_r0, loopC spec_MachineOk_s0⟩
noncomputable def spec_MachineOk_s2 (x : (Unit × List (Int × Int) × Int × Int × Unit) × ((ByteArray × List Int × List Int × List (List (Int × Int)) × Int × Int × Int × Int × List (Int × Int) × List (Int × Int) × Unit) × Unit) × Unit) : Option (((Unit × List (Int × Int) × Int × Int × Unit) × ((ByteArray × List Int × List Int × List (List (Int × Int)) × Int × Int × Int × Int × List (Int × Int) × List (Int × Int) × Unit) × Unit) × Unit) ⊕ (((Bool × Unit) × Unit × Unit) ⊕ ((Unit × Unit) × ((ByteArray × List Int × List Int × List (List (Int × Int)) × Int × Int × Int × Int × List (Int × Int) × List (Int × Int) × Unit) × Unit) × Unit))) :=
 let x17 : Bool := decide (x.1.2.2.2.1 < x.1.2.2.1);
 br x17
 (ck (0 ≤ x.1.2.2.2.1)
 (ck (x.1.2.2.2.1.toNat < x.1.2.1.length)
 (let x18 : Int × Int := x.1.2.1.getD x.1.2.2.2.1.toNat (0, 0);
 (spec_l2Matrix x.2.1.1.1 x.2.1.1.2.1 x.2.1.1.2.2.1 x18.1 x18.2).bind fun r19 =>
 br (!r19.1.1)
 (some (.inr (.inl ((false, ()), (), ()))))
 (let x20 : Int := w64 (x.1.2.2.2.1 + (1 : Int));
 some (.inl (((), x.1.2.1, x.1.2.2.1, x20, ()), ((x.2.1.1.1, x.2.1.1.2.1, x.2.1.1.2.2.1, x.2.1.1.2.2.2.1, x.2.1.1.2.2.2.2.1, x.2.1.1.2.2.2.2.2.1, x.2.1.1.2.2.2.2.2.2.1, x.2.1.1.2.2.2.2.2.2.2.1, x.2.1.1.2.2.2.2.2.2.2.2.1, x.2.1.1.2.2.2.2.2.2.2.2.2.1, ()), ()), ()))))))
 (some (.inr (.inr (((), ()), ((x.2.1.1.1, x.2.1.1.2.1, x.2.1.1.2.2.1, x.2.1.1.2.2.2.1, x.2.1.1.2.2.2.2.1, x.2.1.1.2.2.2.2.2.1, x.2.1.1.2.2.2.2.2.2.1, x.2.1.1.2.2.2.2.2.2.2.1, x.2.1.1.2.2.2.2.2.2.2.2.1, x.2.1.1.2.2.2.2.2.2.2.2.2.1, ()), ()), ()))))
def spec_MachineOk_h2 : Sh := ⟨[(1, .c (.box 0 0)), (55, .c (.rd [] .mat)), (56, .c (.int .i64)), (57, .c (.int .i64))], [(0, .cells [.str, .rd [] .i64, .rd [] .i64, .rd [] .mats, .int .i64, .int .i64, .int .i64, .int .i64, .rd [] .mat, .rd [] .mat])], []⟩
def spec_MachineOk_r2 : List Sh := [⟨[(2, .c (.bool))], [], []⟩, ⟨[(1, .c (.box 0 0))], [(0, .cells [.str, .rd [] .i64, .rd [] .i64, .rd [] .mats, .int .i64, .int .i64, .int .i64, .int .i64, .rd [] .mat, .rd [] .mat])], []⟩]
noncomputable def spec_MachineOk_L2 : Lp := ⟨2, [], spec_MachineOk_h2, [], [(.ret, []), (.exit 2, [])], spec_MachineOk_r2, loopC spec_MachineOk_s2⟩
noncomputable def spec_MachineOk (a0_0 : ByteArray) (a0_1 : List Int) (a0_2 : List Int) (a0_3 : List (List (Int × Int))) (a0_4 : Int) (a0_5 : Int) (a0_6 : Int) (a0_7 : Int) (a0_8 : List (Int × Int)) (a0_9 : List (Int × Int)) : Option ((Bool × Unit) × Unit × Unit) :=
 (spec_MagazineOk a0_0 a0_1 a0_2 a0_3).bind fun r1 =>
 br (!r1.1.1)
 (some ((false, ()), (), ()))
 ((spec_l1In a0_4 (0 : Int) (60 : Int)).bind fun r2 =>
 br (!r2.1.1)
 (some ((false, ()), (), ()))
 ((spec_MeasureOk a0_5 a0_6 a0_7).bind fun r3 =>
 br (!r3.1.1)
 (some ((false, ()), (), ()))
 (let x4 : Bool := decide ((a0_9.length : Int) > (240 : Int));
 br x4
 (some ((false, ()), (), ()))
 ((loopC spec_MachineOk_s0 (((), a0_8, (a0_8.length : Int), (0 : Int), ()), ((a0_0, a0_1, a0_2, a0_3, a0_4, a0_5, a0_6, a0_7, a0_8, a0_9, ()), ()), ())).bind fun r12 =>
 sumK r12 (fun y15 =>
 some ((y15.1.1, ()), (), ())) (fun y16 =>
 (loopC spec_MachineOk_s2 (((), y16.2.1.1.2.2.2.2.2.2.2.2.2.1, (y16.2.1.1.2.2.2.2.2.2.2.2.2.1.length : Int), (0 : Int), ()), ((y16.2.1.1.1, y16.2.1.1.2.1, y16.2.1.1.2.2.1, y16.2.1.1.2.2.2.1, y16.2.1.1.2.2.2.2.1, y16.2.1.1.2.2.2.2.2.1, y16.2.1.1.2.2.2.2.2.2.1, y16.2.1.1.2.2.2.2.2.2.2.1, y16.2.1.1.2.2.2.2.2.2.2.2.1, y16.2.1.1.2.2.2.2.2.2.2.2.2.1, ()), ()), ())).bind fun r21 =>
 sumK r21 (fun y24 =>
 some ((y24.1.1, ()), (), ())) (fun y25 =>
 (spec_l5Items y25.2.1.1.1 y25.2.1.1.2.1 y25.2.1.1.2.2.1 y25.2.1.1.2.2.2.2.2.2.2.2.1).bind fun r26 =>
 (spec_l3Fits y25.2.1.1.2.2.2.2.2.1 y25.2.1.1.2.2.2.2.2.2.1 y25.2.1.1.2.2.2.2.2.2.2.1 r26.2.2.1).bind fun r27 =>
 some ((r27.1.1, ()), (), ())))))))
noncomputable def spec_MachineOk_C : Ctr := ⟨20, spec_MachineOk_arg, spec_MachineOk_res, fun x => spec_MachineOk x.1.1.1 x.1.1.2.1 x.1.1.2.2.1 x.1.1.2.2.2.1 x.1.1.2.2.2.2.1 x.1.1.2.2.2.2.2.1 x.1.1.2.2.2.2.2.2.1 x.1.1.2.2.2.2.2.2.2.1 x.1.1.2.2.2.2.2.2.2.2.1 x.1.1.2.2.2.2.2.2.2.2.2.1, none⟩
def spec_MachineOk_H : Hint := ⟨[], [], [], fun _ => []⟩
noncomputable def spec_MachineOk_T : List Ctr := [spec_MagazineOk_C, spec_l1In_C, spec_MeasureOk_C, spec_l2Matrix_C, spec_l5Items_C, spec_l3Fits_C]
noncomputable def spec_MachineOk_Ls : List Lp := [spec_MachineOk_L0, spec_MachineOk_L2]
theorem spec_MachineOk_l0 : ∀ x, spec_MachineOk_s0 x = stepW E0 spec_MachineOk_T spec_MachineOk_Ls spec_MachineOk_H (loopAt (bodyOf Try.f20) 0) 0 spec_MachineOk_h0 [] [(.ret, []), (.exit 0, [])] spec_MachineOk_r0 x := fun x => by kernel_rfl
theorem spec_MachineOk_l2 : ∀ x, spec_MachineOk_s2 x = stepW E0 spec_MachineOk_T spec_MachineOk_Ls spec_MachineOk_H (loopAt (bodyOf Try.f20) 1) 2 spec_MachineOk_h2 [] [(.ret, []), (.exit 2, [])] spec_MachineOk_r2 x := fun x => by kernel_rfl
theorem spec_MachineOk_e : ∀ x, spec_MachineOk_C.F x = runBodyW E0 spec_MachineOk_T spec_MachineOk_Ls spec_MachineOk_H 20 Try.f20.results.toList (bodyOf Try.f20) [] (spec_MachineOk_arg.mk' x) spec_MachineOk_res := fun x => by kernel_rfl
theorem spec_MachineOk_ok : spec_MachineOk_C.Ok E0 := fn_ok (T := spec_MachineOk_T) (h := spec_MachineOk_H) (Ls := spec_MachineOk_Ls) E0_mixed (T_cons spec_MagazineOk_ok (T_cons spec_l1In_ok (T_cons spec_MeasureOk_ok (T_cons spec_l2Matrix_ok (T_cons spec_l5Items_ok (T_cons spec_l3Fits_ok T_nil)))))) Try.func20 (bodyOf_some (by kernel_rfl)) (by kernel_rfl) (loops_of (ks := [0, 2]) (by kernel_rfl) ⟨(loop_one (h := spec_MachineOk_H) (own := []) (head := spec_MachineOk_h0) (back := []) (exs := [(.ret, []), (.exit 0, [])]) (res := spec_MachineOk_r0) (step := spec_MachineOk_s0) (by kernel_rfl) spec_MachineOk_l0), (loop_one (h := spec_MachineOk_H) (own := []) (head := spec_MachineOk_h2) (back := []) (exs := [(.ret, []), (.exit 2, [])]) (res := spec_MachineOk_r2) (step := spec_MachineOk_s2) (by kernel_rfl) spec_MachineOk_l2), trivial⟩) spec_MachineOk_e
def spec_l5Draw_arg : Sh := ⟨[(0, .c (.box 0 0))], [(0, .cells [.rd [] .u8, .int .i64, .int .i64])], []⟩
def spec_l5Draw_res : List Sh := [⟨[(0, .agg [.str, .rd [] .i64, .rd [] .i64, .own 0, .int .i64, .int .i64, .int .i64, .int .i64, .own 1, .own 2]), (1, .c (.box 0 0))], [(0, .cells [.rd [] .u8, .int .i64, .int .i64])], [(0, .mats), (1, .mat), (2, .mat)]⟩]
noncomputable def spec_l5Draw_s0 (x : (Unit × Unit × Unit × Unit × Int × Unit) × ((List Int × Int × Int × Unit) × (ByteArray × Unit × Unit × Unit × Int × Int × Int × Int × Unit × Unit × Unit) × (ByteArray × List Int × List Int × Unit) × (ByteArray × List Int × List Int × Unit × Int × Int × Int × Int × Unit × Unit × Unit) × Unit) × (List (List (Int × Int)) × List (Int × Int) × Unit)) : Option (((Unit × Unit × Unit × Unit × Int × Unit) × ((List Int × Int × Int × Unit) × (ByteArray × Unit × Unit × Unit × Int × Int × Int × Int × Unit × Unit × Unit) × (ByteArray × List Int × List Int × Unit) × (ByteArray × List Int × List Int × Unit × Int × Int × Int × Int × Unit × Unit × Unit) × Unit) × (List (List (Int × Int)) × List (Int × Int) × Unit)) ⊕ ((Unit × Unit × Unit × Unit × Unit) × ((List Int × Int × Int × Unit) × (ByteArray × Unit × Unit × Unit × Int × Int × Int × Int × Unit × Unit × Unit) × (ByteArray × List Int × List Int × Unit) × (ByteArray × List Int × List Int × Unit × Int × Int × Int × Int × Unit × Unit × Unit) × Unit) × (List (List (Int × Int)) × List (Int × Int) × Unit))) :=
 let x11 : Bool := decide (x.1.2.2.2.2.1 > (0 : Int));
 br x11
 ((spec_l01Below (x.2.1.2.2.1.1.size : Int) x.2.1.1.1 x.2.1.1.2.1 x.2.1.1.2.2.1).bind fun r12 =>
 ck (0 ≤ r12.1.1)
 (ck (r12.1.1.toNat < x.2.1.2.2.1.2.2.1.length)
 (let x13 : Int := x.2.1.2.2.1.2.2.1.getD r12.1.1.toNat 0;
 (spec_l01Once (4 : Int) r12.2.1.1.1 r12.2.1.1.2.1 r12.2.1.1.2.2.1).bind fun r14 =>
 br r14.1.1
 ((spec_l01Below (7 : Int) r14.2.1.1.1 r14.2.1.1.2.1 r14.2.1.1.2.2.1).bind fun r15 =>
 ck (0 ≤ r15.1.1)
 (let x16 : Int := w64 ((1 : Int) * 2 ^ (min r15.1.1.toNat 64));
 let x17 : Int := bAndNot .i64 x13 x16;
 ck ((x.2.2.2.1.length + [(r12.1.1, x17)].length) * 16 ≤ 140737488355328 ∧ (x.2.2.2.1.length + [(r12.1.1, x17)].length) ≤ 9223372036854775807)
 (let x18 : List (Int × Int) := x.2.2.2.1 ++ [(r12.1.1, x17)];
 let x19 : Int := w64 (x.1.2.2.2.2.1 - (1 : Int));
 some (.inl (((), (), (), (), x19, ()), ((r15.2.1.1.1, r15.2.1.1.2.1, r15.2.1.1.2.2.1, ()), (x.2.1.2.1.1, (), (), (), x.2.1.2.1.2.2.2.2.1, x.2.1.2.1.2.2.2.2.2.1, x.2.1.2.1.2.2.2.2.2.2.1, x.2.1.2.1.2.2.2.2.2.2.2.1, (), (), ()), (x.2.1.2.2.1.1, x.2.1.2.2.1.2.1, x.2.1.2.2.1.2.2.1, ()), (x.2.1.2.2.2.1.1, x.2.1.2.2.2.1.2.1, x.2.1.2.2.2.1.2.2.1, (), x.2.1.2.2.2.1.2.2.2.2.1, x.2.1.2.2.2.1.2.2.2.2.2.1, x.2.1.2.2.2.1.2.2.2.2.2.2.1, x.2.1.2.2.2.1.2.2.2.2.2.2.2.1, (), (), ()), ()), (x.2.2.1, x18, ()))))))
 (ck ((x.2.2.2.1.length + [(r12.1.1, x13)].length) * 16 ≤ 140737488355328 ∧ (x.2.2.2.1.length + [(r12.1.1, x13)].length) ≤ 9223372036854775807)
 (let x20 : List (Int × Int) := x.2.2.2.1 ++ [(r12.1.1, x13)];
 let x21 : Int := w64 (x.1.2.2.2.2.1 - (1 : Int));
 some (.inl (((), (), (), (), x21, ()), ((r14.2.1.1.1, r14.2.1.1.2.1, r14.2.1.1.2.2.1, ()), (x.2.1.2.1.1, (), (), (), x.2.1.2.1.2.2.2.2.1, x.2.1.2.1.2.2.2.2.2.1, x.2.1.2.1.2.2.2.2.2.2.1, x.2.1.2.1.2.2.2.2.2.2.2.1, (), (), ()), (x.2.1.2.2.1.1, x.2.1.2.2.1.2.1, x.2.1.2.2.1.2.2.1, ()), (x.2.1.2.2.2.1.1, x.2.1.2.2.2.1.2.1, x.2.1.2.2.2.1.2.2.1, (), x.2.1.2.2.2.1.2.2.2.2.1, x.2.1.2.2.2.1.2.2.2.2.2.1, x.2.1.2.2.2.1.2.2.2.2.2.2.1, x.2.1.2.2.2.1.2.2.2.2.2.2.2.1, (), (), ()), ()), (x.2.2.1, x20, ()))))))))
 (some (.inr (((), (), (), (), ()), ((x.2.1.1.1, x.2.1.1.2.1, x.2.1.1.2.2.1, ()), (x.2.1.2.1.1, (), (), (), x.2.1.2.1.2.2.2.2.1, x.2.1.2.1.2.2.2.2.2.1, x.2.1.2.1.2.2.2.2.2.2.1, x.2.1.2.1.2.2.2.2.2.2.2.1, (), (), ()), (x.2.1.2.2.1.1, x.2.1.2.2.1.2.1, x.2.1.2.2.1.2.2.1, ()), (x.2.1.2.2.2.1.1, x.2.1.2.2.2.1.2.1, x.2.1.2.2.2.1.2.2.1, (), x.2.1.2.2.2.1.2.2.2.2.1, x.2.1.2.2.2.1.2.2.2.2.2.1, x.2.1.2.2.2.1.2.2.2.2.2.2.1, x.2.1.2.2.2.1.2.2.2.2.2.2.2.1, (), (), ()), ()), (x.2.2.1, x.2.2.2.1, ()))))
def spec_l5Draw_h0 : Sh := ⟨[(0, .c (.box 0 0)), (2, .c (.box 1 0)), (3, .c (.box 2 0)), (4, .c (.box 3 0)), (5, .c (.int .i64))], [(0, .cells [.rd [] .u8, .int .i64, .int .i64]), (1, .cells [.str, .nil, .nil, .nil, .int .i64, .int .i64, .int .i64, .int .i64, .nil, .nil]), (2, .cells [.str, .rd [] .i64, .rd [] .i64]), (3, .cells [.str, .rd [] .i64, .rd [] .i64, .own 0, .int .i64, .int .i64, .int .i64, .int .i64, .nil, .own 1])], [(0, .mats), (1, .mat)]⟩
def spec_l5Draw_r0 : List Sh := [⟨[(0, .c (.box 0 0)), (2, .c (.box 1 0)), (3, .c (.box 2 0)), (4, .c (.box 3 0))], [(0, .cells [.rd [] .u8, .int .i64, .int .i64]), (1, .cells [.str, .nil, .nil, .nil, .int .i64, .int .i64, .int .i64, .int .i64, .nil, .nil]), (2, .cells [.str, .rd [] .i64, .rd [] .i64]), (3, .cells [.str, .rd [] .i64, .rd [] .i64, .own 0, .int .i64, .int .i64, .int .i64, .int .i64, .nil, .own 1])], [(0, .mats), (1, .mat)]⟩]
noncomputable def spec_l5Draw_L0 : Lp := ⟨0, [(.bx 4 9, 5000000, .mat)], spec_l5Draw_h0, [(.bx 4 9, 5000000, .mat)], [(.exit 0, [])], spec_l5Draw_r0, loopC spec_l5Draw_s0⟩
noncomputable def spec_l5Draw_s2 (x : (Unit × Unit × Unit × Unit × Int × Unit) × ((List Int × Int × Int × Unit) × (ByteArray × Unit × Unit × Unit × Int × Int × Int × Int × Unit × Unit × Unit) × (ByteArray × List Int × List Int × Unit) × (ByteArray × List Int × List Int × Unit × Int × Int × Int × Int × Unit × Unit × Unit) × Unit) × (List (List (Int × Int)) × List (Int × Int) × List (Int × Int) × Unit)) : Option (((Unit × Unit × Unit × Unit × Int × Unit) × ((List Int × Int × Int × Unit) × (ByteArray × Unit × Unit × Unit × Int × Int × Int × Int × Unit × Unit × Unit) × (ByteArray × List Int × List Int × Unit) × (ByteArray × List Int × List Int × Unit × Int × Int × Int × Int × Unit × Unit × Unit) × Unit) × (List (List (Int × Int)) × List (Int × Int) × List (Int × Int) × Unit)) ⊕ ((Unit × Unit × Unit × Unit) × ((List Int × Int × Int × Unit) × (ByteArray × Unit × Unit × Unit × Int × Int × Int × Int × Unit × Unit × Unit) × (ByteArray × List Int × List Int × Unit × Int × Int × Int × Int × Unit × Unit × Unit) × Unit) × (List (List (Int × Int)) × List (Int × Int) × List (Int × Int) × Unit))) :=
 let x24 : Bool := decide (x.1.2.2.2.2.1 > (0 : Int));
 br x24
 (let x25 : Int := w64 ((x.2.1.2.2.1.1.size : Int) + (1 : Int));
 (spec_l01Below x25 x.2.1.1.1 x.2.1.1.2.1 x.2.1.1.2.2.1).bind fun r26 =>
 let x27 : Int := w64 (r26.1.1 - (1 : Int));
 let x28 : Bool := decide (x27 ≥ (0 : Int));
 br x28
 (ck (0 ≤ x27)
 (ck (x27.toNat < x.2.1.2.2.1.2.2.1.length)
 (let x29 : Int := x.2.1.2.2.1.2.2.1.getD x27.toNat 0;
 both (let w33 : Option (((Unit × Unit × Unit × Unit × Int × Unit) × ((List Int × Int × Int × Unit) × (ByteArray × Unit × Unit × Unit × Int × Int × Int × Int × Unit × Unit × Unit) × (ByteArray × List Int × List Int × Unit) × (ByteArray × List Int × List Int × Unit × Int × Int × Int × Int × Unit × Unit × Unit) × Unit) × (List (List (Int × Int)) × List (Int × Int) × List (Int × Int) × Unit)) ⊕ (Unit × Unit × Unit × Unit) × ((List Int × Int × Int × Unit) × (ByteArray × Unit × Unit × Unit × Int × Int × Int × Int × Unit × Unit × Unit) × (ByteArray × List Int × List Int × Unit × Int × Int × Int × Int × Unit × Unit × Unit) × Unit) × (List (List (Int × Int)) × List (Int × Int) × List (Int × Int) × Unit)) := (ck ((([] : List Int).length + x.2.2.2.1.length) * 16 ≤ 140737488355328 ∧ (([] : List Int).length + x.2.2.2.1.length) ≤ 9223372036854775807)
 (let x30 : List (Int × Int) := [] ++ x.2.2.2.1;
 ck ((([] : List Int).length + x.2.2.2.1.length) * 16 ≤ 140737488355328 ∧ (([] : List Int).length + x.2.2.2.1.length) ≤ 9223372036854775807)
 (let x31 : List (Int × Int) := [] ++ x.2.2.2.1;
 ck ((x31.length + [(x27, x29)].length) * 16 ≤ 140737488355328 ∧ (x31.length + [(x27, x29)].length) ≤ 9223372036854775807)
 (let x32 : List (Int × Int) := x31 ++ [(x27, x29)];
 (spec_MachineOk x.2.1.2.2.2.1.1 x.2.1.2.2.2.1.2.1 x.2.1.2.2.2.1.2.2.1 x.2.2.1 x.2.1.2.2.2.1.2.2.2.2.1 x.2.1.2.2.2.1.2.2.2.2.2.1 x.2.1.2.2.2.1.2.2.2.2.2.2.1 x.2.1.2.2.2.1.2.2.2.2.2.2.2.1 x32 x.2.2.2.2.1).bind fun r34 =>
 br r34.1.1
 (let x35 : Int := w64 (x.1.2.2.2.2.1 - (1 : Int));
 some (.inl (((), (), (), (), x35, ()), ((r26.2.1.1.1, r26.2.1.1.2.1, r26.2.1.1.2.2.1, ()), (x.2.1.2.1.1, (), (), (), x.2.1.2.1.2.2.2.2.1, x.2.1.2.1.2.2.2.2.2.1, x.2.1.2.1.2.2.2.2.2.2.1, x.2.1.2.1.2.2.2.2.2.2.2.1, (), (), ()), (x.2.1.2.2.1.1, x.2.1.2.2.1.2.1, x.2.1.2.2.1.2.2.1, ()), (x.2.1.2.2.2.1.1, x.2.1.2.2.2.1.2.1, x.2.1.2.2.2.1.2.2.1, (), x.2.1.2.2.2.1.2.2.2.2.1, x.2.1.2.2.2.1.2.2.2.2.2.1, x.2.1.2.2.2.1.2.2.2.2.2.2.1, x.2.1.2.2.2.1.2.2.2.2.2.2.2.1, (), (), ()), ()), (x.2.2.1, x32, x.2.2.2.2.1, ()))))
 (let x36 : Int := w64 (x.1.2.2.2.2.1 - (1 : Int));
 some (.inl (((), (), (), (), x36, ()), ((r26.2.1.1.1, r26.2.1.1.2.1, r26.2.1.1.2.2.1, ()), (x.2.1.2.1.1, (), (), (), x.2.1.2.1.2.2.2.2.1, x.2.1.2.1.2.2.2.2.2.1, x.2.1.2.1.2.2.2.2.2.2.1, x.2.1.2.1.2.2.2.2.2.2.2.1, (), (), ()), (x.2.1.2.2.1.1, x.2.1.2.2.1.2.1, x.2.1.2.2.1.2.2.1, ()), (x.2.1.2.2.2.1.1, x.2.1.2.2.2.1.2.1, x.2.1.2.2.2.1.2.2.1, (), x.2.1.2.2.2.1.2.2.2.2.1, x.2.1.2.2.2.1.2.2.2.2.2.1, x.2.1.2.2.2.1.2.2.2.2.2.2.1, x.2.1.2.2.2.1.2.2.2.2.2.2.2.1, (), (), ()), ()), (x.2.2.1, x.2.2.2.1, x.2.2.2.2.1, ()))))))));
 both w33 (w33))
 ((ck ((([] : List Int).length + x.2.2.2.1.length) * 16 ≤ 140737488355328 ∧ (([] : List Int).length + x.2.2.2.1.length) ≤ 9223372036854775807)
 (let x30 : List (Int × Int) := [] ++ x.2.2.2.1;
 ck ((([] : List Int).length + x.2.2.2.1.length) * 16 ≤ 140737488355328 ∧ (([] : List Int).length + x.2.2.2.1.length) ≤ 9223372036854775807)
 (let x31 : List (Int × Int) := [] ++ x.2.2.2.1;
 ck ((x31.length + [(x27, x29)].length) * 16 ≤ 140737488355328 ∧ (x31.length + [(x27, x29)].length) ≤ 9223372036854775807)
 (let x32 : List (Int × Int) := x31 ++ [(x27, x29)];
 (spec_MachineOk x.2.1.2.2.2.1.1 x.2.1.2.2.2.1.2.1 x.2.1.2.2.2.1.2.2.1 x.2.2.1 x.2.1.2.2.2.1.2.2.2.2.1 x.2.1.2.2.2.1.2.2.2.2.2.1 x.2.1.2.2.2.1.2.2.2.2.2.2.1 x.2.1.2.2.2.1.2.2.2.2.2.2.2.1 x32 x.2.2.2.2.1).bind fun r34 =>
 br r34.1.1
 (let x35 : Int := w64 (x.1.2.2.2.2.1 - (1 : Int));
 some (.inl (((), (), (), (), x35, ()), ((r26.2.1.1.1, r26.2.1.1.2.1, r26.2.1.1.2.2.1, ()), (x.2.1.2.1.1, (), (), (), x.2.1.2.1.2.2.2.2.1, x.2.1.2.1.2.2.2.2.2.1, x.2.1.2.1.2.2.2.2.2.2.1, x.2.1.2.1.2.2.2.2.2.2.2.1, (), (), ()), (x.2.1.2.2.1.1, x.2.1.2.2.1.2.1, x.2.1.2.2.1.2.2.1, ()), (x.2.1.2.2.2.1.1, x.2.1.2.2.2.1.2.1, x.2.1.2.2.2.1.2.2.1, (), x.2.1.2.2.2.1.2.2.2.2.1, x.2.1.2.2.2.1.2.2.2.2.2.1, x.2.1.2.2.2.1.2.2.2.2.2.2.1, x.2.1.2.2.2.1.2.2.2.2.2.2.2.1, (), (), ()), ()), (x.2.2.1, x32, x.2.2.2.2.1, ()))))
 (let x36 : Int := w64 (x.1.2.2.2.2.1 - (1 : Int));
 some (.inl (((), (), (), (), x36, ()), ((r26.2.1.1.1, r26.2.1.1.2.1, r26.2.1.1.2.2.1, ()), (x.2.1.2.1.1, (), (), (), x.2.1.2.1.2.2.2.2.1, x.2.1.2.1.2.2.2.2.2.1, x.2.1.2.1.2.2.2.2.2.2.1, x.2.1.2.1.2.2.2.2.2.2.2.1, (), (), ()), (x.2.1.2.2.1.1, x.2.1.2.2.1.2.1, x.2.1.2.2.1.2.2.1, ()), (x.2.1.2.2.2.1.1, x.2.1.2.2.2.1.2.1, x.2.1.2.2.2.1.2.2.1, (), x.2.1.2.2.2.1.2.2.2.2.1, x.2.1.2.2.2.1.2.2.2.2.2.1, x.2.1.2.2.2.1.2.2.2.2.2.2.1, x.2.1.2.2.2.1.2.2.2.2.2.2.2.1, (), (), ()), ()), (x.2.2.1, x.2.2.2.1, x.2.2.2.2.1, ()))))))))))))
 (both (let w40 : Option (((Unit × Unit × Unit × Unit × Int × Unit) × ((List Int × Int × Int × Unit) × (ByteArray × Unit × Unit × Unit × Int × Int × Int × Int × Unit × Unit × Unit) × (ByteArray × List Int × List Int × Unit) × (ByteArray × List Int × List Int × Unit × Int × Int × Int × Int × Unit × Unit × Unit) × Unit) × (List (List (Int × Int)) × List (Int × Int) × List (Int × Int) × Unit)) ⊕ (Unit × Unit × Unit × Unit) × ((List Int × Int × Int × Unit) × (ByteArray × Unit × Unit × Unit × Int × Int × Int × Int × Unit × Unit × Unit) × (ByteArray × List Int × List Int × Unit × Int × Int × Int × Int × Unit × Unit × Unit) × Unit) × (List (List (Int × Int)) × List (Int × Int) × List (Int × Int) × Unit)) := (ck ((([] : List Int).length + x.2.2.2.1.length) * 16 ≤ 140737488355328 ∧ (([] : List Int).length + x.2.2.2.1.length) ≤ 9223372036854775807)
 (let x37 : List (Int × Int) := [] ++ x.2.2.2.1;
 ck ((([] : List Int).length + x.2.2.2.1.length) * 16 ≤ 140737488355328 ∧ (([] : List Int).length + x.2.2.2.1.length) ≤ 9223372036854775807)
 (let x38 : List (Int × Int) := [] ++ x.2.2.2.1;
 ck ((x38.length + [(x27, (0 : Int))].length) * 16 ≤ 140737488355328 ∧ (x38.length + [(x27, (0 : Int))].length) ≤ 9223372036854775807)
 (let x39 : List (Int × Int) := x38 ++ [(x27, (0 : Int))];
 (spec_MachineOk x.2.1.2.2.2.1.1 x.2.1.2.2.2.1.2.1 x.2.1.2.2.2.1.2.2.1 x.2.2.1 x.2.1.2.2.2.1.2.2.2.2.1 x.2.1.2.2.2.1.2.2.2.2.2.1 x.2.1.2.2.2.1.2.2.2.2.2.2.1 x.2.1.2.2.2.1.2.2.2.2.2.2.2.1 x39 x.2.2.2.2.1).bind fun r41 =>
 br r41.1.1
 (let x42 : Int := w64 (x.1.2.2.2.2.1 - (1 : Int));
 some (.inl (((), (), (), (), x42, ()), ((r26.2.1.1.1, r26.2.1.1.2.1, r26.2.1.1.2.2.1, ()), (x.2.1.2.1.1, (), (), (), x.2.1.2.1.2.2.2.2.1, x.2.1.2.1.2.2.2.2.2.1, x.2.1.2.1.2.2.2.2.2.2.1, x.2.1.2.1.2.2.2.2.2.2.2.1, (), (), ()), (x.2.1.2.2.1.1, x.2.1.2.2.1.2.1, x.2.1.2.2.1.2.2.1, ()), (x.2.1.2.2.2.1.1, x.2.1.2.2.2.1.2.1, x.2.1.2.2.2.1.2.2.1, (), x.2.1.2.2.2.1.2.2.2.2.1, x.2.1.2.2.2.1.2.2.2.2.2.1, x.2.1.2.2.2.1.2.2.2.2.2.2.1, x.2.1.2.2.2.1.2.2.2.2.2.2.2.1, (), (), ()), ()), (x.2.2.1, x39, x.2.2.2.2.1, ()))))
 (let x43 : Int := w64 (x.1.2.2.2.2.1 - (1 : Int));
 some (.inl (((), (), (), (), x43, ()), ((r26.2.1.1.1, r26.2.1.1.2.1, r26.2.1.1.2.2.1, ()), (x.2.1.2.1.1, (), (), (), x.2.1.2.1.2.2.2.2.1, x.2.1.2.1.2.2.2.2.2.1, x.2.1.2.1.2.2.2.2.2.2.1, x.2.1.2.1.2.2.2.2.2.2.2.1, (), (), ()), (x.2.1.2.2.1.1, x.2.1.2.2.1.2.1, x.2.1.2.2.1.2.2.1, ()), (x.2.1.2.2.2.1.1, x.2.1.2.2.2.1.2.1, x.2.1.2.2.2.1.2.2.1, (), x.2.1.2.2.2.1.2.2.2.2.1, x.2.1.2.2.2.1.2.2.2.2.2.1, x.2.1.2.2.2.1.2.2.2.2.2.2.1, x.2.1.2.2.2.1.2.2.2.2.2.2.2.1, (), (), ()), ()), (x.2.2.1, x.2.2.2.1, x.2.2.2.2.1, ()))))))));
 both w40 (w40))
 ((ck ((([] : List Int).length + x.2.2.2.1.length) * 16 ≤ 140737488355328 ∧ (([] : List Int).length + x.2.2.2.1.length) ≤ 9223372036854775807)
 (let x37 : List (Int × Int) := [] ++ x.2.2.2.1;
 ck ((([] : List Int).length + x.2.2.2.1.length) * 16 ≤ 140737488355328 ∧ (([] : List Int).length + x.2.2.2.1.length) ≤ 9223372036854775807)
 (let x38 : List (Int × Int) := [] ++ x.2.2.2.1;
 ck ((x38.length + [(x27, (0 : Int))].length) * 16 ≤ 140737488355328 ∧ (x38.length + [(x27, (0 : Int))].length) ≤ 9223372036854775807)
 (let x39 : List (Int × Int) := x38 ++ [(x27, (0 : Int))];
 (spec_MachineOk x.2.1.2.2.2.1.1 x.2.1.2.2.2.1.2.1 x.2.1.2.2.2.1.2.2.1 x.2.2.1 x.2.1.2.2.2.1.2.2.2.2.1 x.2.1.2.2.2.1.2.2.2.2.2.1 x.2.1.2.2.2.1.2.2.2.2.2.2.1 x.2.1.2.2.2.1.2.2.2.2.2.2.2.1 x39 x.2.2.2.2.1).bind fun r41 =>
 br r41.1.1
 (let x42 : Int := w64 (x.1.2.2.2.2.1 - (1 : Int));
 some (.inl (((), (), (), (), x42, ()), ((r26.2.1.1.1, r26.2.1.1.2.1, r26.2.1.1.2.2.1, ()), (x.2.1.2.1.1, (), (), (), x.2.1.2.1.2.2.2.2.1, x.2.1.2.1.2.2.2.2.2.1, x.2.1.2.1.2.2.2.2.2.2.1, x.2.1.2.1.2.2.2.2.2.2.2.1, (), (), ()), (x.2.1.2.2.1.1, x.2.1.2.2.1.2.1, x.2.1.2.2.1.2.2.1, ()), (x.2.1.2.2.2.1.1, x.2.1.2.2.2.1.2.1, x.2.1.2.2.2.1.2.2.1, (), x.2.1.2.2.2.1.2.2.2.2.1, x.2.1.2.2.2.1.2.2.2.2.2.1, x.2.1.2.2.2.1.2.2.2.2.2.2.1, x.2.1.2.2.2.1.2.2.2.2.2.2.2.1, (), (), ()), ()), (x.2.2.1, x39, x.2.2.2.2.1, ()))))
 (let x43 : Int := w64 (x.1.2.2.2.2.1 - (1 : Int));
 some (.inl (((), (), (), (), x43, ()), ((r26.2.1.1.1, r26.2.1.1.2.1, r26.2.1.1.2.2.1, ()), (x.2.1.2.1.1, (), (), (), x.2.1.2.1.2.2.2.2.1, x.2.1.2.1.2.2.2.2.2.1, x.2.1.2.1.2.2.2.2.2.2.1, x.2.1.2.1.2.2.2.2.2.2.2.1, (), (), ()), (x.2.1.2.2.1.1, x.2.1.2.2.1.2.1, x.2.1.2.2.1.2.2.1, ()), (x.2.1.2.2.2.1.1, x.2.1.2.2.2.1.2.1, x.2.1.2.2.2.1.2.2.1, (), x.2.1.2.2.2.1.2.2.2.2.1, x.2.1.2.2.2.1.2.2.2.2.2.1, x.2.1.2.2.2.1.2.2.2.2.2.2.1, x.2.1.2.2.2.1.2.2.2.2.2.2.2.1, (), (), ()), ()), (x.2.2.1, x.2.2.2.1, x.2.2.2.2.1, ())))))))))))
 (some (.inr (((), (), (), ()), ((x.2.1.1.1, x.2.1.1.2.1, x.2.1.1.2.2.1, ()), (x.2.1.2.1.1, (), (), (), x.2.1.2.1.2.2.2.2.1, x.2.1.2.1.2.2.2.2.2.1, x.2.1.2.1.2.2.2.2.2.2.1, x.2.1.2.1.2.2.2.2.2.2.2.1, (), (), ()), (x.2.1.2.2.2.1.1, x.2.1.2.2.2.1.2.1, x.2.1.2.2.2.1.2.2.1, (), x.2.1.2.2.2.1.2.2.2.2.1, x.2.1.2.2.2.1.2.2.2.2.2.1, x.2.1.2.2.2.1.2.2.2.2.2.2.1, x.2.1.2.2.2.1.2.2.2.2.2.2.2.1, (), (), ()), ()), (x.2.2.1, x.2.2.2.1, x.2.2.2.2.1, ()))))
def spec_l5Draw_h2 : Sh := ⟨[(0, .c (.box 0 0)), (2, .c (.box 1 0)), (3, .c (.box 2 0)), (4, .c (.box 3 0)), (7, .c (.int .i64))], [(0, .cells [.rd [] .u8, .int .i64, .int .i64]), (1, .cells [.str, .nil, .nil, .nil, .int .i64, .int .i64, .int .i64, .int .i64, .nil, .nil]), (2, .cells [.str, .rd [] .i64, .rd [] .i64]), (3, .cells [.str, .rd [] .i64, .rd [] .i64, .own 0, .int .i64, .int .i64, .int .i64, .int .i64, .own 1, .own 2])], [(0, .mats), (1, .mat), (2, .mat)]⟩
def spec_l5Draw_r2 : List Sh := [⟨[(0, .c (.box 0 0)), (2, .c (.box 1 0)), (4, .c (.box 2 0))], [(0, .cells [.rd [] .u8, .int .i64, .int .i64]), (1, .cells [.str, .nil, .nil, .nil, .int .i64, .int .i64, .int .i64, .int .i64, .nil, .nil]), (2, .cells [.str, .rd [] .i64, .rd [] .i64, .own 0, .int .i64, .int .i64, .int .i64, .int .i64, .own 1, .own 2])], [(0, .mats), (1, .mat), (2, .mat)]⟩]
noncomputable def spec_l5Draw_L2 : Lp := ⟨2, [(.bx 4 8, 5000000, .mat)], spec_l5Draw_h2, [(.bx 4 8, 5000000, .mat)], [(.exit 2, [])], spec_l5Draw_r2, loopC spec_l5Draw_s2⟩
noncomputable def spec_l5Draw (b0_0 : List Int) (b0_1 : Int) (b0_2 : Int) : Option (((ByteArray × List Int × List Int × Unit × Int × Int × Int × Int × Unit × Unit × Unit) × Unit × Unit) × ((List Int × Int × Int × Unit) × Unit) × (List (List (Int × Int)) × List (Int × Int) × List (Int × Int) × Unit)) :=
 (spec_l2Font (8 : Int) b0_0 b0_1 b0_2).bind fun r1 =>
 both ((spec_l2Stock r1.1.1.1 r1.2.2.1 r1.2.2.2.1 r1.2.1.1.1 r1.2.1.1.2.1 r1.2.1.1.2.2.1).bind fun r2 =>
 (spec_l01Int [(9 : Int), (3 : Int), (20 : Int), (1 : Int), (0 : Int), (60 : Int)] r2.2.1.1.1 r2.2.1.1.2.1 r2.2.1.1.2.2.1).bind fun r3 =>
 (spec_l3Measure r3.2.1.1.1 r3.2.1.1.2.1 r3.2.1.1.2.2.1).bind fun r4 =>
 (spec_l01Once (3 : Int) r4.2.1.1.1 r4.2.1.1.2.1 r4.2.1.1.2.2.1).bind fun r6 =>
 br r6.1.1
 ((spec_l01Below (4 : Int) r6.2.1.1.1 r6.2.1.1.2.1 r6.2.1.1.2.2.1).bind fun r7 =>
 let x8 : Int := w64 ((1 : Int) + r7.1.1);
 (spec_FillMagazine r1.1.1.1 r1.2.2.1 r1.2.2.2.1 x8).bind fun r9 =>
 (spec_l01Below (8 : Int) r7.2.1.1.1 r7.2.1.1.2.1 r7.2.1.1.2.2.1).bind fun r10 =>
 (loopC spec_l5Draw_s0 (((), (), (), (), r10.1.1, ()), ((r10.2.1.1.1, r10.2.1.1.2.1, r10.2.1.1.2.2.1, ()), (ByteArray.empty, (), (), (), (0 : Int), (0 : Int), (0 : Int), (0 : Int), (), (), ()), (r1.1.1.1, r1.2.2.1, r1.2.2.2.1, ()), (r1.1.1.1, r1.2.2.1, r1.2.2.2.1, (), r3.1.1, r4.1.1.1, r4.1.1.2.1, r4.1.1.2.2.1, (), (), ()), ()), (r9.2.2.1, [], ()))).bind fun r22 =>
 (spec_l01Below (9 : Int) r22.2.1.1.1 r22.2.1.1.2.1 r22.2.1.1.2.2.1).bind fun r23 =>
 (loopC spec_l5Draw_s2 (((), (), (), (), r23.1.1, ()), ((r23.2.1.1.1, r23.2.1.1.2.1, r23.2.1.1.2.2.1, ()), (r22.2.1.2.1.1, (), (), (), r22.2.1.2.1.2.2.2.2.1, r22.2.1.2.1.2.2.2.2.2.1, r22.2.1.2.1.2.2.2.2.2.2.1, r22.2.1.2.1.2.2.2.2.2.2.2.1, (), (), ()), (r22.2.1.2.2.1.1, r22.2.1.2.2.1.2.1, r22.2.1.2.2.1.2.2.1, ()), (r22.2.1.2.2.2.1.1, r22.2.1.2.2.2.1.2.1, r22.2.1.2.2.2.1.2.2.1, (), r22.2.1.2.2.2.1.2.2.2.2.1, r22.2.1.2.2.2.1.2.2.2.2.2.1, r22.2.1.2.2.2.1.2.2.2.2.2.2.1, r22.2.1.2.2.2.1.2.2.2.2.2.2.2.1, (), (), ()), ()), (r22.2.2.1, [], r22.2.2.2.1, ()))).bind fun r44 =>
 some (((r44.2.1.2.2.1.1, r44.2.1.2.2.1.2.1, r44.2.1.2.2.1.2.2.1, (), r44.2.1.2.2.1.2.2.2.2.1, r44.2.1.2.2.1.2.2.2.2.2.1, r44.2.1.2.2.1.2.2.2.2.2.2.1, r44.2.1.2.2.1.2.2.2.2.2.2.2.1, (), (), ()), (), ()), ((r44.2.1.1.1, r44.2.1.1.2.1, r44.2.1.1.2.2.1, ()), ()), (r44.2.2.1, r44.2.2.2.1, r44.2.2.2.2.1, ())))
 ((spec_l01Below (8 : Int) r6.2.1.1.1 r6.2.1.1.2.1 r6.2.1.1.2.2.1).bind fun r45 =>
 (loopC spec_l5Draw_s0 (((), (), (), (), r45.1.1, ()), ((r45.2.1.1.1, r45.2.1.1.2.1, r45.2.1.1.2.2.1, ()), (ByteArray.empty, (), (), (), (0 : Int), (0 : Int), (0 : Int), (0 : Int), (), (), ()), (r1.1.1.1, r1.2.2.1, r1.2.2.2.1, ()), (r1.1.1.1, r1.2.2.1, r1.2.2.2.1, (), r3.1.1, r4.1.1.1, r4.1.1.2.1, r4.1.1.2.2.1, (), (), ()), ()), (r2.2.2.1, [], ()))).bind fun r46 =>
 (spec_l01Below (9 : Int) r46.2.1.1.1 r46.2.1.1.2.1 r46.2.1.1.2.2.1).bind fun r47 =>
 (loopC spec_l5Draw_s2 (((), (), (), (), r47.1.1, ()), ((r47.2.1.1.1, r47.2.1.1.2.1, r47.2.1.1.2.2.1, ()), (r46.2.1.2.1.1, (), (), (), r46.2.1.2.1.2.2.2.2.1, r46.2.1.2.1.2.2.2.2.2.1, r46.2.1.2.1.2.2.2.2.2.2.1, r46.2.1.2.1.2.2.2.2.2.2.2.1, (), (), ()), (r46.2.1.2.2.1.1, r46.2.1.2.2.1.2.1, r46.2.1.2.2.1.2.2.1, ()), (r46.2.1.2.2.2.1.1, r46.2.1.2.2.2.1.2.1, r46.2.1.2.2.2.1.2.2.1, (), r46.2.1.2.2.2.1.2.2.2.2.1, r46.2.1.2.2.2.1.2.2.2.2.2.1, r46.2.1.2.2.2.1.2.2.2.2.2.2.1, r46.2.1.2.2.2.1.2.2.2.2.2.2.2.1, (), (), ()), ()), (r46.2.2.1, [], r46.2.2.2.1, ()))).bind fun r48 =>
 some (((r48.2.1.2.2.1.1, r48.2.1.2.2.1.2.1, r48.2.1.2.2.1.2.2.1, (), r48.2.1.2.2.1.2.2.2.2.1, r48.2.1.2.2.1.2.2.2.2.2.1, r48.2.1.2.2.1.2.2.2.2.2.2.1, r48.2.1.2.2.1.2.2.2.2.2.2.2.1, (), (), ()), (), ()), ((r48.2.1.1.1, r48.2.1.1.2.1, r48.2.1.1.2.2.1, ()), ()), (r48.2.2.1, r48.2.2.2.1, r48.2.2.2.2.1, ()))))
 (both ((spec_l2Stock r1.1.1.1 r1.2.2.1 r1.2.2.2.1 r1.2.1.1.1 r1.2.1.1.2.1 r1.2.1.1.2.2.1).bind fun r2 =>
 (spec_l01Int [(9 : Int), (3 : Int), (20 : Int), (1 : Int), (0 : Int), (60 : Int)] r2.2.1.1.1 r2.2.1.1.2.1 r2.2.1.1.2.2.1).bind fun r3 =>
 (spec_l3Measure r3.2.1.1.1 r3.2.1.1.2.1 r3.2.1.1.2.2.1).bind fun r4 =>
 (spec_l01Once (3 : Int) r4.2.1.1.1 r4.2.1.1.2.1 r4.2.1.1.2.2.1).bind fun r6 =>
 br r6.1.1
 ((spec_l01Below (4 : Int) r6.2.1.1.1 r6.2.1.1.2.1 r6.2.1.1.2.2.1).bind fun r7 =>
 let x8 : Int := w64 ((1 : Int) + r7.1.1);
 (spec_FillMagazine r1.1.1.1 r1.2.2.1 r1.2.2.2.1 x8).bind fun r9 =>
 (spec_l01Below (8 : Int) r7.2.1.1.1 r7.2.1.1.2.1 r7.2.1.1.2.2.1).bind fun r10 =>
 (loopC spec_l5Draw_s0 (((), (), (), (), r10.1.1, ()), ((r10.2.1.1.1, r10.2.1.1.2.1, r10.2.1.1.2.2.1, ()), (ByteArray.empty, (), (), (), (0 : Int), (0 : Int), (0 : Int), (0 : Int), (), (), ()), (r1.1.1.1, r1.2.2.1, r1.2.2.2.1, ()), (r1.1.1.1, r1.2.2.1, r1.2.2.2.1, (), r3.1.1, r4.1.1.1, r4.1.1.2.1, r4.1.1.2.2.1, (), (), ()), ()), (r9.2.2.1, [], ()))).bind fun r22 =>
 (spec_l01Below (9 : Int) r22.2.1.1.1 r22.2.1.1.2.1 r22.2.1.1.2.2.1).bind fun r23 =>
 (loopC spec_l5Draw_s2 (((), (), (), (), r23.1.1, ()), ((r23.2.1.1.1, r23.2.1.1.2.1, r23.2.1.1.2.2.1, ()), (r22.2.1.2.1.1, (), (), (), r22.2.1.2.1.2.2.2.2.1, r22.2.1.2.1.2.2.2.2.2.1, r22.2.1.2.1.2.2.2.2.2.2.1, r22.2.1.2.1.2.2.2.2.2.2.2.1, (), (), ()), (r22.2.1.2.2.1.1, r22.2.1.2.2.1.2.1, r22.2.1.2.2.1.2.2.1, ()), (r22.2.1.2.2.2.1.1, r22.2.1.2.2.2.1.2.1, r22.2.1.2.2.2.1.2.2.1, (), r22.2.1.2.2.2.1.2.2.2.2.1, r22.2.1.2.2.2.1.2.2.2.2.2.1, r22.2.1.2.2.2.1.2.2.2.2.2.2.1, r22.2.1.2.2.2.1.2.2.2.2.2.2.2.1, (), (), ()), ()), (r22.2.2.1, [], r22.2.2.2.1, ()))).bind fun r44 =>
 some (((r44.2.1.2.2.1.1, r44.2.1.2.2.1.2.1, r44.2.1.2.2.1.2.2.1, (), r44.2.1.2.2.1.2.2.2.2.1, r44.2.1.2.2.1.2.2.2.2.2.1, r44.2.1.2.2.1.2.2.2.2.2.2.1, r44.2.1.2.2.1.2.2.2.2.2.2.2.1, (), (), ()), (), ()), ((r44.2.1.1.1, r44.2.1.1.2.1, r44.2.1.1.2.2.1, ()), ()), (r44.2.2.1, r44.2.2.2.1, r44.2.2.2.2.1, ())))
 ((spec_l01Below (8 : Int) r6.2.1.1.1 r6.2.1.1.2.1 r6.2.1.1.2.2.1).bind fun r45 =>
 (loopC spec_l5Draw_s0 (((), (), (), (), r45.1.1, ()), ((r45.2.1.1.1, r45.2.1.1.2.1, r45.2.1.1.2.2.1, ()), (ByteArray.empty, (), (), (), (0 : Int), (0 : Int), (0 : Int), (0 : Int), (), (), ()), (r1.1.1.1, r1.2.2.1, r1.2.2.2.1, ()), (r1.1.1.1, r1.2.2.1, r1.2.2.2.1, (), r3.1.1, r4.1.1.1, r4.1.1.2.1, r4.1.1.2.2.1, (), (), ()), ()), (r2.2.2.1, [], ()))).bind fun r46 =>
 (spec_l01Below (9 : Int) r46.2.1.1.1 r46.2.1.1.2.1 r46.2.1.1.2.2.1).bind fun r47 =>
 (loopC spec_l5Draw_s2 (((), (), (), (), r47.1.1, ()), ((r47.2.1.1.1, r47.2.1.1.2.1, r47.2.1.1.2.2.1, ()), (r46.2.1.2.1.1, (), (), (), r46.2.1.2.1.2.2.2.2.1, r46.2.1.2.1.2.2.2.2.2.1, r46.2.1.2.1.2.2.2.2.2.2.1, r46.2.1.2.1.2.2.2.2.2.2.2.1, (), (), ()), (r46.2.1.2.2.1.1, r46.2.1.2.2.1.2.1, r46.2.1.2.2.1.2.2.1, ()), (r46.2.1.2.2.2.1.1, r46.2.1.2.2.2.1.2.1, r46.2.1.2.2.2.1.2.2.1, (), r46.2.1.2.2.2.1.2.2.2.2.1, r46.2.1.2.2.2.1.2.2.2.2.2.1, r46.2.1.2.2.2.1.2.2.2.2.2.2.1, r46.2.1.2.2.2.1.2.2.2.2.2.2.2.1, (), (), ()), ()), (r46.2.2.1, [], r46.2.2.2.1, ()))).bind fun r48 =>
 some (((r48.2.1.2.2.1.1, r48.2.1.2.2.1.2.1, r48.2.1.2.2.1.2.2.1, (), r48.2.1.2.2.1.2.2.2.2.1, r48.2.1.2.2.1.2.2.2.2.2.1, r48.2.1.2.2.1.2.2.2.2.2.2.1, r48.2.1.2.2.1.2.2.2.2.2.2.2.1, (), (), ()), (), ()), ((r48.2.1.1.1, r48.2.1.1.2.1, r48.2.1.1.2.2.1, ()), ()), (r48.2.2.1, r48.2.2.2.1, r48.2.2.2.2.1, ()))))
 ((let w5 : Option (((ByteArray × List Int × List Int × Unit × Int × Int × Int × Int × Unit × Unit × Unit) × Unit × Unit) × ((List Int × Int × Int × Unit) × Unit) × (List (List (Int × Int)) × List (Int × Int) × List (Int × Int) × Unit)) := ((spec_l2Stock r1.1.1.1 r1.2.2.1 r1.2.2.2.1 r1.2.1.1.1 r1.2.1.1.2.1 r1.2.1.1.2.2.1).bind fun r2 =>
 (spec_l01Int [(9 : Int), (3 : Int), (20 : Int), (1 : Int), (0 : Int), (60 : Int)] r2.2.1.1.1 r2.2.1.1.2.1 r2.2.1.1.2.2.1).bind fun r3 =>
 (spec_l3Measure r3.2.1.1.1 r3.2.1.1.2.1 r3.2.1.1.2.2.1).bind fun r4 =>
 (spec_l01Once (3 : Int) r4.2.1.1.1 r4.2.1.1.2.1 r4.2.1.1.2.2.1).bind fun r6 =>
 br r6.1.1
 ((spec_l01Below (4 : Int) r6.2.1.1.1 r6.2.1.1.2.1 r6.2.1.1.2.2.1).bind fun r7 =>
 let x8 : Int := w64 ((1 : Int) + r7.1.1);
 (spec_FillMagazine r1.1.1.1 r1.2.2.1 r1.2.2.2.1 x8).bind fun r9 =>
 (spec_l01Below (8 : Int) r7.2.1.1.1 r7.2.1.1.2.1 r7.2.1.1.2.2.1).bind fun r10 =>
 (loopC spec_l5Draw_s0 (((), (), (), (), r10.1.1, ()), ((r10.2.1.1.1, r10.2.1.1.2.1, r10.2.1.1.2.2.1, ()), (ByteArray.empty, (), (), (), (0 : Int), (0 : Int), (0 : Int), (0 : Int), (), (), ()), (r1.1.1.1, r1.2.2.1, r1.2.2.2.1, ()), (r1.1.1.1, r1.2.2.1, r1.2.2.2.1, (), r3.1.1, r4.1.1.1, r4.1.1.2.1, r4.1.1.2.2.1, (), (), ()), ()), (r9.2.2.1, [], ()))).bind fun r22 =>
 (spec_l01Below (9 : Int) r22.2.1.1.1 r22.2.1.1.2.1 r22.2.1.1.2.2.1).bind fun r23 =>
 (loopC spec_l5Draw_s2 (((), (), (), (), r23.1.1, ()), ((r23.2.1.1.1, r23.2.1.1.2.1, r23.2.1.1.2.2.1, ()), (r22.2.1.2.1.1, (), (), (), r22.2.1.2.1.2.2.2.2.1, r22.2.1.2.1.2.2.2.2.2.1, r22.2.1.2.1.2.2.2.2.2.2.1, r22.2.1.2.1.2.2.2.2.2.2.2.1, (), (), ()), (r22.2.1.2.2.1.1, r22.2.1.2.2.1.2.1, r22.2.1.2.2.1.2.2.1, ()), (r22.2.1.2.2.2.1.1, r22.2.1.2.2.2.1.2.1, r22.2.1.2.2.2.1.2.2.1, (), r22.2.1.2.2.2.1.2.2.2.2.1, r22.2.1.2.2.2.1.2.2.2.2.2.1, r22.2.1.2.2.2.1.2.2.2.2.2.2.1, r22.2.1.2.2.2.1.2.2.2.2.2.2.2.1, (), (), ()), ()), (r22.2.2.1, [], r22.2.2.2.1, ()))).bind fun r44 =>
 some (((r44.2.1.2.2.1.1, r44.2.1.2.2.1.2.1, r44.2.1.2.2.1.2.2.1, (), r44.2.1.2.2.1.2.2.2.2.1, r44.2.1.2.2.1.2.2.2.2.2.1, r44.2.1.2.2.1.2.2.2.2.2.2.1, r44.2.1.2.2.1.2.2.2.2.2.2.2.1, (), (), ()), (), ()), ((r44.2.1.1.1, r44.2.1.1.2.1, r44.2.1.1.2.2.1, ()), ()), (r44.2.2.1, r44.2.2.2.1, r44.2.2.2.2.1, ())))
 ((spec_l01Below (8 : Int) r6.2.1.1.1 r6.2.1.1.2.1 r6.2.1.1.2.2.1).bind fun r45 =>
 (loopC spec_l5Draw_s0 (((), (), (), (), r45.1.1, ()), ((r45.2.1.1.1, r45.2.1.1.2.1, r45.2.1.1.2.2.1, ()), (ByteArray.empty, (), (), (), (0 : Int), (0 : Int), (0 : Int), (0 : Int), (), (), ()), (r1.1.1.1, r1.2.2.1, r1.2.2.2.1, ()), (r1.1.1.1, r1.2.2.1, r1.2.2.2.1, (), r3.1.1, r4.1.1.1, r4.1.1.2.1, r4.1.1.2.2.1, (), (), ()), ()), (r2.2.2.1, [], ()))).bind fun r46 =>
 (spec_l01Below (9 : Int) r46.2.1.1.1 r46.2.1.1.2.1 r46.2.1.1.2.2.1).bind fun r47 =>
 (loopC spec_l5Draw_s2 (((), (), (), (), r47.1.1, ()), ((r47.2.1.1.1, r47.2.1.1.2.1, r47.2.1.1.2.2.1, ()), (r46.2.1.2.1.1, (), (), (), r46.2.1.2.1.2.2.2.2.1, r46.2.1.2.1.2.2.2.2.2.1, r46.2.1.2.1.2.2.2.2.2.2.1, r46.2.1.2.1.2.2.2.2.2.2.2.1, (), (), ()), (r46.2.1.2.2.1.1, r46.2.1.2.2.1.2.1, r46.2.1.2.2.1.2.2.1, ()), (r46.2.1.2.2.2.1.1, r46.2.1.2.2.2.1.2.1, r46.2.1.2.2.2.1.2.2.1, (), r46.2.1.2.2.2.1.2.2.2.2.1, r46.2.1.2.2.2.1.2.2.2.2.2.1, r46.2.1.2.2.2.1.2.2.2.2.2.2.1, r46.2.1.2.2.2.1.2.2.2.2.2.2.2.1, (), (), ()), ()), (r46.2.2.1, [], r46.2.2.2.1, ()))).bind fun r48 =>
 some (((r48.2.1.2.2.1.1, r48.2.1.2.2.1.2.1, r48.2.1.2.2.1.2.2.1, (), r48.2.1.2.2.1.2.2.2.2.1, r48.2.1.2.2.1.2.2.2.2.2.1, r48.2.1.2.2.1.2.2.2.2.2.2.1, r48.2.1.2.2.1.2.2.2.2.2.2.2.1, (), (), ()), (), ()), ((r48.2.1.1.1, r48.2.1.1.2.1, r48.2.1.1.2.2.1, ()), ()), (r48.2.2.1, r48.2.2.2.1, r48.2.2.2.2.1, ()))));
 both w5 (w5))))
noncomputable def spec_l5Draw_C : Ctr := ⟨93, spec_l5Draw_arg, spec_l5Draw_res, fun x => spec_l5Draw x.2.1.1.1 x.2.1.1.2.1 x.2.1.1.2.2.1, none⟩
def spec_l5Draw_H : Hint := ⟨[], [], [], fun _ => []⟩
noncomputable def spec_l5Draw_T : List Ctr := [spec_l2Font_C, spec_l2Stock_C, spec_l01Int_C, spec_l3Measure_C, spec_l01Once_C, spec_l01Below_C, spec_FillMagazine_C, spec_MachineOk_C]
noncomputable def spec_l5Draw_Ls : List Lp := [spec_l5Draw_L0, spec_l5Draw_L2]
theorem spec_l5Draw_l0 : ∀ x, spec_l5Draw_s0 x = stepW E0 spec_l5Draw_T spec_l5Draw_Ls spec_l5Draw_H (loopAt (bodyOf Try.f93) 0) 0 spec_l5Draw_h0 [(.bx 4 9, 5000000, .mat)] [(.exit 0, [])] spec_l5Draw_r0 x := fun x => by kernel_rfl
theorem spec_l5Draw_l2 : ∀ x, spec_l5Draw_s2 x = stepW E0 spec_l5Draw_T spec_l5Draw_Ls spec_l5Draw_H (loopAt (bodyOf Try.f93) 1) 2 spec_l5Draw_h2 [(.bx 4 8, 5000000, .mat)] [(.exit 2, [])] spec_l5Draw_r2 x := fun x => by kernel_rfl
theorem spec_l5Draw_e : ∀ x, spec_l5Draw_C.F x = runBodyW E0 spec_l5Draw_T spec_l5Draw_Ls spec_l5Draw_H 93 Try.f93.results.toList (bodyOf Try.f93) [] (spec_l5Draw_arg.mk' x) spec_l5Draw_res := fun x => by kernel_rfl
theorem spec_l5Draw_ok : spec_l5Draw_C.Ok E0 := fn_ok (T := spec_l5Draw_T) (h := spec_l5Draw_H) (Ls := spec_l5Draw_Ls) E0_mixed (T_cons spec_l2Font_ok (T_cons spec_l2Stock_ok (T_cons spec_l01Int_ok (T_cons spec_l3Measure_ok (T_cons spec_l01Once_ok (T_cons spec_l01Below_ok (T_cons spec_FillMagazine_ok (T_cons spec_MachineOk_ok T_nil)))))))) Try.func93 (bodyOf_some (by kernel_rfl)) (by kernel_rfl) (loops_of (ks := [0, 2]) (by kernel_rfl) ⟨(loop_one (h := spec_l5Draw_H) (own := [(.bx 4 9, 5000000, .mat)]) (head := spec_l5Draw_h0) (back := [(.bx 4 9, 5000000, .mat)]) (exs := [(.exit 0, [])]) (res := spec_l5Draw_r0) (step := spec_l5Draw_s0) (by kernel_rfl) spec_l5Draw_l0), (loop_one (h := spec_l5Draw_H) (own := [(.bx 4 8, 5000000, .mat)]) (head := spec_l5Draw_h2) (back := [(.bx 4 8, 5000000, .mat)]) (exs := [(.exit 2, [])]) (res := spec_l5Draw_r2) (step := spec_l5Draw_s2) (by kernel_rfl) spec_l5Draw_l2), trivial⟩) spec_l5Draw_e
def spec_l5Any_arg : Sh := ⟨[(0, .c (.box 0 0))], [(0, .cells [.rd [] .u8, .int .i64, .int .i64])], []⟩
def spec_l5Any_res : List Sh := [⟨[(0, .agg [.str, .rd [] .i64, .rd [] .i64, .own 0, .int .i64, .int .i64, .int .i64, .int .i64, .own 1, .own 2]), (1, .c (.box 0 0))], [(0, .cells [.rd [] .u8, .int .i64, .int .i64])], [(0, .mats), (1, .mat), (2, .mat)]⟩]
noncomputable def spec_l5Any_s1 (x : (Unit × Unit × Unit × Int × Unit) × ((List Int × Int × Int × Unit) × (ByteArray × Unit × Unit × Unit × Int × Int × Int × Int × Unit × Unit × Unit) × (ByteArray × List Int × List Int × Unit × Int × Int × Int × Int × Unit × Unit × Unit) × Unit) × (List (List (Int × Int)) × List (Int × Int) × List (Int × Int) × Unit)) : Option (((Unit × Unit × Unit × Int × Unit) × ((List Int × Int × Int × Unit) × (ByteArray × Unit × Unit × Unit × Int × Int × Int × Int × Unit × Unit × Unit) × (ByteArray × List Int × List Int × Unit × Int × Int × Int × Int × Unit × Unit × Unit) × Unit) × (List (List (Int × Int)) × List (Int × Int) × List (Int × Int) × Unit)) ⊕ ((Unit × Unit × Unit × Unit) × ((List Int × Int × Int × Unit) × (ByteArray × Unit × Unit × Unit × Int × Int × Int × Int × Unit × Unit × Unit) × (ByteArray × List Int × List Int × Unit × Int × Int × Int × Int × Unit × Unit × Unit) × Unit) × (List (List (Int × Int)) × List (Int × Int) × List (Int × Int) × Unit))) :=
 let x14 : Bool := decide ((x.2.2.2.2.1.length : Int) < x.1.2.2.2.1);
 br x14
 (ck (0 < x.2.1.2.2.1.2.2.1.length)
 (let x15 : Int := x.2.1.2.2.1.2.2.1.getD 0 0;
 ck ((x.2.2.2.2.1.length + [((0 : Int), x15)].length) * 16 ≤ 140737488355328 ∧ (x.2.2.2.2.1.length + [((0 : Int), x15)].length) ≤ 9223372036854775807)
 (let x16 : List (Int × Int) := x.2.2.2.2.1 ++ [((0 : Int), x15)];
 some (.inl (((), (), (), x.1.2.2.2.1, ()), ((x.2.1.1.1, x.2.1.1.2.1, x.2.1.1.2.2.1, ()), (x.2.1.2.1.1, (), (), (), x.2.1.2.1.2.2.2.2.1, x.2.1.2.1.2.2.2.2.2.1, x.2.1.2.1.2.2.2.2.2.2.1, x.2.1.2.1.2.2.2.2.2.2.2.1, (), (), ()), (x.2.1.2.2.1.1, x.2.1.2.2.1.2.1, x.2.1.2.2.1.2.2.1, (), x.2.1.2.2.1.2.2.2.2.1, x.2.1.2.2.1.2.2.2.2.2.1, x.2.1.2.2.1.2.2.2.2.2.2.1, x.2.1.2.2.1.2.2.2.2.2.2.2.1, (), (), ()), ()), (x.2.2.1, x.2.2.2.1, x16, ()))))))
 (some (.inr (((), (), (), ()), ((x.2.1.1.1, x.2.1.1.2.1, x.2.1.1.2.2.1, ()), (x.2.1.2.1.1, (), (), (), x.2.1.2.1.2.2.2.2.1, x.2.1.2.1.2.2.2.2.2.1, x.2.1.2.1.2.2.2.2.2.2.1, x.2.1.2.1.2.2.2.2.2.2.2.1, (), (), ()), (x.2.1.2.2.1.1, x.2.1.2.2.1.2.1, x.2.1.2.2.1.2.2.1, (), x.2.1.2.2.1.2.2.2.2.1, x.2.1.2.2.1.2.2.2.2.2.1, x.2.1.2.2.1.2.2.2.2.2.2.1, x.2.1.2.2.1.2.2.2.2.2.2.2.1, (), (), ()), ()), (x.2.2.1, x.2.2.2.1, x.2.2.2.2.1, ()))))
def spec_l5Any_h1 : Sh := ⟨[(0, .c (.box 0 0)), (2, .c (.box 1 0)), (3, .c (.box 2 0)), (4, .c (.int .i64))], [(0, .cells [.rd [] .u8, .int .i64, .int .i64]), (1, .cells [.str, .nil, .nil, .nil, .int .i64, .int .i64, .int .i64, .int .i64, .nil, .nil]), (2, .cells [.str, .rd [] .i64, .rd [] .i64, .own 0, .int .i64, .int .i64, .int .i64, .int .i64, .own 1, .own 2])], [(0, .mats), (1, .mat), (2, .mat)]⟩
def spec_l5Any_r1 : List Sh := [⟨[(0, .c (.box 0 0)), (2, .c (.box 1 0)), (3, .c (.box 2 0))], [(0, .cells [.rd [] .u8, .int .i64, .int .i64]), (1, .cells [.str, .nil, .nil, .nil, .int .i64, .int .i64, .int .i64, .int .i64, .nil, .nil]), (2, .cells [.str, .rd [] .i64, .rd [] .i64, .own 0, .int .i64, .int .i64, .int .i64, .int .i64, .own 1, .own 2])], [(0, .mats), (1, .mat), (2, .mat)]⟩]
noncomputable def spec_l5Any_L1 : Lp := ⟨1, [], spec_l5Any_h1, [], [(.exit 1, [])], spec_l5Any_r1, loopC spec_l5Any_s1⟩
noncomputable def spec_l5Any (b0_0 : List Int) (b0_1 : Int) (b0_2 : Int) : Option (((ByteArray × List Int × List Int × Unit × Int × Int × Int × Int × Unit × Unit × Unit) × Unit × Unit) × ((List Int × Int × Int × Unit) × Unit) × (List (List (Int × Int)) × List (Int × Int) × List (Int × Int) × Unit)) :=
 (spec_l5Draw b0_0 b0_1 b0_2).bind fun r1 =>
 (spec_l01Below (24 : Int) r1.2.1.1.1 r1.2.1.1.2.1 r1.2.1.1.2.2.1).bind fun r2 =>
 let x3 : Bool := r2.1.1 == (0 : Int);
 br x3
 ((spec_l01Int [(-1 : Int), (61 : Int), (60 : Int)] r2.2.1.1.1 r2.2.1.1.2.1 r2.2.1.1.2.2.1).bind fun r4 =>
 some (((r1.1.1.1, r1.1.1.2.1, r1.1.1.2.2.1, (), r4.1.1, r1.1.1.2.2.2.2.2.1, r1.1.1.2.2.2.2.2.2.1, r1.1.1.2.2.2.2.2.2.2.1, (), (), ()), (), ()), ((r4.2.1.1.1, r4.2.1.1.2.1, r4.2.1.1.2.2.1, ()), ()), (r1.2.2.1, r1.2.2.2.1, r1.2.2.2.2.1, ())))
 (let x5 : Bool := r2.1.1 == (1 : Int);
 br x5
 ((spec_l01Int [(-2 : Int), (-1 : Int), (40 : Int)] r2.2.1.1.1 r2.2.1.1.2.1 r2.2.1.1.2.2.1).bind fun r6 =>
 (spec_l01Below (2 : Int) r6.2.1.1.1 r6.2.1.1.2.1 r6.2.1.1.2.2.1).bind fun r7 =>
 ck ((r1.2.2.2.1.length + [(r6.1.1, r7.1.1)].length) * 16 ≤ 140737488355328 ∧ (r1.2.2.2.1.length + [(r6.1.1, r7.1.1)].length) ≤ 9223372036854775807)
 (let x8 : List (Int × Int) := r1.2.2.2.1 ++ [(r6.1.1, r7.1.1)];
 some (((r1.1.1.1, r1.1.1.2.1, r1.1.1.2.2.1, (), r1.1.1.2.2.2.2.1, r1.1.1.2.2.2.2.2.1, r1.1.1.2.2.2.2.2.2.1, r1.1.1.2.2.2.2.2.2.2.1, (), (), ()), (), ()), ((r7.2.1.1.1, r7.2.1.1.2.1, r7.2.1.1.2.2.1, ()), ()), (r1.2.2.1, x8, r1.2.2.2.2.1, ()))))
 (let x9 : Bool := r2.1.1 == (2 : Int);
 br x9
 ((spec_l01Int [(0 : Int), (1 : Int), (5 : Int), (2001 : Int)] r2.2.1.1.1 r2.2.1.1.2.1 r2.2.1.1.2.2.1).bind fun r10 =>
 some (((r1.1.1.1, r1.1.1.2.1, r1.1.1.2.2.1, (), r1.1.1.2.2.2.2.1, r10.1.1, r1.1.1.2.2.2.2.2.2.1, r1.1.1.2.2.2.2.2.2.2.1, (), (), ()), (), ()), ((r10.2.1.1.1, r10.2.1.1.2.1, r10.2.1.1.2.2.1, ()), ()), (r1.2.2.1, r1.2.2.2.1, r1.2.2.2.2.1, ())))
 (let x11 : Bool := r2.1.1 == (3 : Int);
 br x11
 ((spec_l01Below (3 : Int) r2.2.1.1.1 r2.2.1.1.2.1 r2.2.1.1.2.2.1).bind fun r12 =>
 let x13 : Int := w64 ((239 : Int) + r12.1.1);
 (loopC spec_l5Any_s1 (((), (), (), x13, ()), ((r12.2.1.1.1, r12.2.1.1.2.1, r12.2.1.1.2.2.1, ()), (ByteArray.empty, (), (), (), (0 : Int), (0 : Int), (0 : Int), (0 : Int), (), (), ()), (r1.1.1.1, r1.1.1.2.1, r1.1.1.2.2.1, (), r1.1.1.2.2.2.2.1, r1.1.1.2.2.2.2.2.1, r1.1.1.2.2.2.2.2.2.1, r1.1.1.2.2.2.2.2.2.2.1, (), (), ()), ()), (r1.2.2.1, r1.2.2.2.1, r1.2.2.2.2.1, ()))).bind fun r17 =>
 some (((r17.2.1.2.2.1.1, r17.2.1.2.2.1.2.1, r17.2.1.2.2.1.2.2.1, (), r17.2.1.2.2.1.2.2.2.2.1, r17.2.1.2.2.1.2.2.2.2.2.1, r17.2.1.2.2.1.2.2.2.2.2.2.1, r17.2.1.2.2.1.2.2.2.2.2.2.2.1, (), (), ()), (), ()), ((r17.2.1.1.1, r17.2.1.1.2.1, r17.2.1.1.2.2.1, ()), ()), (r17.2.2.1, r17.2.2.2.1, r17.2.2.2.2.1, ())))
 (let x18 : Bool := r2.1.1 == (4 : Int);
 br x18
 (ck (1 ≤ r1.2.2.1.length ∧ r1.2.2.1.length ≤ r1.2.2.1.length)
 (let x19 : List (List (Int × Int)) := cut r1.2.2.1 1 r1.2.2.1.length;
 some (((r1.1.1.1, r1.1.1.2.1, r1.1.1.2.2.1, (), r1.1.1.2.2.2.2.1, r1.1.1.2.2.2.2.2.1, r1.1.1.2.2.2.2.2.2.1, r1.1.1.2.2.2.2.2.2.2.1, (), (), ()), (), ()), ((r2.2.1.1.1, r2.2.1.1.2.1, r2.2.1.1.2.2.1, ()), ()), (x19, r1.2.2.2.1, r1.2.2.2.2.1, ()))))
 (some (((r1.1.1.1, r1.1.1.2.1, r1.1.1.2.2.1, (), r1.1.1.2.2.2.2.1, r1.1.1.2.2.2.2.2.1, r1.1.1.2.2.2.2.2.2.1, r1.1.1.2.2.2.2.2.2.2.1, (), (), ()), (), ()), ((r2.2.1.1.1, r2.2.1.1.2.1, r2.2.1.1.2.2.1, ()), ()), (r1.2.2.1, r1.2.2.2.1, r1.2.2.2.2.1, ())))))))
noncomputable def spec_l5Any_C : Ctr := ⟨58, spec_l5Any_arg, spec_l5Any_res, fun x => spec_l5Any x.2.1.1.1 x.2.1.1.2.1 x.2.1.1.2.2.1, none⟩
def spec_l5Any_H : Hint := ⟨[60], [], [], fun _ => []⟩
noncomputable def spec_l5Any_T : List Ctr := [spec_l5Draw_C, spec_l01Below_C, spec_l01Int_C]
noncomputable def spec_l5Any_Ls : List Lp := [spec_l5Any_L1]
theorem spec_l5Any_l1 : ∀ x, spec_l5Any_s1 x = stepW E0 spec_l5Any_T spec_l5Any_Ls spec_l5Any_H (loopAt (bodyOf Try.f58) 0) 1 spec_l5Any_h1 [] [(.exit 1, [])] spec_l5Any_r1 x := fun x => by kernel_rfl
theorem spec_l5Any_e : ∀ x, spec_l5Any_C.F x = runBodyW E0 spec_l5Any_T spec_l5Any_Ls spec_l5Any_H 58 Try.f58.results.toList (bodyOf Try.f58) [] (spec_l5Any_arg.mk' x) spec_l5Any_res := fun x => by kernel_rfl
theorem spec_l5Any_ok : spec_l5Any_C.Ok E0 := fn_ok (T := spec_l5Any_T) (h := spec_l5Any_H) (Ls := spec_l5Any_Ls) E0_mixed (T_cons spec_l5Draw_ok (T_cons spec_l01Below_ok (T_cons spec_l01Int_ok T_nil))) Try.func58 (bodyOf_some (by kernel_rfl)) (by kernel_rfl) (loops_of (ks := [1]) (by kernel_rfl) ⟨(loop_one (h := spec_l5Any_H) (own := []) (head := spec_l5Any_h1) (back := []) (exs := [(.exit 1, [])]) (res := spec_l5Any_r1) (step := spec_l5Any_s1) (by kernel_rfl) spec_l5Any_l1), trivial⟩) spec_l5Any_e
def spec_l01Pick_arg : Sh := ⟨[(0, .c (.box 0 0)), (1, .c (.rd [] .str))], [(0, .cells [.rd [] .u8, .int .i64, .int .i64])], []⟩
def spec_l01Pick_res : List Sh := [⟨[(0, .c (.str)), (1, .c (.box 0 0))], [(0, .cells [.rd [] .u8, .int .i64, .int .i64])], []⟩]
noncomputable def spec_l01Pick (a1 : List ByteArray) (b0_0 : List Int) (b0_1 : Int) (b0_2 : Int) : Option ((ByteArray × Unit × Unit) × ((List Int × Int × Int × Unit) × Unit) × Unit) :=
 (spec_l01Below (a1.length : Int) b0_0 b0_1 b0_2).bind fun r1 =>
 ck (0 ≤ r1.1.1)
 (ck (r1.1.1.toNat < a1.length)
 (let x2 : ByteArray := a1.getD r1.1.1.toNat ByteArray.empty;
 some ((x2, (), ()), ((r1.2.1.1.1, r1.2.1.1.2.1, r1.2.1.1.2.2.1, ()), ()), ())))
noncomputable def spec_l01Pick_C : Ctr := ⟨100, spec_l01Pick_arg, spec_l01Pick_res, fun x => spec_l01Pick x.1.2.1 x.2.1.1.1 x.2.1.1.2.1 x.2.1.1.2.2.1, none⟩
def spec_l01Pick_H : Hint := ⟨[], [], [], fun _ => []⟩
noncomputable def spec_l01Pick_T : List Ctr := [spec_l01Below_C]
noncomputable def spec_l01Pick_Ls : List Lp := []
theorem spec_l01Pick_e : ∀ x, spec_l01Pick_C.F x = runBodyW E0 spec_l01Pick_T spec_l01Pick_Ls spec_l01Pick_H 100 Try.f100.results.toList (bodyOf Try.f100) [] (spec_l01Pick_arg.mk' x) spec_l01Pick_res := fun x => by kernel_rfl
theorem spec_l01Pick_ok : spec_l01Pick_C.Ok E0 := fn_ok (T := spec_l01Pick_T) (h := spec_l01Pick_H) (Ls := spec_l01Pick_Ls) E0_mixed (T_cons spec_l01Below_ok T_nil) Try.func100 (bodyOf_some (by kernel_rfl)) (by kernel_rfl) (loops_of (ks := []) (by kernel_rfl) trivial) spec_l01Pick_e
def spec_l5Words_arg : Sh := ⟨[(0, .c (.box 0 0)), (1, .agg [.str, .rd [] .i64, .rd [] .i64])], [(0, .cells [.rd [] .u8, .int .i64, .int .i64])], []⟩
def spec_l5Words_res : List Sh := [⟨[(0, .c (.str)), (1, .c (.box 0 0))], [(0, .cells [.rd [] .u8, .int .i64, .int .i64])], []⟩]
noncomputable def spec_l5Words_s0 (x : (Unit × Unit × ByteArray × Int × Unit) × ((List Int × Int × Int × Unit) × (ByteArray × List Int × List Int × Unit) × Unit) × Unit) : Option (((Unit × Unit × ByteArray × Int × Unit) × ((List Int × Int × Int × Unit) × (ByteArray × List Int × List Int × Unit) × Unit) × Unit) ⊕ ((Unit × ByteArray × Unit) × ((List Int × Int × Int × Unit) × Unit) × Unit)) :=
 let x2 : Bool := decide (x.1.2.2.2.1 > (0 : Int));
 br x2
 ((spec_l01Once (4 : Int) x.2.1.1.1 x.2.1.1.2.1 x.2.1.1.2.2.1).bind fun r3 =>
 br r3.1.1
 (ck (((x.1.2.2.1.size + (ByteArray.mk #[32]).size : Nat) : Int) ≤ IntKind.i64.max)
 (let x4 : ByteArray := x.1.2.2.1 ++ (ByteArray.mk #[32]);
 let x5 : Int := w64 (x.1.2.2.2.1 - (1 : Int));
 some (.inl (((), (), x4, x5, ()), ((r3.2.1.1.1, r3.2.1.1.2.1, r3.2.1.1.2.2.1, ()), (x.2.1.2.1.1, x.2.1.2.1.2.1, x.2.1.2.1.2.2.1, ()), ()), ()))))
 (let x6 : Bool := (x.2.1.2.1.1.size : Int) == (0 : Int);
 br x6
 (ck (((x.1.2.2.1.size + (ByteArray.mk #[32]).size : Nat) : Int) ≤ IntKind.i64.max)
 (let x7 : ByteArray := x.1.2.2.1 ++ (ByteArray.mk #[32]);
 let x8 : Int := w64 (x.1.2.2.2.1 - (1 : Int));
 some (.inl (((), (), x7, x8, ()), ((r3.2.1.1.1, r3.2.1.1.2.1, r3.2.1.1.2.2.1, ()), (x.2.1.2.1.1, x.2.1.2.1.2.1, x.2.1.2.1.2.2.1, ()), ()), ()))))
 ((spec_l01Below (x.2.1.2.1.1.size : Int) r3.2.1.1.1 r3.2.1.1.2.1 r3.2.1.1.2.2.1).bind fun r9 =>
 let x10 : Int := w64 (r9.1.1 + (1 : Int));
 ck (0 ≤ r9.1.1)
 (ck (0 ≤ x10)
 (ck (r9.1.1.toNat ≤ x10.toNat ∧ x10.toNat ≤ x.2.1.2.1.1.size)
 (let x11 : ByteArray := x.2.1.2.1.1.extract r9.1.1.toNat x10.toNat;
 ck (((x.1.2.2.1.size + x11.size : Nat) : Int) ≤ IntKind.i64.max)
 (let x12 : ByteArray := x.1.2.2.1 ++ x11;
 let x13 : Int := w64 (x.1.2.2.2.1 - (1 : Int));
 some (.inl (((), (), x12, x13, ()), ((r9.2.1.1.1, r9.2.1.1.2.1, r9.2.1.1.2.2.1, ()), (x.2.1.2.1.1, x.2.1.2.1.2.1, x.2.1.2.1.2.2.1, ()), ()), ())))))))))
 (some (.inr (((), x.1.2.2.1, ()), ((x.2.1.1.1, x.2.1.1.2.1, x.2.1.1.2.2.1, ()), ()), ())))
def spec_l5Words_h0 : Sh := ⟨[(0, .c (.box 0 0)), (3, .c (.box 1 0)), (5, .c (.str)), (6, .c (.int .i64))], [(0, .cells [.rd [] .u8, .int .i64, .int .i64]), (1, .cells [.str, .rd [] .i64, .rd [] .i64])], []⟩
def spec_l5Words_r0 : List Sh := [⟨[(0, .c (.box 0 0)), (5, .c (.str))], [(0, .cells [.rd [] .u8, .int .i64, .int .i64])], []⟩]
noncomputable def spec_l5Words_L0 : Lp := ⟨0, [], spec_l5Words_h0, [], [(.exit 0, [])], spec_l5Words_r0, loopC spec_l5Words_s0⟩
noncomputable def spec_l5Words (a1_0 : ByteArray) (a1_1 : List Int) (a1_2 : List Int) (b0_0 : List Int) (b0_1 : Int) (b0_2 : Int) : Option ((ByteArray × Unit × Unit) × ((List Int × Int × Int × Unit) × Unit) × Unit) :=
 (spec_l01Below (14 : Int) b0_0 b0_1 b0_2).bind fun r1 =>
 (loopC spec_l5Words_s0 (((), (), ByteArray.empty, r1.1.1, ()), ((r1.2.1.1.1, r1.2.1.1.2.1, r1.2.1.1.2.2.1, ()), (a1_0, a1_1, a1_2, ()), ()), ())).bind fun r14 =>
 (spec_l01Once (10 : Int) r14.2.1.1.1 r14.2.1.1.2.1 r14.2.1.1.2.2.1).bind fun r15 =>
 br r15.1.1
 ((spec_l01Pick [(ByteArray.mk #[63]), (ByteArray.mk #[255]), (ByteArray.mk #[97, 97]), (ByteArray.mk #[32, 32]), (ByteArray.mk #[81])] r15.2.1.1.1 r15.2.1.1.2.1 r15.2.1.1.2.2.1).bind fun r16 =>
 ck (((r14.1.2.1.size + r16.1.1.size : Nat) : Int) ≤ IntKind.i64.max)
 (let x17 : ByteArray := r14.1.2.1 ++ r16.1.1;
 some ((x17, (), ()), ((r16.2.1.1.1, r16.2.1.1.2.1, r16.2.1.1.2.2.1, ()), ()), ())))
 (some ((r14.1.2.1, (), ()), ((r15.2.1.1.1, r15.2.1.1.2.1, r15.2.1.1.2.2.1, ()), ()), ()))
noncomputable def spec_l5Words_C : Ctr := ⟨70, spec_l5Words_arg, spec_l5Words_res, fun x => spec_l5Words x.1.2.1.1 x.1.2.1.2.1 x.1.2.1.2.2.1 x.2.1.1.1 x.2.1.1.2.1 x.2.1.1.2.2.1, none⟩
def spec_l5Words_H : Hint := ⟨[], [], [], fun _ => []⟩
noncomputable def spec_l5Words_T : List Ctr := [spec_l01Below_C, spec_l01Once_C, spec_l01Pick_C]
noncomputable def spec_l5Words_Ls : List Lp := [spec_l5Words_L0]
theorem spec_l5Words_l0 : ∀ x, spec_l5Words_s0 x = stepW E0 spec_l5Words_T spec_l5Words_Ls spec_l5Words_H (loopAt (bodyOf Try.f70) 0) 0 spec_l5Words_h0 [] [(.exit 0, [])] spec_l5Words_r0 x := fun x => by kernel_rfl
theorem spec_l5Words_e : ∀ x, spec_l5Words_C.F x = runBodyW E0 spec_l5Words_T spec_l5Words_Ls spec_l5Words_H 70 Try.f70.results.toList (bodyOf Try.f70) [] (spec_l5Words_arg.mk' x) spec_l5Words_res := fun x => by kernel_rfl
theorem spec_l5Words_ok : spec_l5Words_C.Ok E0 := fn_ok (T := spec_l5Words_T) (h := spec_l5Words_H) (Ls := spec_l5Words_Ls) E0_mixed (T_cons spec_l01Below_ok (T_cons spec_l01Once_ok (T_cons spec_l01Pick_ok T_nil))) Try.func70 (bodyOf_some (by kernel_rfl)) (by kernel_rfl) (loops_of (ks := [0]) (by kernel_rfl) ⟨(loop_one (h := spec_l5Words_H) (own := []) (head := spec_l5Words_h0) (back := []) (exs := [(.exit 0, [])]) (res := spec_l5Words_r0) (step := spec_l5Words_s0) (by kernel_rfl) spec_l5Words_l0), trivial⟩) spec_l5Words_e
def spec_DrawSetLines_arg : Sh := ⟨[(0, .c (.rd [] .u8))], [], []⟩
def spec_DrawSetLines_res : List Sh := [⟨[(0, .agg [.str, .rd [] .i64, .rd [] .i64, .own 0, .int .i64, .int .i64, .int .i64, .int .i64, .own 1, .own 2]), (1, .c (.own 3))], [], [(0, .mats), (1, .mat), (2, .mat), (3, .str)]⟩]
noncomputable def spec_DrawSetLines_s0 (x : (Unit × Unit × Unit × Unit × Int × Unit) × ((ByteArray × Unit × Unit × Unit × Int × Int × Int × Int × Unit × Unit × Unit) × (List Int × Int × Int × Unit) × (ByteArray × List Int × List Int × Unit × Int × Int × Int × Int × Unit × Unit × Unit) × Unit) × (List ByteArray × List (List (Int × Int)) × List (Int × Int) × List (Int × Int) × Unit)) : Option (((Unit × Unit × Unit × Unit × Int × Unit) × ((ByteArray × Unit × Unit × Unit × Int × Int × Int × Int × Unit × Unit × Unit) × (List Int × Int × Int × Unit) × (ByteArray × List Int × List Int × Unit × Int × Int × Int × Int × Unit × Unit × Unit) × Unit) × (List ByteArray × List (List (Int × Int)) × List (Int × Int) × List (Int × Int) × Unit)) ⊕ ((Unit × Unit × Unit × Unit) × ((ByteArray × Unit × Unit × Unit × Int × Int × Int × Int × Unit × Unit × Unit) × (ByteArray × List Int × List Int × Unit × Int × Int × Int × Int × Unit × Unit × Unit) × Unit) × (List ByteArray × List (List (Int × Int)) × List (Int × Int) × List (Int × Int) × Unit))) :=
 let x4 : Bool := decide (x.1.2.2.2.2.1 > (0 : Int));
 br x4
 ((spec_l5Words x.2.1.2.2.1.1 x.2.1.2.2.1.2.1 x.2.1.2.2.1.2.2.1 x.2.1.2.1.1 x.2.1.2.1.2.1 x.2.1.2.1.2.2.1).bind fun r5 =>
 (spec_l01Once (3 : Int) r5.2.1.1.1 r5.2.1.1.2.1 r5.2.1.1.2.2.1).bind fun r6 =>
 br (!r6.1.1)
 (let x7 : Bool := decide ((r5.1.1.size : Int) > (3 : Int));
 br x7
 (ck (0 ≤ 3 ∧ 3 ≤ r5.1.1.size)
 (let x8 : ByteArray := r5.1.1.extract 0 3;
 ck ((x.2.2.1.length + [x8].length) * 16 ≤ 140737488355328 ∧ (x.2.2.1.length + [x8].length) ≤ 9223372036854775807)
 (let x9 : List ByteArray := x.2.2.1 ++ [x8];
 let x10 : Int := w64 (x.1.2.2.2.2.1 - (1 : Int));
 some (.inl (((), (), (), (), x10, ()), ((x.2.1.1.1, (), (), (), x.2.1.1.2.2.2.2.1, x.2.1.1.2.2.2.2.2.1, x.2.1.1.2.2.2.2.2.2.1, x.2.1.1.2.2.2.2.2.2.2.1, (), (), ()), (r6.2.1.1.1, r6.2.1.1.2.1, r6.2.1.1.2.2.1, ()), (x.2.1.2.2.1.1, x.2.1.2.2.1.2.1, x.2.1.2.2.1.2.2.1, (), x.2.1.2.2.1.2.2.2.2.1, x.2.1.2.2.1.2.2.2.2.2.1, x.2.1.2.2.1.2.2.2.2.2.2.1, x.2.1.2.2.1.2.2.2.2.2.2.2.1, (), (), ()), ()), (x9, x.2.2.2.1, x.2.2.2.2.1, x.2.2.2.2.2.1, ()))))))
 (ck ((x.2.2.1.length + [r5.1.1].length) * 16 ≤ 140737488355328 ∧ (x.2.2.1.length + [r5.1.1].length) ≤ 9223372036854775807)
 (let x11 : List ByteArray := x.2.2.1 ++ [r5.1.1];
 let x12 : Int := w64 (x.1.2.2.2.2.1 - (1 : Int));
 some (.inl (((), (), (), (), x12, ()), ((x.2.1.1.1, (), (), (), x.2.1.1.2.2.2.2.1, x.2.1.1.2.2.2.2.2.1, x.2.1.1.2.2.2.2.2.2.1, x.2.1.1.2.2.2.2.2.2.2.1, (), (), ()), (r6.2.1.1.1, r6.2.1.1.2.1, r6.2.1.1.2.2.1, ()), (x.2.1.2.2.1.1, x.2.1.2.2.1.2.1, x.2.1.2.2.1.2.2.1, (), x.2.1.2.2.1.2.2.2.2.1, x.2.1.2.2.1.2.2.2.2.2.1, x.2.1.2.2.1.2.2.2.2.2.2.1, x.2.1.2.2.1.2.2.2.2.2.2.2.1, (), (), ()), ()), (x11, x.2.2.2.1, x.2.2.2.2.1, x.2.2.2.2.2.1, ()))))))
 (ck ((x.2.2.1.length + [r5.1.1].length) * 16 ≤ 140737488355328 ∧ (x.2.2.1.length + [r5.1.1].length) ≤ 9223372036854775807)
 (let x13 : List ByteArray := x.2.2.1 ++ [r5.1.1];
 let x14 : Int := w64 (x.1.2.2.2.2.1 - (1 : Int));
 some (.inl (((), (), (), (), x14, ()), ((x.2.1.1.1, (), (), (), x.2.1.1.2.2.2.2.1, x.2.1.1.2.2.2.2.2.1, x.2.1.1.2.2.2.2.2.2.1, x.2.1.1.2.2.2.2.2.2.2.1, (), (), ()), (r6.2.1.1.1, r6.2.1.1.2.1, r6.2.1.1.2.2.1, ()), (x.2.1.2.2.1.1, x.2.1.2.2.1.2.1, x.2.1.2.2.1.2.2.1, (), x.2.1.2.2.1.2.2.2.2.1, x.2.1.2.2.1.2.2.2.2.2.1, x.2.1.2.2.1.2.2.2.2.2.2.1, x.2.1.2.2.1.2.2.2.2.2.2.2.1, (), (), ()), ()), (x13, x.2.2.2.1, x.2.2.2.2.1, x.2.2.2.2.2.1, ()))))))
 (some (.inr (((), (), (), ()), ((x.2.1.1.1, (), (), (), x.2.1.1.2.2.2.2.1, x.2.1.1.2.2.2.2.2.1, x.2.1.1.2.2.2.2.2.2.1, x.2.1.1.2.2.2.2.2.2.2.1, (), (), ()), (x.2.1.2.2.1.1, x.2.1.2.2.1.2.1, x.2.1.2.2.1.2.2.1, (), x.2.1.2.2.1.2.2.2.2.1, x.2.1.2.2.1.2.2.2.2.2.1, x.2.1.2.2.1.2.2.2.2.2.2.1, x.2.1.2.2.1.2.2.2.2.2.2.2.1, (), (), ()), ()), (x.2.2.1, x.2.2.2.1, x.2.2.2.2.1, x.2.2.2.2.2.1, ()))))
def spec_DrawSetLines_h0 : Sh := ⟨[(2, .c (.box 0 0)), (4, .c (.box 1 0)), (5, .c (.box 2 0)), (6, .c (.own 0)), (7, .c (.int .i64))], [(0, .cells [.str, .nil, .nil, .nil, .int .i64, .int .i64, .int .i64, .int .i64, .nil, .nil]), (1, .cells [.rd [] .u8, .int .i64, .int .i64]), (2, .cells [.str, .rd [] .i64, .rd [] .i64, .own 1, .int .i64, .int .i64, .int .i64, .int .i64, .own 2, .own 3])], [(0, .str), (1, .mats), (2, .mat), (3, .mat)]⟩
def spec_DrawSetLines_r0 : List Sh := [⟨[(2, .c (.box 0 0)), (5, .c (.box 1 0)), (6, .c (.own 0))], [(0, .cells [.str, .nil, .nil, .nil, .int .i64, .int .i64, .int .i64, .int .i64, .nil, .nil]), (1, .cells [.str, .rd [] .i64, .rd [] .i64, .own 1, .int .i64, .int .i64, .int .i64, .int .i64, .own 2, .own 3])], [(0, .str), (1, .mats), (2, .mat), (3, .mat)]⟩]
noncomputable def spec_DrawSetLines_L0 : Lp := ⟨0, [], spec_DrawSetLines_h0, [], [(.exit 0, [])], spec_DrawSetLines_r0, loopC spec_DrawSetLines_s0⟩
noncomputable def spec_DrawSetLines (a0 : List Int) : Option (((ByteArray × List Int × List Int × Unit × Int × Int × Int × Int × Unit × Unit × Unit) × Unit × Unit) × Unit × (List (List (Int × Int)) × List (Int × Int) × List (Int × Int) × List ByteArray × Unit)) :=
 (spec_l01New a0).bind fun r1 =>
 (spec_l5Any r1.2.1.1.1 r1.2.1.1.2.1 r1.2.1.1.2.2.1).bind fun r2 =>
 (spec_l01Below (4 : Int) r2.2.1.1.1 r2.2.1.1.2.1 r2.2.1.1.2.2.1).bind fun r3 =>
 (loopC spec_DrawSetLines_s0 (((), (), (), (), r3.1.1, ()), ((ByteArray.empty, (), (), (), (0 : Int), (0 : Int), (0 : Int), (0 : Int), (), (), ()), (r3.2.1.1.1, r3.2.1.1.2.1, r3.2.1.1.2.2.1, ()), (r2.1.1.1, r2.1.1.2.1, r2.1.1.2.2.1, (), r2.1.1.2.2.2.2.1, r2.1.1.2.2.2.2.2.1, r2.1.1.2.2.2.2.2.2.1, r2.1.1.2.2.2.2.2.2.2.1, (), (), ()), ()), ([], r2.2.2.1, r2.2.2.2.1, r2.2.2.2.2.1, ()))).bind fun r15 =>
 some (((r15.2.1.2.1.1, r15.2.1.2.1.2.1, r15.2.1.2.1.2.2.1, (), r15.2.1.2.1.2.2.2.2.1, r15.2.1.2.1.2.2.2.2.2.1, r15.2.1.2.1.2.2.2.2.2.2.1, r15.2.1.2.1.2.2.2.2.2.2.2.1, (), (), ()), (), ()), (), (r15.2.2.2.1, r15.2.2.2.2.1, r15.2.2.2.2.2.1, r15.2.2.1, ()))
noncomputable def spec_DrawSetLines_C : Ctr := ⟨27, spec_DrawSetLines_arg, spec_DrawSetLines_res, fun x => spec_DrawSetLines x.1.1, none⟩
def spec_DrawSetLines_H : Hint := ⟨[], [], [], fun _ => []⟩
noncomputable def spec_DrawSetLines_T : List Ctr := [spec_l01New_C, spec_l5Any_C, spec_l01Below_C, spec_l5Words_C, spec_l01Once_C]
noncomputable def spec_DrawSetLines_Ls : List Lp := [spec_DrawSetLines_L0]
theorem spec_DrawSetLines_l0 : ∀ x, spec_DrawSetLines_s0 x = stepW E0 spec_DrawSetLines_T spec_DrawSetLines_Ls spec_DrawSetLines_H (loopAt (bodyOf Try.f27) 0) 0 spec_DrawSetLines_h0 [] [(.exit 0, [])] spec_DrawSetLines_r0 x := fun x => by kernel_rfl
theorem spec_DrawSetLines_e : ∀ x, spec_DrawSetLines_C.F x = runBodyW E0 spec_DrawSetLines_T spec_DrawSetLines_Ls spec_DrawSetLines_H 27 Try.f27.results.toList (bodyOf Try.f27) [] (spec_DrawSetLines_arg.mk' x) spec_DrawSetLines_res := fun x => by kernel_rfl
theorem spec_DrawSetLines_ok : spec_DrawSetLines_C.Ok E0 := fn_ok (T := spec_DrawSetLines_T) (h := spec_DrawSetLines_H) (Ls := spec_DrawSetLines_Ls) E0_mixed (T_cons spec_l01New_ok (T_cons spec_l5Any_ok (T_cons spec_l01Below_ok (T_cons spec_l5Words_ok (T_cons spec_l01Once_ok T_nil))))) Try.func27 (bodyOf_some (by kernel_rfl)) (by kernel_rfl) (loops_of (ks := [0]) (by kernel_rfl) ⟨(loop_one (h := spec_DrawSetLines_H) (own := []) (head := spec_DrawSetLines_h0) (back := []) (exs := [(.exit 0, [])]) (res := spec_DrawSetLines_r0) (step := spec_DrawSetLines_s0) (by kernel_rfl) spec_DrawSetLines_l0), trivial⟩) spec_DrawSetLines_e
def impl_between_1_arg : Sh := ⟨[(0, .c (.int .i64)), (1, .c (.rad [] [.int .i64])), (2, .c (.rad [] [.int .i64]))], [], []⟩
def impl_between_1_res : List Sh := [⟨[(0, .c (.bool))], [], []⟩]
noncomputable def impl_between_1 (a0 : Int) (a1_0 : Int) (a2_0 : Int) : Option ((Bool × Unit) × Unit × Unit) :=
 let x1 : Bool := decide (a0 < a1_0);
 br x1
 (some ((true, ()), (), ()))
 (let x2 : Bool := decide (a0 > a2_0);
 some ((x2, ()), (), ()))
noncomputable def impl_between_1_C : Ctr := ⟨129, impl_between_1_arg, impl_between_1_res, fun x => impl_between_1 x.1.1 x.1.2.1.1 x.1.2.2.1.1, none⟩
def impl_between_1_H : Hint := ⟨[], [], [], fun _ => []⟩
noncomputable def impl_between_1_T : List Ctr := []
noncomputable def impl_between_1_Ls : List Lp := []
theorem impl_between_1_e : ∀ x, impl_between_1_C.F x = runBodyW E0 impl_between_1_T impl_between_1_Ls impl_between_1_H 129 Try.f129.results.toList (bodyOf Try.f129) [] (impl_between_1_arg.mk' x) impl_between_1_res := fun x => by kernel_rfl
theorem impl_between_1_ok : impl_between_1_C.Ok E0 := fn_ok (T := impl_between_1_T) (h := impl_between_1_H) (Ls := impl_between_1_Ls) E0_mixed T_nil Try.func129 (bodyOf_some (by kernel_rfl)) (by kernel_rfl) (loops_of (ks := []) (by kernel_rfl) trivial) impl_between_1_e
def IndexFunc_int_impl_between_1_arg : Sh := ⟨[(0, .c (.rd [] .i64)), (1, .c (.fnr 129 [[.int .i64], [.int .i64]]))], [], []⟩
def IndexFunc_int_impl_between_1_res : List Sh := [⟨[(0, .c (.int .i64))], [], []⟩]
noncomputable def IndexFunc_int_impl_between_1_s0 (x : (List Int × ((Int × Unit) × (Int × Unit) × Unit) × Int × Int × Unit) × Unit × Unit) : Option (((List Int × ((Int × Unit) × (Int × Unit) × Unit) × Int × Int × Unit) × Unit × Unit) ⊕ (((Int × Unit) × Unit × Unit) ⊕ (Unit × Unit × Unit))) :=
 let x1 : Bool := decide (x.1.2.2.2.1 < x.1.2.2.1);
 br x1
 (ck (0 ≤ x.1.2.2.2.1)
 (ck (x.1.2.2.2.1.toNat < x.1.1.length)
 (let x2 : Int := x.1.1.getD x.1.2.2.2.1.toNat 0;
 (impl_between_1 x2 x.1.2.1.1.1 x.1.2.1.2.1.1).bind fun r3 =>
 br r3.1.1
 (some (.inr (.inl ((x.1.2.2.2.1, ()), (), ()))))
 (let x4 : Int := w64 (x.1.2.2.2.1 + (1 : Int));
 some (.inl ((x.1.1, ((x.1.2.1.1.1, ()), (x.1.2.1.2.1.1, ()), ()), x.1.2.2.1, x4, ()), (), ()))))))
 (some (.inr (.inr ((), (), ()))))
def IndexFunc_int_impl_between_1_h0 : Sh := ⟨[(0, .c (.rd [] .i64)), (1, .c (.fnr 129 [[.int .i64], [.int .i64]])), (7, .c (.int .i64)), (8, .c (.int .i64))], [], []⟩
def IndexFunc_int_impl_between_1_r0 : List Sh := [⟨[(4, .c (.int .i64))], [], []⟩, ⟨[], [], []⟩]
noncomputable def IndexFunc_int_impl_between_1_L0 : Lp := ⟨0, [], IndexFunc_int_impl_between_1_h0, [], [(.ret, []), (.exit 0, [])], IndexFunc_int_impl_between_1_r0, loopC IndexFunc_int_impl_between_1_s0⟩
noncomputable def IndexFunc_int_impl_between_1 (a0 : List Int) (a1_0_0 : Int) (a1_1_0 : Int) : Option ((Int × Unit) × Unit × Unit) :=
 (loopC IndexFunc_int_impl_between_1_s0 ((a0, ((a1_0_0, ()), (a1_1_0, ()), ()), (a0.length : Int), (0 : Int), ()), (), ())).bind fun r5 =>
 sumK r5 (fun y8 =>
 some ((y8.1.1, ()), (), ())) (fun y9 =>
 some (((-1 : Int), ()), (), ()))
noncomputable def IndexFunc_int_impl_between_1_C : Ctr := ⟨134, IndexFunc_int_impl_between_1_arg, IndexFunc_int_impl_between_1_res, fun x => IndexFunc_int_impl_between_1 x.1.1 x.1.2.1.1.1 x.1.2.1.2.1.1, none⟩
def IndexFunc_int_impl_between_1_H : Hint := ⟨[], [], [], fun _ => []⟩
noncomputable def IndexFunc_int_impl_between_1_T : List Ctr := [impl_between_1_C]
noncomputable def IndexFunc_int_impl_between_1_Ls : List Lp := [IndexFunc_int_impl_between_1_L0]
theorem IndexFunc_int_impl_between_1_l0 : ∀ x, IndexFunc_int_impl_between_1_s0 x = stepW E0 IndexFunc_int_impl_between_1_T IndexFunc_int_impl_between_1_Ls IndexFunc_int_impl_between_1_H (loopAt (bodyOf Try.f134) 0) 0 IndexFunc_int_impl_between_1_h0 [] [(.ret, []), (.exit 0, [])] IndexFunc_int_impl_between_1_r0 x := fun x => by kernel_rfl
theorem IndexFunc_int_impl_between_1_e : ∀ x, IndexFunc_int_impl_between_1_C.F x = runBodyW E0 IndexFunc_int_impl_between_1_T IndexFunc_int_impl_between_1_Ls IndexFunc_int_impl_between_1_H 134 Try.f134.results.toList (bodyOf Try.f134) [] (IndexFunc_int_impl_between_1_arg.mk' x) IndexFunc_int_impl_between_1_res := fun x => by kernel_rfl
theorem IndexFunc_int_impl_between_1_ok : IndexFunc_int_impl_between_1_C.Ok E0 := fn_ok (T := IndexFunc_int_impl_between_1_T) (h := IndexFunc_int_impl_between_1_H) (Ls := IndexFunc_int_impl_between_1_Ls) E0_mixed (T_cons impl_between_1_ok T_nil) Try.func134 (bodyOf_some (by kernel_rfl)) (by kernel_rfl) (loops_of (ks := [0]) (by kernel_rfl) ⟨(loop_one (h := IndexFunc_int_impl_between_1_H) (own := []) (head := IndexFunc_int_impl_between_1_h0) (back := []) (exs := [(.ret, []), (.exit 0, [])]) (res := IndexFunc_int_impl_between_1_r0) (step := IndexFunc_int_impl_between_1_s0) (by kernel_rfl) IndexFunc_int_impl_between_1_l0), trivial⟩) IndexFunc_int_impl_between_1_e
def ContainsFunc_int_impl_between_1_arg : Sh := ⟨[(0, .c (.rd [] .i64)), (1, .c (.fnr 129 [[.int .i64], [.int .i64]]))], [], []⟩
def ContainsFunc_int_impl_between_1_res : List Sh := [⟨[(0, .c (.bool))], [], []⟩]
noncomputable def ContainsFunc_int_impl_between_1 (a0 : List Int) (a1_0_0 : Int) (a1_1_0 : Int) : Option ((Bool × Unit) × Unit × Unit) :=
 (IndexFunc_int_impl_between_1 a0 a1_0_0 a1_1_0).bind fun r1 =>
 let x2 : Bool := decide (r1.1.1 ≥ (0 : Int));
 some ((x2, ()), (), ())
noncomputable def ContainsFunc_int_impl_between_1_C : Ctr := ⟨128, ContainsFunc_int_impl_between_1_arg, ContainsFunc_int_impl_between_1_res, fun x => ContainsFunc_int_impl_between_1 x.1.1 x.1.2.1.1.1 x.1.2.1.2.1.1, none⟩
def ContainsFunc_int_impl_between_1_H : Hint := ⟨[], [], [], fun _ => []⟩
noncomputable def ContainsFunc_int_impl_between_1_T : List Ctr := [IndexFunc_int_impl_between_1_C]
noncomputable def ContainsFunc_int_impl_between_1_Ls : List Lp := []
theorem ContainsFunc_int_impl_between_1_e : ∀ x, ContainsFunc_int_impl_between_1_C.F x = runBodyW E0 ContainsFunc_int_impl_between_1_T ContainsFunc_int_impl_between_1_Ls ContainsFunc_int_impl_between_1_H 128 Try.f128.results.toList (bodyOf Try.f128) [] (ContainsFunc_int_impl_between_1_arg.mk' x) ContainsFunc_int_impl_between_1_res := fun x => by kernel_rfl
theorem ContainsFunc_int_impl_between_1_ok : ContainsFunc_int_impl_between_1_C.Ok E0 := fn_ok (T := ContainsFunc_int_impl_between_1_T) (h := ContainsFunc_int_impl_between_1_H) (Ls := ContainsFunc_int_impl_between_1_Ls) E0_mixed (T_cons IndexFunc_int_impl_between_1_ok T_nil) Try.func128 (bodyOf_some (by kernel_rfl)) (by kernel_rfl) (loops_of (ks := []) (by kernel_rfl) trivial) ContainsFunc_int_impl_between_1_e
def impl_between_arg : Sh := ⟨[(0, .c (.rd [] .i64)), (1, .c (.int .i64)), (2, .c (.int .i64))], [], []⟩
def impl_between_res : List Sh := [⟨[(0, .c (.bool))], [], []⟩]
noncomputable def impl_between (a0 : List Int) (a1 : Int) (a2 : Int) : Option ((Bool × Unit) × Unit × Unit) :=
 (ContainsFunc_int_impl_between_1 a0 a1 a2).bind fun r1 =>
 some ((!r1.1.1, ()), (), ())
noncomputable def impl_between_C : Ctr := ⟨115, impl_between_arg, impl_between_res, fun x => impl_between x.1.1 x.1.2.1 x.1.2.2.1, none⟩
def impl_between_H : Hint := ⟨[], [], [], fun _ => []⟩
noncomputable def impl_between_T : List Ctr := [ContainsFunc_int_impl_between_1_C]
noncomputable def impl_between_Ls : List Lp := []
theorem impl_between_e : ∀ x, impl_between_C.F x = runBodyW E0 impl_between_T impl_between_Ls impl_between_H 115 Try.f115.results.toList (bodyOf Try.f115) [] (impl_between_arg.mk' x) impl_between_res := fun x => by kernel_rfl
theorem impl_between_ok : impl_between_C.Ok E0 := fn_ok (T := impl_between_T) (h := impl_between_H) (Ls := impl_between_Ls) E0_mixed (T_cons ContainsFunc_int_impl_between_1_ok T_nil) Try.func115 (bodyOf_some (by kernel_rfl)) (by kernel_rfl) (loops_of (ks := []) (by kernel_rfl) trivial) impl_between_e
def impl_isSet_arg : Sh := ⟨[(0, .c (.int .i64))], [], []⟩
def impl_isSet_res : List Sh := [⟨[(0, .c (.bool))], [], []⟩]
noncomputable def impl_isSet (a0 : Int) : Option ((Bool × Unit) × Unit × Unit) :=
 let x1 : Bool := decide (a0 ≥ (0 : Int));
 br x1
 (let x2 : Bool := decide (a0 ≤ (127 : Int));
 some ((x2, ()), (), ()))
 (some ((false, ()), (), ()))
noncomputable def impl_isSet_C : Ctr := ⟨98, impl_isSet_arg, impl_isSet_res, fun x => impl_isSet x.1.1, none⟩
def impl_isSet_H : Hint := ⟨[], [], [], fun _ => []⟩
noncomputable def impl_isSet_T : List Ctr := []
noncomputable def impl_isSet_Ls : List Lp := []
theorem impl_isSet_e : ∀ x, impl_isSet_C.F x = runBodyW E0 impl_isSet_T impl_isSet_Ls impl_isSet_H 98 Try.f98.results.toList (bodyOf Try.f98) [] (impl_isSet_arg.mk' x) impl_isSet_res := fun x => by kernel_rfl
theorem impl_isSet_ok : impl_isSet_C.Ok E0 := fn_ok (T := impl_isSet_T) (h := impl_isSet_H) (Ls := impl_isSet_Ls) E0_mixed T_nil Try.func98 (bodyOf_some (by kernel_rfl)) (by kernel_rfl) (loops_of (ks := []) (by kernel_rfl) trivial) impl_isSet_e
def impl_IsBar_1_arg : Sh := ⟨[(0, .c (.int .i64))], [], []⟩
def impl_IsBar_1_res : List Sh := [⟨[(0, .c (.bool))], [], []⟩]
noncomputable def impl_IsBar_1 (a0 : Int) : Option ((Bool × Unit) × Unit × Unit) :=
 (impl_isSet a0).bind fun r1 =>
 some ((!r1.1.1, ()), (), ())
noncomputable def impl_IsBar_1_C : Ctr := ⟨135, impl_IsBar_1_arg, impl_IsBar_1_res, fun x => impl_IsBar_1 x.1.1, none⟩
def impl_IsBar_1_H : Hint := ⟨[], [], [], fun _ => []⟩
noncomputable def impl_IsBar_1_T : List Ctr := [impl_isSet_C]
noncomputable def impl_IsBar_1_Ls : List Lp := []
theorem impl_IsBar_1_e : ∀ x, impl_IsBar_1_C.F x = runBodyW E0 impl_IsBar_1_T impl_IsBar_1_Ls impl_IsBar_1_H 135 Try.f135.results.toList (bodyOf Try.f135) [] (impl_IsBar_1_arg.mk' x) impl_IsBar_1_res := fun x => by kernel_rfl
theorem impl_IsBar_1_ok : impl_IsBar_1_C.Ok E0 := fn_ok (T := impl_IsBar_1_T) (h := impl_IsBar_1_H) (Ls := impl_IsBar_1_Ls) E0_mixed (T_cons impl_isSet_ok T_nil) Try.func135 (bodyOf_some (by kernel_rfl)) (by kernel_rfl) (loops_of (ks := []) (by kernel_rfl) trivial) impl_IsBar_1_e
def IndexFunc_int_impl_IsBar_1_arg : Sh := ⟨[(0, .c (.rd [] .i64)), (1, .c (.fnr 135 []))], [], []⟩
def IndexFunc_int_impl_IsBar_1_res : List Sh := [⟨[(0, .c (.int .i64))], [], []⟩]
noncomputable def IndexFunc_int_impl_IsBar_1_s0 (x : (List Int × Unit × Int × Int × Unit) × Unit × Unit) : Option (((List Int × Unit × Int × Int × Unit) × Unit × Unit) ⊕ (((Int × Unit) × Unit × Unit) ⊕ (Unit × Unit × Unit))) :=
 let x1 : Bool := decide (x.1.2.2.2.1 < x.1.2.2.1);
 br x1
 (ck (0 ≤ x.1.2.2.2.1)
 (ck (x.1.2.2.2.1.toNat < x.1.1.length)
 (let x2 : Int := x.1.1.getD x.1.2.2.2.1.toNat 0;
 (impl_IsBar_1 x2).bind fun r3 =>
 br r3.1.1
 (some (.inr (.inl ((x.1.2.2.2.1, ()), (), ()))))
 (let x4 : Int := w64 (x.1.2.2.2.1 + (1 : Int));
 some (.inl ((x.1.1, (), x.1.2.2.1, x4, ()), (), ()))))))
 (some (.inr (.inr ((), (), ()))))
def IndexFunc_int_impl_IsBar_1_h0 : Sh := ⟨[(0, .c (.rd [] .i64)), (1, .c (.fnr 135 [])), (7, .c (.int .i64)), (8, .c (.int .i64))], [], []⟩
def IndexFunc_int_impl_IsBar_1_r0 : List Sh := [⟨[(4, .c (.int .i64))], [], []⟩, ⟨[], [], []⟩]
noncomputable def IndexFunc_int_impl_IsBar_1_L0 : Lp := ⟨0, [], IndexFunc_int_impl_IsBar_1_h0, [], [(.ret, []), (.exit 0, [])], IndexFunc_int_impl_IsBar_1_r0, loopC IndexFunc_int_impl_IsBar_1_s0⟩
noncomputable def IndexFunc_int_impl_IsBar_1 (a0 : List Int) : Option ((Int × Unit) × Unit × Unit) :=
 (loopC IndexFunc_int_impl_IsBar_1_s0 ((a0, (), (a0.length : Int), (0 : Int), ()), (), ())).bind fun r5 =>
 sumK r5 (fun y8 =>
 some ((y8.1.1, ()), (), ())) (fun y9 =>
 some (((-1 : Int), ()), (), ()))
noncomputable def IndexFunc_int_impl_IsBar_1_C : Ctr := ⟨134, IndexFunc_int_impl_IsBar_1_arg, IndexFunc_int_impl_IsBar_1_res, fun x => IndexFunc_int_impl_IsBar_1 x.1.1, none⟩
def IndexFunc_int_impl_IsBar_1_H : Hint := ⟨[], [], [], fun _ => []⟩
noncomputable def IndexFunc_int_impl_IsBar_1_T : List Ctr := [impl_IsBar_1_C]
noncomputable def IndexFunc_int_impl_IsBar_1_Ls : List Lp := [IndexFunc_int_impl_IsBar_1_L0]
theorem IndexFunc_int_impl_IsBar_1_l0 : ∀ x, IndexFunc_int_impl_IsBar_1_s0 x = stepW E0 IndexFunc_int_impl_IsBar_1_T IndexFunc_int_impl_IsBar_1_Ls IndexFunc_int_impl_IsBar_1_H (loopAt (bodyOf Try.f134) 0) 0 IndexFunc_int_impl_IsBar_1_h0 [] [(.ret, []), (.exit 0, [])] IndexFunc_int_impl_IsBar_1_r0 x := fun x => by kernel_rfl
theorem IndexFunc_int_impl_IsBar_1_e : ∀ x, IndexFunc_int_impl_IsBar_1_C.F x = runBodyW E0 IndexFunc_int_impl_IsBar_1_T IndexFunc_int_impl_IsBar_1_Ls IndexFunc_int_impl_IsBar_1_H 134 Try.f134.results.toList (bodyOf Try.f134) [] (IndexFunc_int_impl_IsBar_1_arg.mk' x) IndexFunc_int_impl_IsBar_1_res := fun x => by kernel_rfl
theorem IndexFunc_int_impl_IsBar_1_ok : IndexFunc_int_impl_IsBar_1_C.Ok E0 := fn_ok (T := IndexFunc_int_impl_IsBar_1_T) (h := IndexFunc_int_impl_IsBar_1_H) (Ls := IndexFunc_int_impl_IsBar_1_Ls) E0_mixed (T_cons impl_IsBar_1_ok T_nil) Try.func134 (bodyOf_some (by kernel_rfl)) (by kernel_rfl) (loops_of (ks := [0]) (by kernel_rfl) ⟨(loop_one (h := IndexFunc_int_impl_IsBar_1_H) (own := []) (head := IndexFunc_int_impl_IsBar_1_h0) (back := []) (exs := [(.ret, []), (.exit 0, [])]) (res := IndexFunc_int_impl_IsBar_1_r0) (step := IndexFunc_int_impl_IsBar_1_s0) (by kernel_rfl) IndexFunc_int_impl_IsBar_1_l0), trivial⟩) IndexFunc_int_impl_IsBar_1_e
def ContainsFunc_int_impl_IsBar_1_arg : Sh := ⟨[(0, .c (.rd [] .i64)), (1, .c (.fnr 135 []))], [], []⟩
def ContainsFunc_int_impl_IsBar_1_res : List Sh := [⟨[(0, .c (.bool))], [], []⟩]
noncomputable def ContainsFunc_int_impl_IsBar_1 (a0 : List Int) : Option ((Bool × Unit) × Unit × Unit) :=
 (IndexFunc_int_impl_IsBar_1 a0).bind fun r1 =>
 let x2 : Bool := decide (r1.1.1 ≥ (0 : Int));
 some ((x2, ()), (), ())
noncomputable def ContainsFunc_int_impl_IsBar_1_C : Ctr := ⟨128, ContainsFunc_int_impl_IsBar_1_arg, ContainsFunc_int_impl_IsBar_1_res, fun x => ContainsFunc_int_impl_IsBar_1 x.1.1, none⟩
def ContainsFunc_int_impl_IsBar_1_H : Hint := ⟨[], [], [], fun _ => []⟩
noncomputable def ContainsFunc_int_impl_IsBar_1_T : List Ctr := [IndexFunc_int_impl_IsBar_1_C]
noncomputable def ContainsFunc_int_impl_IsBar_1_Ls : List Lp := []
theorem ContainsFunc_int_impl_IsBar_1_e : ∀ x, ContainsFunc_int_impl_IsBar_1_C.F x = runBodyW E0 ContainsFunc_int_impl_IsBar_1_T ContainsFunc_int_impl_IsBar_1_Ls ContainsFunc_int_impl_IsBar_1_H 128 Try.f128.results.toList (bodyOf Try.f128) [] (ContainsFunc_int_impl_IsBar_1_arg.mk' x) ContainsFunc_int_impl_IsBar_1_res := fun x => by kernel_rfl
theorem ContainsFunc_int_impl_IsBar_1_ok : ContainsFunc_int_impl_IsBar_1_C.Ok E0 := fn_ok (T := ContainsFunc_int_impl_IsBar_1_T) (h := ContainsFunc_int_impl_IsBar_1_H) (Ls := ContainsFunc_int_impl_IsBar_1_Ls) E0_mixed (T_cons IndexFunc_int_impl_IsBar_1_ok T_nil) Try.func128 (bodyOf_some (by kernel_rfl)) (by kernel_rfl) (loops_of (ks := []) (by kernel_rfl) trivial) ContainsFunc_int_impl_IsBar_1_e
def impl_IsBar_arg : Sh := ⟨[(0, .c (.rd [] .i64))], [], []⟩
def impl_IsBar_res : List Sh := [⟨[(0, .c (.bool))], [], []⟩]
noncomputable def impl_IsBar (a0 : List Int) : Option ((Bool × Unit) × Unit × Unit) :=
 let x1 : Bool := decide ((a0.length : Int) ≥ (1 : Int));
 br x1
 (let x2 : Bool := decide ((a0.length : Int) ≤ (40 : Int));
 br x2
 ((ContainsFunc_int_impl_IsBar_1 a0).bind fun r3 =>
 some ((!r3.1.1, ()), (), ()))
 (some ((false, ()), (), ())))
 (some ((false, ()), (), ()))
noncomputable def impl_IsBar_C : Ctr := ⟨130, impl_IsBar_arg, impl_IsBar_res, fun x => impl_IsBar x.1.1, none⟩
def impl_IsBar_H : Hint := ⟨[], [], [], fun _ => []⟩
noncomputable def impl_IsBar_T : List Ctr := [ContainsFunc_int_impl_IsBar_1_C]
noncomputable def impl_IsBar_Ls : List Lp := []
theorem impl_IsBar_e : ∀ x, impl_IsBar_C.F x = runBodyW E0 impl_IsBar_T impl_IsBar_Ls impl_IsBar_H 130 Try.f130.results.toList (bodyOf Try.f130) [] (impl_IsBar_arg.mk' x) impl_IsBar_res := fun x => by kernel_rfl
theorem impl_IsBar_ok : impl_IsBar_C.Ok E0 := fn_ok (T := impl_IsBar_T) (h := impl_IsBar_H) (Ls := impl_IsBar_Ls) E0_mixed (T_cons ContainsFunc_int_impl_IsBar_1_ok T_nil) Try.func130 (bodyOf_some (by kernel_rfl)) (by kernel_rfl) (loops_of (ks := []) (by kernel_rfl) trivial) impl_IsBar_e
def impl_part_arg : Sh := ⟨[(0, .c (.int .i64)), (1, .c (.int .i64))], [], []⟩
def impl_part_res : List Sh := [⟨[(0, .c (.bool))], [], []⟩]
noncomputable def impl_part (a0 : Int) (a1 : Int) : Option ((Bool × Unit) × Unit × Unit) :=
 let x1 : Int := bAndNot .i64 a0 a1;
 let x2 : Bool := x1 == (0 : Int);
 some ((x2, ()), (), ())
noncomputable def impl_part_C : Ctr := ⟨99, impl_part_arg, impl_part_res, fun x => impl_part x.1.1 x.1.2.1, none⟩
def impl_part_H : Hint := ⟨[], [], [], fun _ => []⟩
noncomputable def impl_part_T : List Ctr := []
noncomputable def impl_part_Ls : List Lp := []
theorem impl_part_e : ∀ x, impl_part_C.F x = runBodyW E0 impl_part_T impl_part_Ls impl_part_H 99 Try.f99.results.toList (bodyOf Try.f99) [] (impl_part_arg.mk' x) impl_part_res := fun x => by kernel_rfl
theorem impl_part_ok : impl_part_C.Ok E0 := fn_ok (T := impl_part_T) (h := impl_part_H) (Ls := impl_part_Ls) E0_mixed T_nil Try.func99 (bodyOf_some (by kernel_rfl)) (by kernel_rfl) (loops_of (ks := []) (by kernel_rfl) trivial) impl_part_e
def impl_fall_arg : Sh := ⟨[(0, .c (.rd [] .i64)), (1, .c (.int .i64))], [], []⟩
def impl_fall_res : List Sh := [⟨[(0, .c (.int .i64))], [], []⟩]
noncomputable def impl_fall_s0 (x : (List Int × Int × List Int × Int × Int × Unit) × Unit × Unit) : Option (((List Int × Int × List Int × Int × Int × Unit) × Unit × Unit) ⊕ (((Int × Unit) × Unit × Unit) ⊕ ((List Int × Unit) × Unit × Unit))) :=
 let x1 : Bool := decide (x.1.2.2.2.2.1 < x.1.2.2.2.1);
 br x1
 (ck (0 ≤ x.1.2.2.2.2.1)
 (ck (x.1.2.2.2.2.1.toNat < x.1.2.2.1.length)
 (let x2 : Int := x.1.2.2.1.getD x.1.2.2.2.2.1.toNat 0;
 (impl_part x.1.2.1 x2).bind fun r3 =>
 br r3.1.1
 (some (.inr (.inl ((x.1.2.2.2.2.1, ()), (), ()))))
 (let x4 : Int := w64 (x.1.2.2.2.2.1 + (1 : Int));
 some (.inl ((x.1.1, x.1.2.1, x.1.2.2.1, x.1.2.2.2.1, x4, ()), (), ()))))))
 (some (.inr (.inr ((x.1.1, ()), (), ()))))
def impl_fall_h0 : Sh := ⟨[(0, .c (.rd [] .i64)), (1, .c (.int .i64)), (7, .c (.rd [] .i64)), (8, .c (.int .i64)), (9, .c (.int .i64))], [], []⟩
def impl_fall_r0 : List Sh := [⟨[(4, .c (.int .i64))], [], []⟩, ⟨[(0, .c (.rd [] .i64))], [], []⟩]
noncomputable def impl_fall_L0 : Lp := ⟨0, [], impl_fall_h0, [], [(.ret, []), (.exit 0, [])], impl_fall_r0, loopC impl_fall_s0⟩
noncomputable def impl_fall (a0 : List Int) (a1 : Int) : Option ((Int × Unit) × Unit × Unit) :=
 (loopC impl_fall_s0 ((a0, a1, a0, (a0.length : Int), (0 : Int), ()), (), ())).bind fun r5 =>
 sumK r5 (fun y8 =>
 some ((y8.1.1, ()), (), ())) (fun y9 =>
 some (((y9.1.1.length : Int), ()), (), ()))
noncomputable def impl_fall_C : Ctr := ⟨68, impl_fall_arg, impl_fall_res, fun x => impl_fall x.1.1 x.1.2.1, none⟩
def impl_fall_H : Hint := ⟨[], [], [], fun _ => []⟩
noncomputable def impl_fall_T : List Ctr := [impl_part_C]
noncomputable def impl_fall_Ls : List Lp := [impl_fall_L0]
theorem impl_fall_l0 : ∀ x, impl_fall_s0 x = stepW E0 impl_fall_T impl_fall_Ls impl_fall_H (loopAt (bodyOf Try.f68) 0) 0 impl_fall_h0 [] [(.ret, []), (.exit 0, [])] impl_fall_r0 x := fun x => by kernel_rfl
theorem impl_fall_e : ∀ x, impl_fall_C.F x = runBodyW E0 impl_fall_T impl_fall_Ls impl_fall_H 68 Try.f68.results.toList (bodyOf Try.f68) [] (impl_fall_arg.mk' x) impl_fall_res := fun x => by kernel_rfl
theorem impl_fall_ok : impl_fall_C.Ok E0 := fn_ok (T := impl_fall_T) (h := impl_fall_H) (Ls := impl_fall_Ls) E0_mixed (T_cons impl_part_ok T_nil) Try.func68 (bodyOf_some (by kernel_rfl)) (by kernel_rfl) (loops_of (ks := [0]) (by kernel_rfl) ⟨(loop_one (h := impl_fall_H) (own := []) (head := impl_fall_h0) (back := []) (exs := [(.ret, []), (.exit 0, [])]) (res := impl_fall_r0) (step := impl_fall_s0) (by kernel_rfl) impl_fall_l0), trivial⟩) impl_fall_e
def impl_SortsAll_arg : Sh := ⟨[(0, .c (.rd [] .i64))], [], []⟩
def impl_SortsAll_res : List Sh := [⟨[(0, .c (.bool))], [], []⟩]
noncomputable def impl_SortsAll_s0 (x : (List Int × List Int × Int × Int × Unit) × Unit × Unit) : Option (((List Int × List Int × Int × Int × Unit) × Unit × Unit) ⊕ (((Bool × Unit) × Unit × Unit) ⊕ (Unit × Unit × Unit))) :=
 let x2 : Bool := decide (x.1.2.2.2.1 < x.1.2.2.1);
 br x2
 (ck (0 ≤ x.1.2.2.2.1)
 (ck (x.1.2.2.2.1.toNat < x.1.2.1.length)
 (let x3 : Int := x.1.2.1.getD x.1.2.2.2.1.toNat 0;
 (impl_fall x.1.1 x3).bind fun r4 =>
 let x5 : Bool := r4.1.1 != x.1.2.2.2.1;
 br x5
 (some (.inr (.inl ((false, ()), (), ()))))
 (let x6 : Int := w64 (x.1.2.2.2.1 + (1 : Int));
 some (.inl ((x.1.1, x.1.2.1, x.1.2.2.1, x6, ()), (), ()))))))
 (some (.inr (.inr ((), (), ()))))
def impl_SortsAll_h0 : Sh := ⟨[(0, .c (.rd [] .i64)), (8, .c (.rd [] .i64)), (9, .c (.int .i64)), (10, .c (.int .i64))], [], []⟩
def impl_SortsAll_r0 : List Sh := [⟨[(2, .c (.bool))], [], []⟩, ⟨[], [], []⟩]
noncomputable def impl_SortsAll_L0 : Lp := ⟨0, [], impl_SortsAll_h0, [], [(.ret, []), (.exit 0, [])], impl_SortsAll_r0, loopC impl_SortsAll_s0⟩
noncomputable def impl_SortsAll (a0 : List Int) : Option ((Bool × Unit) × Unit × Unit) :=
 (impl_IsBar a0).bind fun r1 =>
 br (!r1.1.1)
 (some ((false, ()), (), ()))
 ((loopC impl_SortsAll_s0 ((a0, a0, (a0.length : Int), (0 : Int), ()), (), ())).bind fun r7 =>
 sumK r7 (fun y10 =>
 some ((y10.1.1, ()), (), ())) (fun y11 =>
 some ((true, ()), (), ())))
noncomputable def impl_SortsAll_C : Ctr := ⟨118, impl_SortsAll_arg, impl_SortsAll_res, fun x => impl_SortsAll x.1.1, none⟩
def impl_SortsAll_H : Hint := ⟨[], [], [], fun _ => []⟩
noncomputable def impl_SortsAll_T : List Ctr := [impl_IsBar_C, impl_fall_C]
noncomputable def impl_SortsAll_Ls : List Lp := [impl_SortsAll_L0]
theorem impl_SortsAll_l0 : ∀ x, impl_SortsAll_s0 x = stepW E0 impl_SortsAll_T impl_SortsAll_Ls impl_SortsAll_H (loopAt (bodyOf Try.f118) 0) 0 impl_SortsAll_h0 [] [(.ret, []), (.exit 0, [])] impl_SortsAll_r0 x := fun x => by kernel_rfl
theorem impl_SortsAll_e : ∀ x, impl_SortsAll_C.F x = runBodyW E0 impl_SortsAll_T impl_SortsAll_Ls impl_SortsAll_H 118 Try.f118.results.toList (bodyOf Try.f118) [] (impl_SortsAll_arg.mk' x) impl_SortsAll_res := fun x => by kernel_rfl
theorem impl_SortsAll_ok : impl_SortsAll_C.Ok E0 := fn_ok (T := impl_SortsAll_T) (h := impl_SortsAll_H) (Ls := impl_SortsAll_Ls) E0_mixed (T_cons impl_IsBar_ok (T_cons impl_fall_ok T_nil)) Try.func118 (bodyOf_some (by kernel_rfl)) (by kernel_rfl) (loops_of (ks := [0]) (by kernel_rfl) ⟨(loop_one (h := impl_SortsAll_H) (own := []) (head := impl_SortsAll_h0) (back := []) (exs := [(.ret, []), (.exit 0, [])]) (res := impl_SortsAll_r0) (step := impl_SortsAll_s0) (by kernel_rfl) impl_SortsAll_l0), trivial⟩) impl_SortsAll_e
def impl_FontOk_arg : Sh := ⟨[(0, .agg [.str, .rd [] .i64, .rd [] .i64])], [], []⟩
def impl_FontOk_res : List Sh := [⟨[(0, .c (.bool))], [], []⟩]
noncomputable def impl_FontOk_s0 (x : (Unit × Unit × Int × Int × Unit) × ((ByteArray × List Int × List Int × Unit) × List Bool × Unit) × Unit) : Option (((Unit × Unit × Int × Int × Unit) × ((ByteArray × List Int × List Int × Unit) × List Bool × Unit) × Unit) ⊕ (((Bool × Unit) × Unit × Unit) ⊕ ((Unit × Unit) × ((ByteArray × List Int × List Int × Unit) × Unit) × Unit))) :=
 let x5 : Bool := decide (x.1.2.2.2.1 < x.1.2.2.1);
 br x5
 (ck (0 ≤ x.1.2.2.2.1 ∧ x.1.2.2.2.1.toNat < x.2.1.1.1.size)
 (let x6 : Int := byteAt x.2.1.1.1 x.1.2.2.2.1.toNat;
 let x7 : Bool := decide (x6 < (33 : Int));
 br x7
 (some (.inr (.inl ((false, ()), (), ()))))
 (let x8 : Bool := decide (x6 > (126 : Int));
 br x8
 (some (.inr (.inl ((false, ()), (), ()))))
 (ck (0 ≤ x6)
 (ck (x6.toNat < 256)
 (ck (x6.toNat < x.2.1.2.1.length)
 (let x9 : Bool := x.2.1.2.1.getD x6.toNat false;
 br x9
 (some (.inr (.inl ((false, ()), (), ()))))
 (ck (0 ≤ x6)
 (ck (x6.toNat < 256)
 (ck (x6.toNat < x.2.1.2.1.length)
 (let x10 : List Bool := x.2.1.2.1.set x6.toNat true;
 let x11 : Int := w64 (x.1.2.2.2.1 + (1 : Int));
 some (.inl (((), (), x.1.2.2.1, x11, ()), ((x.2.1.1.1, x.2.1.1.2.1, x.2.1.1.2.2.1, ()), x10, ()), ())))))))))))))
 (some (.inr (.inr (((), ()), ((x.2.1.1.1, x.2.1.1.2.1, x.2.1.1.2.2.1, ()), ()), ()))))
def impl_FontOk_h0 : Sh := ⟨[(1, .c (.box 0 0)), (3, .c (.box 1 0)), (36, .c (.int .i64)), (37, .c (.int .i64))], [(0, .cells [.str, .rd [] .i64, .rd [] .i64]), (1, .arr)], []⟩
def impl_FontOk_r0 : List Sh := [⟨[(2, .c (.bool))], [], []⟩, ⟨[(1, .c (.box 0 0))], [(0, .cells [.str, .rd [] .i64, .rd [] .i64])], []⟩]
noncomputable def impl_FontOk_L0 : Lp := ⟨0, [], impl_FontOk_h0, [], [(.ret, []), (.exit 0, [])], impl_FontOk_r0, loopC impl_FontOk_s0⟩
noncomputable def impl_FontOk (a0_0 : ByteArray) (a0_1 : List Int) (a0_2 : List Int) : Option ((Bool × Unit) × Unit × Unit) :=
 let x1 : Bool := decide ((a0_0.size : Int) < (1 : Int));
 br x1
 (some ((false, ()), (), ()))
 (let x2 : Bool := decide ((a0_0.size : Int) > (40 : Int));
 br x2
 (some ((false, ()), (), ()))
 (let x3 : Bool := (a0_1.length : Int) != (a0_0.size : Int);
 br x3
 (some ((false, ()), (), ()))
 (let x4 : Bool := (a0_2.length : Int) != (a0_0.size : Int);
 br x4
 (some ((false, ()), (), ()))
 ((loopC impl_FontOk_s0 (((), (), (a0_0.size : Int), (0 : Int), ()), ((a0_0, a0_1, a0_2, ()), (List.replicate 256 false), ()), ())).bind fun r12 =>
 sumK r12 (fun y15 =>
 some ((y15.1.1, ()), (), ())) (fun y16 =>
 (impl_between y16.2.1.1.2.1 (1 : Int) (60 : Int)).bind fun r17 =>
 br r17.1.1
 ((impl_SortsAll y16.2.1.1.2.2.1).bind fun r18 =>
 some ((r18.1.1, ()), (), ()))
 (some ((false, ()), (), ())))))))
noncomputable def impl_FontOk_C : Ctr := ⟨89, impl_FontOk_arg, impl_FontOk_res, fun x => impl_FontOk x.1.1.1 x.1.1.2.1 x.1.1.2.2.1, none⟩
def impl_FontOk_H : Hint := ⟨[], [], [], fun _ => []⟩
noncomputable def impl_FontOk_T : List Ctr := [impl_between_C, impl_SortsAll_C]
noncomputable def impl_FontOk_Ls : List Lp := [impl_FontOk_L0]
theorem impl_FontOk_l0 : ∀ x, impl_FontOk_s0 x = stepW E0 impl_FontOk_T impl_FontOk_Ls impl_FontOk_H (loopAt (bodyOf Try.f89) 0) 0 impl_FontOk_h0 [] [(.ret, []), (.exit 0, [])] impl_FontOk_r0 x := fun x => by kernel_rfl
theorem impl_FontOk_e : ∀ x, impl_FontOk_C.F x = runBodyW E0 impl_FontOk_T impl_FontOk_Ls impl_FontOk_H 89 Try.f89.results.toList (bodyOf Try.f89) [] (impl_FontOk_arg.mk' x) impl_FontOk_res := fun x => by kernel_rfl
theorem impl_FontOk_ok : impl_FontOk_C.Ok E0 := fn_ok (T := impl_FontOk_T) (h := impl_FontOk_H) (Ls := impl_FontOk_Ls) E0_mixed (T_cons impl_between_ok (T_cons impl_SortsAll_ok T_nil)) Try.func89 (bodyOf_some (by kernel_rfl)) (by kernel_rfl) (loops_of (ks := [0]) (by kernel_rfl) ⟨(loop_one (h := impl_FontOk_H) (own := []) (head := impl_FontOk_h0) (back := []) (exs := [(.ret, []), (.exit 0, [])]) (res := impl_FontOk_r0) (step := impl_FontOk_s0) (by kernel_rfl) impl_FontOk_l0), trivial⟩) impl_FontOk_e
def impl_ofFont_arg : Sh := ⟨[(0, .agg [.str, .rd [] .i64, .rd [] .i64]), (1, .agg [.int .i64, .int .i64])], [], []⟩
def impl_ofFont_res : List Sh := [⟨[(0, .c (.bool))], [], []⟩]
noncomputable def impl_ofFont (a0_0 : ByteArray) (a0_1 : List Int) (a0_2 : List Int) (a1_0 : Int) (a1_1 : Int) : Option ((Bool × Unit) × Unit × Unit) :=
 let x1 : Bool := decide (a1_0 ≥ (0 : Int));
 br x1
 (let x2 : Bool := decide (a1_0 < (a0_0.size : Int));
 br x2
 ((impl_isSet a1_1).bind fun r3 =>
 br r3.1.1
 (ck (0 ≤ a1_0)
 (ck (a1_0.toNat < a0_2.length)
 (let x4 : Int := a0_2.getD a1_0.toNat 0;
 (impl_part a1_1 x4).bind fun r5 =>
 some ((r5.1.1, ()), (), ()))))
 (some ((false, ()), (), ())))
 (some ((false, ()), (), ())))
 (some ((false, ()), (), ()))
noncomputable def impl_ofFont_C : Ctr := ⟨67, impl_ofFont_arg, impl_ofFont_res, fun x => impl_ofFont x.1.1.1 x.1.1.2.1 x.1.1.2.2.1 x.1.2.1.1 x.1.2.1.2.1, none⟩
def impl_ofFont_H : Hint := ⟨[], [], [], fun _ => []⟩
noncomputable def impl_ofFont_T : List Ctr := [impl_isSet_C, impl_part_C]
noncomputable def impl_ofFont_Ls : List Lp := []
theorem impl_ofFont_e : ∀ x, impl_ofFont_C.F x = runBodyW E0 impl_ofFont_T impl_ofFont_Ls impl_ofFont_H 67 Try.f67.results.toList (bodyOf Try.f67) [] (impl_ofFont_arg.mk' x) impl_ofFont_res := fun x => by kernel_rfl
theorem impl_ofFont_ok : impl_ofFont_C.Ok E0 := fn_ok (T := impl_ofFont_T) (h := impl_ofFont_H) (Ls := impl_ofFont_Ls) E0_mixed (T_cons impl_isSet_ok (T_cons impl_part_ok T_nil)) Try.func67 (bodyOf_some (by kernel_rfl)) (by kernel_rfl) (loops_of (ks := []) (by kernel_rfl) trivial) impl_ofFont_e
def impl_allOf_1_arg : Sh := ⟨[(0, .agg [.int .i64, .int .i64]), (1, .c (.rad [] [.str, .s .i64, .s .i64]))], [], []⟩
def impl_allOf_1_res : List Sh := [⟨[(0, .c (.bool))], [], []⟩]
noncomputable def impl_allOf_1 (a0_0 : Int) (a0_1 : Int) (a1_0 : ByteArray) (a1_1 : List Int) (a1_2 : List Int) : Option ((Bool × Unit) × Unit × Unit) :=
 (impl_ofFont a1_0 a1_1 a1_2 a0_0 a0_1).bind fun r1 =>
 some ((!r1.1.1, ()), (), ())
noncomputable def impl_allOf_1_C : Ctr := ⟨101, impl_allOf_1_arg, impl_allOf_1_res, fun x => impl_allOf_1 x.1.1.1 x.1.1.2.1 x.1.2.1.1 x.1.2.1.2.1 x.1.2.1.2.2.1, none⟩
def impl_allOf_1_H : Hint := ⟨[], [], [], fun _ => []⟩
noncomputable def impl_allOf_1_T : List Ctr := [impl_ofFont_C]
noncomputable def impl_allOf_1_Ls : List Lp := []
theorem impl_allOf_1_e : ∀ x, impl_allOf_1_C.F x = runBodyW E0 impl_allOf_1_T impl_allOf_1_Ls impl_allOf_1_H 101 Try.f101.results.toList (bodyOf Try.f101) [] (impl_allOf_1_arg.mk' x) impl_allOf_1_res := fun x => by kernel_rfl
theorem impl_allOf_1_ok : impl_allOf_1_C.Ok E0 := fn_ok (T := impl_allOf_1_T) (h := impl_allOf_1_H) (Ls := impl_allOf_1_Ls) E0_mixed (T_cons impl_ofFont_ok T_nil) Try.func101 (bodyOf_some (by kernel_rfl)) (by kernel_rfl) (loops_of (ks := []) (by kernel_rfl) trivial) impl_allOf_1_e
def IndexFunc_Matrix_impl_allOf_1_arg : Sh := ⟨[(0, .c (.rd [] .mat)), (1, .c (.fnr 101 [[.str, .s .i64, .s .i64]]))], [], []⟩
def IndexFunc_Matrix_impl_allOf_1_res : List Sh := [⟨[(0, .c (.int .i64))], [], []⟩]
noncomputable def IndexFunc_Matrix_impl_allOf_1_s0 (x : (List (Int × Int) × ((ByteArray × List Int × List Int × Unit) × Unit) × Int × Int × Unit) × Unit × Unit) : Option (((List (Int × Int) × ((ByteArray × List Int × List Int × Unit) × Unit) × Int × Int × Unit) × Unit × Unit) ⊕ (((Int × Unit) × Unit × Unit) ⊕ (Unit × Unit × Unit))) :=
 let x1 : Bool := decide (x.1.2.2.2.1 < x.1.2.2.1);
 br x1
 (ck (0 ≤ x.1.2.2.2.1)
 (ck (x.1.2.2.2.1.toNat < x.1.1.length)
 (let x2 : Int × Int := x.1.1.getD x.1.2.2.2.1.toNat (0, 0);
 (impl_allOf_1 x2.1 x2.2 x.1.2.1.1.1 x.1.2.1.1.2.1 x.1.2.1.1.2.2.1).bind fun r3 =>
 br r3.1.1
 (some (.inr (.inl ((x.1.2.2.2.1, ()), (), ()))))
 (let x4 : Int := w64 (x.1.2.2.2.1 + (1 : Int));
 some (.inl ((x.1.1, ((x.1.2.1.1.1, x.1.2.1.1.2.1, x.1.2.1.1.2.2.1, ()), ()), x.1.2.2.1, x4, ()), (), ()))))))
 (some (.inr (.inr ((), (), ()))))
def IndexFunc_Matrix_impl_allOf_1_h0 : Sh := ⟨[(0, .c (.rd [] .mat)), (1, .c (.fnr 101 [[.str, .s .i64, .s .i64]])), (7, .c (.int .i64)), (8, .c (.int .i64))], [], []⟩
def IndexFunc_Matrix_impl_allOf_1_r0 : List Sh := [⟨[(4, .c (.int .i64))], [], []⟩, ⟨[], [], []⟩]
noncomputable def IndexFunc_Matrix_impl_allOf_1_L0 : Lp := ⟨0, [], IndexFunc_Matrix_impl_allOf_1_h0, [], [(.ret, []), (.exit 0, [])], IndexFunc_Matrix_impl_allOf_1_r0, loopC IndexFunc_Matrix_impl_allOf_1_s0⟩
noncomputable def IndexFunc_Matrix_impl_allOf_1 (a0 : List (Int × Int)) (a1_0_0 : ByteArray) (a1_0_1 : List Int) (a1_0_2 : List Int) : Option ((Int × Unit) × Unit × Unit) :=
 (loopC IndexFunc_Matrix_impl_allOf_1_s0 ((a0, ((a1_0_0, a1_0_1, a1_0_2, ()), ()), (a0.length : Int), (0 : Int), ()), (), ())).bind fun r5 =>
 sumK r5 (fun y8 =>
 some ((y8.1.1, ()), (), ())) (fun y9 =>
 some (((-1 : Int), ()), (), ()))
noncomputable def IndexFunc_Matrix_impl_allOf_1_C : Ctr := ⟨102, IndexFunc_Matrix_impl_allOf_1_arg, IndexFunc_Matrix_impl_allOf_1_res, fun x => IndexFunc_Matrix_impl_allOf_1 x.1.1 x.1.2.1.1.1 x.1.2.1.1.2.1 x.1.2.1.1.2.2.1, none⟩
def IndexFunc_Matrix_impl_allOf_1_H : Hint := ⟨[], [], [], fun _ => []⟩
noncomputable def IndexFunc_Matrix_impl_allOf_1_T : List Ctr := [impl_allOf_1_C]
noncomputable def IndexFunc_Matrix_impl_allOf_1_Ls : List Lp := [IndexFunc_Matrix_impl_allOf_1_L0]
theorem IndexFunc_Matrix_impl_allOf_1_l0 : ∀ x, IndexFunc_Matrix_impl_allOf_1_s0 x = stepW E0 IndexFunc_Matrix_impl_allOf_1_T IndexFunc_Matrix_impl_allOf_1_Ls IndexFunc_Matrix_impl_allOf_1_H (loopAt (bodyOf Try.f102) 0) 0 IndexFunc_Matrix_impl_allOf_1_h0 [] [(.ret, []), (.exit 0, [])] IndexFunc_Matrix_impl_allOf_1_r0 x := fun x => by kernel_rfl
theorem IndexFunc_Matrix_impl_allOf_1_e : ∀ x, IndexFunc_Matrix_impl_allOf_1_C.F x = runBodyW E0 IndexFunc_Matrix_impl_allOf_1_T IndexFunc_Matrix_impl_allOf_1_Ls IndexFunc_Matrix_impl_allOf_1_H 102 Try.f102.results.toList (bodyOf Try.f102) [] (IndexFunc_Matrix_impl_allOf_1_arg.mk' x) IndexFunc_Matrix_impl_allOf_1_res := fun x => by kernel_rfl
theorem IndexFunc_Matrix_impl_allOf_1_ok : IndexFunc_Matrix_impl_allOf_1_C.Ok E0 := fn_ok (T := IndexFunc_Matrix_impl_allOf_1_T) (h := IndexFunc_Matrix_impl_allOf_1_H) (Ls := IndexFunc_Matrix_impl_allOf_1_Ls) E0_mixed (T_cons impl_allOf_1_ok T_nil) Try.func102 (bodyOf_some (by kernel_rfl)) (by kernel_rfl) (loops_of (ks := [0]) (by kernel_rfl) ⟨(loop_one (h := IndexFunc_Matrix_impl_allOf_1_H) (own := []) (head := IndexFunc_Matrix_impl_allOf_1_h0) (back := []) (exs := [(.ret, []), (.exit 0, [])]) (res := IndexFunc_Matrix_impl_allOf_1_r0) (step := IndexFunc_Matrix_impl_allOf_1_s0) (by kernel_rfl) IndexFunc_Matrix_impl_allOf_1_l0), trivial⟩) IndexFunc_Matrix_impl_allOf_1_e
def ContainsFunc_Matrix_impl_allOf_1_arg : Sh := ⟨[(0, .c (.rd [] .mat)), (1, .c (.fnr 101 [[.str, .s .i64, .s .i64]]))], [], []⟩
def ContainsFunc_Matrix_impl_allOf_1_res : List Sh := [⟨[(0, .c (.bool))], [], []⟩]
noncomputable def ContainsFunc_Matrix_impl_allOf_1 (a0 : List (Int × Int)) (a1_0_0 : ByteArray) (a1_0_1 : List Int) (a1_0_2 : List Int) : Option ((Bool × Unit) × Unit × Unit) :=
 (IndexFunc_Matrix_impl_allOf_1 a0 a1_0_0 a1_0_1 a1_0_2).bind fun r1 =>
 let x2 : Bool := decide (r1.1.1 ≥ (0 : Int));
 some ((x2, ()), (), ())
noncomputable def ContainsFunc_Matrix_impl_allOf_1_C : Ctr := ⟨72, ContainsFunc_Matrix_impl_allOf_1_arg, ContainsFunc_Matrix_impl_allOf_1_res, fun x => ContainsFunc_Matrix_impl_allOf_1 x.1.1 x.1.2.1.1.1 x.1.2.1.1.2.1 x.1.2.1.1.2.2.1, none⟩
def ContainsFunc_Matrix_impl_allOf_1_H : Hint := ⟨[], [], [], fun _ => []⟩
noncomputable def ContainsFunc_Matrix_impl_allOf_1_T : List Ctr := [IndexFunc_Matrix_impl_allOf_1_C]
noncomputable def ContainsFunc_Matrix_impl_allOf_1_Ls : List Lp := []
theorem ContainsFunc_Matrix_impl_allOf_1_e : ∀ x, ContainsFunc_Matrix_impl_allOf_1_C.F x = runBodyW E0 ContainsFunc_Matrix_impl_allOf_1_T ContainsFunc_Matrix_impl_allOf_1_Ls ContainsFunc_Matrix_impl_allOf_1_H 72 Try.f72.results.toList (bodyOf Try.f72) [] (ContainsFunc_Matrix_impl_allOf_1_arg.mk' x) ContainsFunc_Matrix_impl_allOf_1_res := fun x => by kernel_rfl
theorem ContainsFunc_Matrix_impl_allOf_1_ok : ContainsFunc_Matrix_impl_allOf_1_C.Ok E0 := fn_ok (T := ContainsFunc_Matrix_impl_allOf_1_T) (h := ContainsFunc_Matrix_impl_allOf_1_H) (Ls := ContainsFunc_Matrix_impl_allOf_1_Ls) E0_mixed (T_cons IndexFunc_Matrix_impl_allOf_1_ok T_nil) Try.func72 (bodyOf_some (by kernel_rfl)) (by kernel_rfl) (loops_of (ks := []) (by kernel_rfl) trivial) ContainsFunc_Matrix_impl_allOf_1_e
def impl_allOf_arg : Sh := ⟨[(0, .agg [.str, .rd [] .i64, .rd [] .i64]), (1, .c (.rd [] .mat))], [], []⟩
def impl_allOf_res : List Sh := [⟨[(0, .c (.bool))], [], []⟩]
noncomputable def impl_allOf (a0_0 : ByteArray) (a0_1 : List Int) (a0_2 : List Int) (a1 : List (Int × Int)) : Option ((Bool × Unit) × Unit × Unit) :=
 (ContainsFunc_Matrix_impl_allOf_1 a1 a0_0 a0_1 a0_2).bind fun r1 =>
 some ((!r1.1.1, ()), (), ())
noncomputable def impl_allOf_C : Ctr := ⟨71, impl_allOf_arg, impl_allOf_res, fun x => impl_allOf x.1.1.1 x.1.1.2.1 x.1.1.2.2.1 x.1.2.1, none⟩
def impl_allOf_H : Hint := ⟨[], [], [], fun _ => []⟩
noncomputable def impl_allOf_T : List Ctr := [ContainsFunc_Matrix_impl_allOf_1_C]
noncomputable def impl_allOf_Ls : List Lp := []
theorem impl_allOf_e : ∀ x, impl_allOf_C.F x = runBodyW E0 impl_allOf_T impl_allOf_Ls impl_allOf_H 71 Try.f71.results.toList (bodyOf Try.f71) [] (impl_allOf_arg.mk' x) impl_allOf_res := fun x => by kernel_rfl
theorem impl_allOf_ok : impl_allOf_C.Ok E0 := fn_ok (T := impl_allOf_T) (h := impl_allOf_H) (Ls := impl_allOf_Ls) E0_mixed (T_cons ContainsFunc_Matrix_impl_allOf_1_ok T_nil) Try.func71 (bodyOf_some (by kernel_rfl)) (by kernel_rfl) (loops_of (ks := []) (by kernel_rfl) trivial) impl_allOf_e
def impl_MagazineOk_arg : Sh := ⟨[(0, .agg [.str, .rd [] .i64, .rd [] .i64]), (1, .c (.rd [] .mats))], [], []⟩
def impl_MagazineOk_res : List Sh := [⟨[(0, .c (.bool))], [], []⟩]
noncomputable def impl_MagazineOk_s0 (x : (Unit × List (List (Int × Int)) × Int × Int × Unit) × ((ByteArray × List Int × List Int × Unit) × Unit) × Unit) : Option (((Unit × List (List (Int × Int)) × Int × Int × Unit) × ((ByteArray × List Int × List Int × Unit) × Unit) × Unit) ⊕ (((Bool × Unit) × Unit × Unit) ⊕ (Unit × Unit × Unit))) :=
 let x3 : Bool := decide (x.1.2.2.2.1 < x.1.2.2.1);
 br x3
 (ck (0 ≤ x.1.2.2.2.1)
 (ck (x.1.2.2.2.1.toNat < x.1.2.1.length)
 (let x4 : List (Int × Int) := x.1.2.1.getD x.1.2.2.2.1.toNat [];
 let x5 : Bool := decide ((x4.length : Int) > (20 : Int));
 br x5
 (some (.inr (.inl ((false, ()), (), ()))))
 ((impl_allOf x.2.1.1.1 x.2.1.1.2.1 x.2.1.1.2.2.1 x4).bind fun r6 =>
 br (!r6.1.1)
 (some (.inr (.inl ((false, ()), (), ()))))
 (let x7 : Int := w64 (x.1.2.2.2.1 + (1 : Int));
 some (.inl (((), x.1.2.1, x.1.2.2.1, x7, ()), ((x.2.1.1.1, x.2.1.1.2.1, x.2.1.1.2.2.1, ()), ()), ())))))))
 (some (.inr (.inr ((), (), ()))))
def impl_MagazineOk_h0 : Sh := ⟨[(2, .c (.box 0 0)), (18, .c (.rd [] .mats)), (19, .c (.int .i64)), (20, .c (.int .i64))], [(0, .cells [.str, .rd [] .i64, .rd [] .i64])], []⟩
def impl_MagazineOk_r0 : List Sh := [⟨[(4, .c (.bool))], [], []⟩, ⟨[], [], []⟩]
noncomputable def impl_MagazineOk_L0 : Lp := ⟨0, [], impl_MagazineOk_h0, [], [(.ret, []), (.exit 0, [])], impl_MagazineOk_r0, loopC impl_MagazineOk_s0⟩
noncomputable def impl_MagazineOk (a0_0 : ByteArray) (a0_1 : List Int) (a0_2 : List Int) (a1 : List (List (Int × Int))) : Option ((Bool × Unit) × Unit × Unit) :=
 (impl_FontOk a0_0 a0_1 a0_2).bind fun r1 =>
 br (!r1.1.1)
 (some ((false, ()), (), ()))
 (let x2 : Bool := (a1.length : Int) != (a0_0.size : Int);
 br x2
 (some ((false, ()), (), ()))
 ((loopC impl_MagazineOk_s0 (((), a1, (a1.length : Int), (0 : Int), ()), ((a0_0, a0_1, a0_2, ()), ()), ())).bind fun r8 =>
 sumK r8 (fun y11 =>
 some ((y11.1.1, ()), (), ())) (fun y12 =>
 some ((true, ()), (), ()))))
noncomputable def impl_MagazineOk_C : Ctr := ⟨66, impl_MagazineOk_arg, impl_MagazineOk_res, fun x => impl_MagazineOk x.1.1.1 x.1.1.2.1 x.1.1.2.2.1 x.1.2.1, none⟩
def impl_MagazineOk_H : Hint := ⟨[], [], [], fun _ => []⟩
noncomputable def impl_MagazineOk_T : List Ctr := [impl_FontOk_C, impl_allOf_C]
noncomputable def impl_MagazineOk_Ls : List Lp := [impl_MagazineOk_L0]
theorem impl_MagazineOk_l0 : ∀ x, impl_MagazineOk_s0 x = stepW E0 impl_MagazineOk_T impl_MagazineOk_Ls impl_MagazineOk_H (loopAt (bodyOf Try.f66) 0) 0 impl_MagazineOk_h0 [] [(.ret, []), (.exit 0, [])] impl_MagazineOk_r0 x := fun x => by kernel_rfl
theorem impl_MagazineOk_e : ∀ x, impl_MagazineOk_C.F x = runBodyW E0 impl_MagazineOk_T impl_MagazineOk_Ls impl_MagazineOk_H 66 Try.f66.results.toList (bodyOf Try.f66) [] (impl_MagazineOk_arg.mk' x) impl_MagazineOk_res := fun x => by kernel_rfl
theorem impl_MagazineOk_ok : impl_MagazineOk_C.Ok E0 := fn_ok (T := impl_MagazineOk_T) (h := impl_MagazineOk_H) (Ls := impl_MagazineOk_Ls) E0_mixed (T_cons impl_FontOk_ok (T_cons impl_allOf_ok T_nil)) Try.func66 (bodyOf_some (by kernel_rfl)) (by kernel_rfl) (loops_of (ks := [0]) (by kernel_rfl) ⟨(loop_one (h := impl_MagazineOk_H) (own := []) (head := impl_MagazineOk_h0) (back := []) (exs := [(.ret, []), (.exit 0, [])]) (res := impl_MagazineOk_r0) (step := impl_MagazineOk_s0) (by kernel_rfl) impl_MagazineOk_l0), trivial⟩) impl_MagazineOk_e
def impl_isBand_arg : Sh := ⟨[(0, .agg [.int .i64, .int .i64])], [], []⟩
def impl_isBand_res : List Sh := [⟨[(0, .c (.bool))], [], []⟩]
noncomputable def impl_isBand (a0_0 : Int) (a0_1 : Int) : Option ((Bool × Unit) × Unit × Unit) :=
 let x1 : Bool := eqInts [a0_0, a0_1] [(-1 : Int), (0 : Int)];
 some ((x1, ()), (), ())
noncomputable def impl_isBand_C : Ctr := ⟨54, impl_isBand_arg, impl_isBand_res, fun x => impl_isBand x.1.1.1 x.1.1.2.1, none⟩
def impl_isBand_H : Hint := ⟨[], [], [], fun _ => []⟩
noncomputable def impl_isBand_T : List Ctr := []
noncomputable def impl_isBand_Ls : List Lp := []
theorem impl_isBand_e : ∀ x, impl_isBand_C.F x = runBodyW E0 impl_isBand_T impl_isBand_Ls impl_isBand_H 54 Try.f54.results.toList (bodyOf Try.f54) [] (impl_isBand_arg.mk' x) impl_isBand_res := fun x => by kernel_rfl
theorem impl_isBand_ok : impl_isBand_C.Ok E0 := fn_ok (T := impl_isBand_T) (h := impl_isBand_H) (Ls := impl_isBand_Ls) E0_mixed T_nil Try.func54 (bodyOf_some (by kernel_rfl)) (by kernel_rfl) (loops_of (ks := []) (by kernel_rfl) trivial) impl_isBand_e
def impl_MachineOk_1_arg : Sh := ⟨[(0, .agg [.int .i64, .int .i64]), (1, .c (.rad [] [.str, .s .i64, .s .i64, .u, .int .i64, .int .i64, .int .i64, .int .i64, .s .mat, .s .mat]))], [], []⟩
def impl_MachineOk_1_res : List Sh := [⟨[(0, .c (.bool))], [], []⟩]
noncomputable def impl_MachineOk_1 (a0_0 : Int) (a0_1 : Int) (a1_0 : ByteArray) (a1_1 : List Int) (a1_2 : List Int) (a1_4 : Int) (a1_5 : Int) (a1_6 : Int) (a1_7 : Int) (a1_8 : List (Int × Int)) (a1_9 : List (Int × Int)) : Option ((Bool × Unit) × Unit × Unit) :=
 (impl_isBand a0_0 a0_1).bind fun r1 =>
 br (!r1.1.1)
 ((impl_ofFont a1_0 a1_1 a1_2 a0_0 a0_1).bind fun r2 =>
 some ((!r2.1.1, ()), (), ()))
 (some ((false, ()), (), ()))
noncomputable def impl_MachineOk_1_C : Ctr := ⟨73, impl_MachineOk_1_arg, impl_MachineOk_1_res, fun x => impl_MachineOk_1 x.1.1.1 x.1.1.2.1 x.1.2.1.1 x.1.2.1.2.1 x.1.2.1.2.2.1 x.1.2.1.2.2.2.2.1 x.1.2.1.2.2.2.2.2.1 x.1.2.1.2.2.2.2.2.2.1 x.1.2.1.2.2.2.2.2.2.2.1 x.1.2.1.2.2.2.2.2.2.2.2.1 x.1.2.1.2.2.2.2.2.2.2.2.2.1, none⟩
def impl_MachineOk_1_H : Hint := ⟨[], [], [], fun _ => []⟩
noncomputable def impl_MachineOk_1_T : List Ctr := [impl_isBand_C, impl_ofFont_C]
noncomputable def impl_MachineOk_1_Ls : List Lp := []
theorem impl_MachineOk_1_e : ∀ x, impl_MachineOk_1_C.F x = runBodyW E0 impl_MachineOk_1_T impl_MachineOk_1_Ls impl_MachineOk_1_H 73 Try.f73.results.toList (bodyOf Try.f73) [] (impl_MachineOk_1_arg.mk' x) impl_MachineOk_1_res := fun x => by kernel_rfl
theorem impl_MachineOk_1_ok : impl_MachineOk_1_C.Ok E0 := fn_ok (T := impl_MachineOk_1_T) (h := impl_MachineOk_1_H) (Ls := impl_MachineOk_1_Ls) E0_mixed (T_cons impl_isBand_ok (T_cons impl_ofFont_ok T_nil)) Try.func73 (bodyOf_some (by kernel_rfl)) (by kernel_rfl) (loops_of (ks := []) (by kernel_rfl) trivial) impl_MachineOk_1_e
def IndexFunc_Matrix_impl_MachineOk_1_arg : Sh := ⟨[(0, .c (.rd [] .mat)), (1, .c (.fnr 73 [[.str, .s .i64, .s .i64, .u, .int .i64, .int .i64, .int .i64, .int .i64, .s .mat, .s .mat]]))], [], []⟩
def IndexFunc_Matrix_impl_MachineOk_1_res : List Sh := [⟨[(0, .c (.int .i64))], [], []⟩]
noncomputable def IndexFunc_Matrix_impl_MachineOk_1_s0 (x : (List (Int × Int) × ((ByteArray × List Int × List Int × Unit × Int × Int × Int × Int × List (Int × Int) × List (Int × Int) × Unit) × Unit) × Int × Int × Unit) × Unit × Unit) : Option (((List (Int × Int) × ((ByteArray × List Int × List Int × Unit × Int × Int × Int × Int × List (Int × Int) × List (Int × Int) × Unit) × Unit) × Int × Int × Unit) × Unit × Unit) ⊕ (((Int × Unit) × Unit × Unit) ⊕ (Unit × Unit × Unit))) :=
 let x1 : Bool := decide (x.1.2.2.2.1 < x.1.2.2.1);
 br x1
 (ck (0 ≤ x.1.2.2.2.1)
 (ck (x.1.2.2.2.1.toNat < x.1.1.length)
 (let x2 : Int × Int := x.1.1.getD x.1.2.2.2.1.toNat (0, 0);
 (impl_MachineOk_1 x2.1 x2.2 x.1.2.1.1.1 x.1.2.1.1.2.1 x.1.2.1.1.2.2.1 x.1.2.1.1.2.2.2.2.1 x.1.2.1.1.2.2.2.2.2.1 x.1.2.1.1.2.2.2.2.2.2.1 x.1.2.1.1.2.2.2.2.2.2.2.1 x.1.2.1.1.2.2.2.2.2.2.2.2.1 x.1.2.1.1.2.2.2.2.2.2.2.2.2.1).bind fun r3 =>
 br r3.1.1
 (some (.inr (.inl ((x.1.2.2.2.1, ()), (), ()))))
 (let x4 : Int := w64 (x.1.2.2.2.1 + (1 : Int));
 some (.inl ((x.1.1, ((x.1.2.1.1.1, x.1.2.1.1.2.1, x.1.2.1.1.2.2.1, (), x.1.2.1.1.2.2.2.2.1, x.1.2.1.1.2.2.2.2.2.1, x.1.2.1.1.2.2.2.2.2.2.1, x.1.2.1.1.2.2.2.2.2.2.2.1, x.1.2.1.1.2.2.2.2.2.2.2.2.1, x.1.2.1.1.2.2.2.2.2.2.2.2.2.1, ()), ()), x.1.2.2.1, x4, ()), (), ()))))))
 (some (.inr (.inr ((), (), ()))))
def IndexFunc_Matrix_impl_MachineOk_1_h0 : Sh := ⟨[(0, .c (.rd [] .mat)), (1, .c (.fnr 73 [[.str, .s .i64, .s .i64, .u, .int .i64, .int .i64, .int .i64, .int .i64, .s .mat, .s .mat]])), (7, .c (.int .i64)), (8, .c (.int .i64))], [], []⟩
def IndexFunc_Matrix_impl_MachineOk_1_r0 : List Sh := [⟨[(4, .c (.int .i64))], [], []⟩, ⟨[], [], []⟩]
noncomputable def IndexFunc_Matrix_impl_MachineOk_1_L0 : Lp := ⟨0, [], IndexFunc_Matrix_impl_MachineOk_1_h0, [], [(.ret, []), (.exit 0, [])], IndexFunc_Matrix_impl_MachineOk_1_r0, loopC IndexFunc_Matrix_impl_MachineOk_1_s0⟩
noncomputable def IndexFunc_Matrix_impl_MachineOk_1 (a0 : List (Int × Int)) (a1_0_0 : ByteArray) (a1_0_1 : List Int) (a1_0_2 : List Int) (a1_0_4 : Int) (a1_0_5 : Int) (a1_0_6 : Int) (a1_0_7 : Int) (a1_0_8 : List (Int × Int)) (a1_0_9 : List (Int × Int)) : Option ((Int × Unit) × Unit × Unit) :=
 (loopC IndexFunc_Matrix_impl_MachineOk_1_s0 ((a0, ((a1_0_0, a1_0_1, a1_0_2, (), a1_0_4, a1_0_5, a1_0_6, a1_0_7, a1_0_8, a1_0_9, ()), ()), (a0.length : Int), (0 : Int), ()), (), ())).bind fun r5 =>
 sumK r5 (fun y8 =>
 some ((y8.1.1, ()), (), ())) (fun y9 =>
 some (((-1 : Int), ()), (), ()))
noncomputable def IndexFunc_Matrix_impl_MachineOk_1_C : Ctr := ⟨102, IndexFunc_Matrix_impl_MachineOk_1_arg, IndexFunc_Matrix_impl_MachineOk_1_res, fun x => IndexFunc_Matrix_impl_MachineOk_1 x.1.1 x.1.2.1.1.1 x.1.2.1.1.2.1 x.1.2.1.1.2.2.1 x.1.2.1.1.2.2.2.2.1 x.1.2.1.1.2.2.2.2.2.1 x.1.2.1.1.2.2.2.2.2.2.1 x.1.2.1.1.2.2.2.2.2.2.2.1 x.1.2.1.1.2.2.2.2.2.2.2.2.1 x.1.2.1.1.2.2.2.2.2.2.2.2.2.1, none⟩
def IndexFunc_Matrix_impl_MachineOk_1_H : Hint := ⟨[], [], [], fun _ => []⟩
noncomputable def IndexFunc_Matrix_impl_MachineOk_1_T : List Ctr := [impl_MachineOk_1_C]
noncomputable def IndexFunc_Matrix_impl_MachineOk_1_Ls : List Lp := [IndexFunc_Matrix_impl_MachineOk_1_L0]
theorem IndexFunc_Matrix_impl_MachineOk_1_l0 : ∀ x, IndexFunc_Matrix_impl_MachineOk_1_s0 x = stepW E0 IndexFunc_Matrix_impl_MachineOk_1_T IndexFunc_Matrix_impl_MachineOk_1_Ls IndexFunc_Matrix_impl_MachineOk_1_H (loopAt (bodyOf Try.f102) 0) 0 IndexFunc_Matrix_impl_MachineOk_1_h0 [] [(.ret, []), (.exit 0, [])] IndexFunc_Matrix_impl_MachineOk_1_r0 x := fun x => by kernel_rfl
theorem IndexFunc_Matrix_impl_MachineOk_1_e : ∀ x, IndexFunc_Matrix_impl_MachineOk_1_C.F x = runBodyW E0 IndexFunc_Matrix_impl_MachineOk_1_T IndexFunc_Matrix_impl_MachineOk_1_Ls IndexFunc_Matrix_impl_MachineOk_1_H 102 Try.f102.results.toList (bodyOf Try.f102) [] (IndexFunc_Matrix_impl_MachineOk_1_arg.mk' x) IndexFunc_Matrix_impl_MachineOk_1_res := fun x => by kernel_rfl
theorem IndexFunc_Matrix_impl_MachineOk_1_ok : IndexFunc_Matrix_impl_MachineOk_1_C.Ok E0 := fn_ok (T := IndexFunc_Matrix_impl_MachineOk_1_T) (h := IndexFunc_Matrix_impl_MachineOk_1_H) (Ls := IndexFunc_Matrix_impl_MachineOk_1_Ls) E0_mixed (T_cons impl_MachineOk_1_ok T_nil) Try.func102 (bodyOf_some (by kernel_rfl)) (by kernel_rfl) (loops_of (ks := [0]) (by kernel_rfl) ⟨(loop_one (h := IndexFunc_Matrix_impl_MachineOk_1_H) (own := []) (head := IndexFunc_Matrix_impl_MachineOk_1_h0) (back := []) (exs := [(.ret, []), (.exit 0, [])]) (res := IndexFunc_Matrix_impl_MachineOk_1_r0) (step := IndexFunc_Matrix_impl_MachineOk_1_s0) (by kernel_rfl) IndexFunc_Matrix_impl_MachineOk_1_l0), trivial⟩) IndexFunc_Matrix_impl_MachineOk_1_e
def ContainsFunc_Matrix_impl_MachineOk_1_arg : Sh := ⟨[(0, .c (.rd [] .mat)), (1, .c (.fnr 73 [[.str, .s .i64, .s .i64, .u, .int .i64, .int .i64, .int .i64, .int .i64, .s .mat, .s .mat]]))], [], []⟩
def ContainsFunc_Matrix_impl_MachineOk_1_res : List Sh := [⟨[(0, .c (.bool))], [], []⟩]
noncomputable def ContainsFunc_Matrix_impl_MachineOk_1 (a0 : List (Int × Int)) (a1_0_0 : ByteArray) (a1_0_1 : List Int) (a1_0_2 : List Int) (a1_0_4 : Int) (a1_0_5 : Int) (a1_0_6 : Int) (a1_0_7 : Int) (a1_0_8 : List (Int × Int)) (a1_0_9 : List (Int × Int)) : Option ((Bool × Unit) × Unit × Unit) :=
 (IndexFunc_Matrix_impl_MachineOk_1 a0 a1_0_0 a1_0_1 a1_0_2 a1_0_4 a1_0_5 a1_0_6 a1_0_7 a1_0_8 a1_0_9).bind fun r1 =>
 let x2 : Bool := decide (r1.1.1 ≥ (0 : Int));
 some ((x2, ()), (), ())
noncomputable def ContainsFunc_Matrix_impl_MachineOk_1_C : Ctr := ⟨72, ContainsFunc_Matrix_impl_MachineOk_1_arg, ContainsFunc_Matrix_impl_MachineOk_1_res, fun x => ContainsFunc_Matrix_impl_MachineOk_1 x.1.1 x.1.2.1.1.1 x.1.2.1.1.2.1 x.1.2.1.1.2.2.1 x.1.2.1.1.2.2.2.2.1 x.1.2.1.1.2.2.2.2.2.1 x.1.2.1.1.2.2.2.2.2.2.1 x.1.2.1.1.2.2.2.2.2.2.2.1 x.1.2.1.1.2.2.2.2.2.2.2.2.1 x.1.2.1.1.2.2.2.2.2.2.2.2.2.1, none⟩
def ContainsFunc_Matrix_impl_MachineOk_1_H : Hint := ⟨[], [], [], fun _ => []⟩
noncomputable def ContainsFunc_Matrix_impl_MachineOk_1_T : List Ctr := [IndexFunc_Matrix_impl_MachineOk_1_C]
noncomputable def ContainsFunc_Matrix_impl_MachineOk_1_Ls : List Lp := []
theorem ContainsFunc_Matrix_impl_MachineOk_1_e : ∀ x, ContainsFunc_Matrix_impl_MachineOk_1_C.F x = runBodyW E0 ContainsFunc_Matrix_impl_MachineOk_1_T ContainsFunc_Matrix_impl_MachineOk_1_Ls ContainsFunc_Matrix_impl_MachineOk_1_H 72 Try.f72.results.toList (bodyOf Try.f72) [] (ContainsFunc_Matrix_impl_MachineOk_1_arg.mk' x) ContainsFunc_Matrix_impl_MachineOk_1_res := fun x => by kernel_rfl
theorem ContainsFunc_Matrix_impl_MachineOk_1_ok : ContainsFunc_Matrix_impl_MachineOk_1_C.Ok E0 := fn_ok (T := ContainsFunc_Matrix_impl_MachineOk_1_T) (h := ContainsFunc_Matrix_impl_MachineOk_1_H) (Ls := ContainsFunc_Matrix_impl_MachineOk_1_Ls) E0_mixed (T_cons IndexFunc_Matrix_impl_MachineOk_1_ok T_nil) Try.func72 (bodyOf_some (by kernel_rfl)) (by kernel_rfl) (loops_of (ks := []) (by kernel_rfl) trivial) ContainsFunc_Matrix_impl_MachineOk_1_e
def impl_items_arg : Sh := ⟨[(0, .agg [.str, .rd [] .i64, .rd [] .i64]), (1, .c (.rd [] .mat))], [], []⟩
def impl_items_res : List Sh := [⟨[(0, .c (.own 0))], [], [(0, .i64)]⟩]
noncomputable def impl_items_s0 (x : (Unit × Unit × List (Int × Int) × Int × Int × Unit) × ((ByteArray × List Int × List Int × Unit) × Unit) × (List Int × Unit)) : Option (((Unit × Unit × List (Int × Int) × Int × Int × Unit) × ((ByteArray × List Int × List Int × Unit) × Unit) × (List Int × Unit)) ⊕ ((Unit × Unit) × Unit × (List Int × Unit))) :=
 let x1 : Bool := decide (x.1.2.2.2.2.1 < x.1.2.2.2.1);
 br x1
 (ck (0 ≤ x.1.2.2.2.2.1)
 (ck (x.1.2.2.2.2.1.toNat < x.1.2.2.1.length)
 (let x2 : Int × Int := x.1.2.2.1.getD x.1.2.2.2.2.1.toNat (0, 0);
 (impl_isBand x2.1 x2.2).bind fun r3 =>
 br r3.1.1
 (ck ((x.2.2.1.length + [(0 : Int)].length) * 8 ≤ 140737488355328 ∧ (x.2.2.1.length + [(0 : Int)].length) ≤ 9223372036854775807)
 (let x4 : List Int := x.2.2.1 ++ [(0 : Int)];
 let x5 : Int := w64 (x.1.2.2.2.2.1 + (1 : Int));
 some (.inl (((), (), x.1.2.2.1, x.1.2.2.2.1, x5, ()), ((x.2.1.1.1, x.2.1.1.2.1, x.2.1.1.2.2.1, ()), ()), (x4, ())))))
 (ck (0 ≤ x2.1)
 (ck (x2.1.toNat < x.2.1.1.2.1.length)
 (let x6 : Int := x.2.1.1.2.1.getD x2.1.toNat 0;
 ck ((x.2.2.1.length + [x6].length) * 8 ≤ 140737488355328 ∧ (x.2.2.1.length + [x6].length) ≤ 9223372036854775807)
 (let x7 : List Int := x.2.2.1 ++ [x6];
 let x8 : Int := w64 (x.1.2.2.2.2.1 + (1 : Int));
 some (.inl (((), (), x.1.2.2.1, x.1.2.2.2.1, x8, ()), ((x.2.1.1.1, x.2.1.1.2.1, x.2.1.1.2.2.1, ()), ()), (x7, ()))))))))))
 (some (.inr (((), ()), (), (x.2.2.1, ()))))
def impl_items_h0 : Sh := ⟨[(2, .c (.box 0 0)), (5, .c (.own 0)), (9, .c (.rd [] .mat)), (10, .c (.int .i64)), (11, .c (.int .i64))], [(0, .cells [.str, .rd [] .i64, .rd [] .i64])], [(0, .i64)]⟩
def impl_items_r0 : List Sh := [⟨[(5, .c (.own 0))], [], [(0, .i64)]⟩]
noncomputable def impl_items_L0 : Lp := ⟨0, [], impl_items_h0, [], [(.exit 0, [])], impl_items_r0, loopC impl_items_s0⟩
noncomputable def impl_items (a0_0 : ByteArray) (a0_1 : List Int) (a0_2 : List Int) (a1 : List (Int × Int)) : Option ((Unit × Unit) × Unit × (List Int × Unit)) :=
 (loopC impl_items_s0 (((), (), a1, (a1.length : Int), (0 : Int), ()), ((a0_0, a0_1, a0_2, ()), ()), ([], ()))).bind fun r9 =>
 some (((), ()), (), (r9.2.2.1, ()))
noncomputable def impl_items_C : Ctr := ⟨51, impl_items_arg, impl_items_res, fun x => impl_items x.1.1.1 x.1.1.2.1 x.1.1.2.2.1 x.1.2.1, none⟩
def impl_items_H : Hint := ⟨[], [], [], fun _ => []⟩
noncomputable def impl_items_T : List Ctr := [impl_isBand_C]
noncomputable def impl_items_Ls : List Lp := [impl_items_L0]
theorem impl_items_l0 : ∀ x, impl_items_s0 x = stepW E0 impl_items_T impl_items_Ls impl_items_H (loopAt (bodyOf Try.f51) 0) 0 impl_items_h0 [] [(.exit 0, [])] impl_items_r0 x := fun x => by kernel_rfl
theorem impl_items_e : ∀ x, impl_items_C.F x = runBodyW E0 impl_items_T impl_items_Ls impl_items_H 51 Try.f51.results.toList (bodyOf Try.f51) [] (impl_items_arg.mk' x) impl_items_res := fun x => by kernel_rfl
theorem impl_items_ok : impl_items_C.Ok E0 := fn_ok (T := impl_items_T) (h := impl_items_H) (Ls := impl_items_Ls) E0_mixed (T_cons impl_isBand_ok T_nil) Try.func51 (bodyOf_some (by kernel_rfl)) (by kernel_rfl) (loops_of (ks := [0]) (by kernel_rfl) ⟨(loop_one (h := impl_items_H) (own := []) (head := impl_items_h0) (back := []) (exs := [(.exit 0, [])]) (res := impl_items_r0) (step := impl_items_s0) (by kernel_rfl) impl_items_l0), trivial⟩) impl_items_e
def impl_MeasureOk_arg : Sh := ⟨[(0, .agg [.int .i64, .int .i64, .int .i64])], [], []⟩
def impl_MeasureOk_res : List Sh := [⟨[(0, .c (.bool))], [], []⟩]
noncomputable def impl_MeasureOk (a0_0 : Int) (a0_1 : Int) (a0_2 : Int) : Option ((Bool × Unit) × Unit × Unit) :=
 let x1 : Bool := decide (a0_0 ≥ (1 : Int));
 br x1
 (let x2 : Bool := decide (a0_0 ≤ (2000 : Int));
 br x2
 (let x3 : Bool := decide (a0_1 ≥ (1 : Int));
 br x3
 (let x4 : Bool := decide (a0_1 ≤ (100 : Int));
 br x4
 (let x5 : Bool := decide (a0_2 ≥ a0_1);
 br x5
 (let x6 : Bool := decide (a0_2 ≤ (100 : Int));
 some ((x6, ()), (), ()))
 (some ((false, ()), (), ())))
 (some ((false, ()), (), ())))
 (some ((false, ()), (), ())))
 (some ((false, ()), (), ())))
 (some ((false, ()), (), ()))
noncomputable def impl_MeasureOk_C : Ctr := ⟨82, impl_MeasureOk_arg, impl_MeasureOk_res, fun x => impl_MeasureOk x.1.1.1 x.1.1.2.1 x.1.1.2.2.1, none⟩
def impl_MeasureOk_H : Hint := ⟨[], [], [], fun _ => []⟩
noncomputable def impl_MeasureOk_T : List Ctr := []
noncomputable def impl_MeasureOk_Ls : List Lp := []
theorem impl_MeasureOk_e : ∀ x, impl_MeasureOk_C.F x = runBodyW E0 impl_MeasureOk_T impl_MeasureOk_Ls impl_MeasureOk_H 82 Try.f82.results.toList (bodyOf Try.f82) [] (impl_MeasureOk_arg.mk' x) impl_MeasureOk_res := fun x => by kernel_rfl
theorem impl_MeasureOk_ok : impl_MeasureOk_C.Ok E0 := fn_ok (T := impl_MeasureOk_T) (h := impl_MeasureOk_H) (Ls := impl_MeasureOk_Ls) E0_mixed T_nil Try.func82 (bodyOf_some (by kernel_rfl)) (by kernel_rfl) (loops_of (ks := []) (by kernel_rfl) trivial) impl_MeasureOk_e
def impl_LineOk_arg : Sh := ⟨[(0, .c (.rd [] .i64))], [], []⟩
def impl_LineOk_res : List Sh := [⟨[(0, .c (.bool))], [], []⟩]
noncomputable def impl_LineOk (a0 : List Int) : Option ((Bool × Unit) × Unit × Unit) :=
 let x1 : Bool := decide ((a0.length : Int) ≤ (120 : Int));
 br x1
 ((impl_between a0 (0 : Int) (60 : Int)).bind fun r2 =>
 some ((r2.1.1, ()), (), ()))
 (some ((false, ()), (), ()))
noncomputable def impl_LineOk_C : Ctr := ⟨83, impl_LineOk_arg, impl_LineOk_res, fun x => impl_LineOk x.1.1, none⟩
def impl_LineOk_H : Hint := ⟨[], [], [], fun _ => []⟩
noncomputable def impl_LineOk_T : List Ctr := [impl_between_C]
noncomputable def impl_LineOk_Ls : List Lp := []
theorem impl_LineOk_e : ∀ x, impl_LineOk_C.F x = runBodyW E0 impl_LineOk_T impl_LineOk_Ls impl_LineOk_H 83 Try.f83.results.toList (bodyOf Try.f83) [] (impl_LineOk_arg.mk' x) impl_LineOk_res := fun x => by kernel_rfl
theorem impl_LineOk_ok : impl_LineOk_C.Ok E0 := fn_ok (T := impl_LineOk_T) (h := impl_LineOk_H) (Ls := impl_LineOk_Ls) E0_mixed (T_cons impl_between_ok T_nil) Try.func83 (bodyOf_some (by kernel_rfl)) (by kernel_rfl) (loops_of (ks := []) (by kernel_rfl) trivial) impl_LineOk_e
def impl_lettersAndBands_arg : Sh := ⟨[(0, .c (.rd [] .i64))], [], []⟩
def impl_lettersAndBands_res : List Sh := [⟨[(0, .c (.int .i64)), (1, .c (.int .i64))], [], []⟩]
noncomputable def impl_lettersAndBands_s0 (x : (Int × Int × List Int × Int × Int × Unit) × Unit × Unit) : Option (((Int × Int × List Int × Int × Int × Unit) × Unit × Unit) ⊕ ((Int × Int × Unit) × Unit × Unit)) :=
 let x1 : Bool := decide (x.1.2.2.2.2.1 < x.1.2.2.2.1);
 br x1
 (ck (0 ≤ x.1.2.2.2.2.1)
 (ck (x.1.2.2.2.2.1.toNat < x.1.2.2.1.length)
 (let x2 : Int := x.1.2.2.1.getD x.1.2.2.2.2.1.toNat 0;
 let x3 : Int := w64 (x.1.1 + x2);
 let x4 : Bool := x2 == (0 : Int);
 br x4
 (let x5 : Int := w64 (x.1.2.1 + (1 : Int));
 let x6 : Int := w64 (x.1.2.2.2.2.1 + (1 : Int));
 some (.inl ((x3, x5, x.1.2.2.1, x.1.2.2.2.1, x6, ()), (), ())))
 (let x7 : Int := w64 (x.1.2.2.2.2.1 + (1 : Int));
 some (.inl ((x3, x.1.2.1, x.1.2.2.1, x.1.2.2.2.1, x7, ()), (), ()))))))
 (some (.inr ((x.1.1, x.1.2.1, ()), (), ())))
def impl_lettersAndBands_h0 : Sh := ⟨[(4, .c (.int .i64)), (5, .c (.int .i64)), (8, .c (.rd [] .i64)), (9, .c (.int .i64)), (10, .c (.int .i64))], [], []⟩
def impl_lettersAndBands_r0 : List Sh := [⟨[(4, .c (.int .i64)), (5, .c (.int .i64))], [], []⟩]
noncomputable def impl_lettersAndBands_L0 : Lp := ⟨0, [], impl_lettersAndBands_h0, [], [(.exit 0, [])], impl_lettersAndBands_r0, loopC impl_lettersAndBands_s0⟩
noncomputable def impl_lettersAndBands (a0 : List Int) : Option ((Int × Int × Unit) × Unit × Unit) :=
 (loopC impl_lettersAndBands_s0 (((0 : Int), (0 : Int), a0, (a0.length : Int), (0 : Int), ()), (), ())).bind fun r8 =>
 some ((r8.1.1, r8.1.2.1, ()), (), ())
noncomputable def impl_lettersAndBands_C : Ctr := ⟨84, impl_lettersAndBands_arg, impl_lettersAndBands_res, fun x => impl_lettersAndBands x.1.1, none⟩
def impl_lettersAndBands_H : Hint := ⟨[], [], [], fun _ => []⟩
noncomputable def impl_lettersAndBands_T : List Ctr := []
noncomputable def impl_lettersAndBands_Ls : List Lp := [impl_lettersAndBands_L0]
theorem impl_lettersAndBands_l0 : ∀ x, impl_lettersAndBands_s0 x = stepW E0 impl_lettersAndBands_T impl_lettersAndBands_Ls impl_lettersAndBands_H (loopAt (bodyOf Try.f84) 0) 0 impl_lettersAndBands_h0 [] [(.exit 0, [])] impl_lettersAndBands_r0 x := fun x => by kernel_rfl
theorem impl_lettersAndBands_e : ∀ x, impl_lettersAndBands_C.F x = runBodyW E0 impl_lettersAndBands_T impl_lettersAndBands_Ls impl_lettersAndBands_H 84 Try.f84.results.toList (bodyOf Try.f84) [] (impl_lettersAndBands_arg.mk' x) impl_lettersAndBands_res := fun x => by kernel_rfl
theorem impl_lettersAndBands_ok : impl_lettersAndBands_C.Ok E0 := fn_ok (T := impl_lettersAndBands_T) (h := impl_lettersAndBands_H) (Ls := impl_lettersAndBands_Ls) E0_mixed T_nil Try.func84 (bodyOf_some (by kernel_rfl)) (by kernel_rfl) (loops_of (ks := [0]) (by kernel_rfl) ⟨(loop_one (h := impl_lettersAndBands_H) (own := []) (head := impl_lettersAndBands_h0) (back := []) (exs := [(.exit 0, [])]) (res := impl_lettersAndBands_r0) (step := impl_lettersAndBands_s0) (by kernel_rfl) impl_lettersAndBands_l0), trivial⟩) impl_lettersAndBands_e
def impl_spread_arg : Sh := ⟨[(0, .agg [.int .i64, .int .i64, .int .i64]), (1, .c (.int .i64)), (2, .c (.int .i64))], [], []⟩
def impl_spread_res : List Sh := [⟨[(0, .c (.int .i64)), (1, .c (.int .i64)), (2, .c (.bool))], [], []⟩]
noncomputable def impl_spread (a0_0 : Int) (a0_1 : Int) (a0_2 : Int) (a1 : Int) (a2 : Int) : Option ((Int × Int × Bool × Unit) × Unit × Unit) :=
 let x1 : Int := w64 (a0_0 - a1);
 let x2 : Int := w64 (a2 * a0_1);
 let x3 : Int := w64 (x1 - x2);
 let x4 : Bool := decide (x3 < (0 : Int));
 br x4
 (some (((0 : Int), (0 : Int), false, ()), (), ()))
 (let x5 : Bool := decide (a2 > (0 : Int));
 br x5
 (let x6 : Int := w64 (a0_2 - a0_1);
 ck (a2 ≠ 0)
 (let x7 : Int := w64 (x3.tdiv a2);
 let x8 : Int := if x7 < x6 then x7 else x6;
 let x9 : Int := w64 (a2 * x8);
 let x10 : Int := w64 (x3 - x9);
 some ((x8, x10, true, ()), (), ())))
 (let x11 : Int := w64 (a2 * (0 : Int));
 let x12 : Int := w64 (x3 - x11);
 some (((0 : Int), x12, true, ()), (), ())))
noncomputable def impl_spread_C : Ctr := ⟨85, impl_spread_arg, impl_spread_res, fun x => impl_spread x.1.1.1 x.1.1.2.1 x.1.1.2.2.1 x.1.2.1 x.1.2.2.1, none⟩
def impl_spread_H : Hint := ⟨[], [], [], fun _ => []⟩
noncomputable def impl_spread_T : List Ctr := []
noncomputable def impl_spread_Ls : List Lp := []
theorem impl_spread_e : ∀ x, impl_spread_C.F x = runBodyW E0 impl_spread_T impl_spread_Ls impl_spread_H 85 Try.f85.results.toList (bodyOf Try.f85) [] (impl_spread_arg.mk' x) impl_spread_res := fun x => by kernel_rfl
theorem impl_spread_ok : impl_spread_C.Ok E0 := fn_ok (T := impl_spread_T) (h := impl_spread_H) (Ls := impl_spread_Ls) E0_mixed T_nil Try.func85 (bodyOf_some (by kernel_rfl)) (by kernel_rfl) (loops_of (ks := []) (by kernel_rfl) trivial) impl_spread_e
def impl_SpreadLine_arg : Sh := ⟨[(0, .agg [.int .i64, .int .i64, .int .i64]), (1, .c (.rd [] .i64))], [], []⟩
def impl_SpreadLine_res : List Sh := [⟨[(0, .c (.int .i64)), (1, .c (.int .i64)), (2, .c (.bool))], [], []⟩]
noncomputable def impl_SpreadLine (a0_0 : Int) (a0_1 : Int) (a0_2 : Int) (a1 : List Int) : Option ((Int × Int × Bool × Unit) × Unit × Unit) :=
 (impl_MeasureOk a0_0 a0_1 a0_2).bind fun r1 =>
 br (!r1.1.1)
 (some (((0 : Int), (0 : Int), false, ()), (), ()))
 ((impl_LineOk a1).bind fun r2 =>
 br (!r2.1.1)
 (some (((0 : Int), (0 : Int), false, ()), (), ()))
 ((impl_lettersAndBands a1).bind fun r3 =>
 (impl_spread a0_0 a0_1 a0_2 r3.1.1 r3.1.2.1).bind fun r4 =>
 some ((r4.1.1, r4.1.2.1, r4.1.2.2.1, ()), (), ())))
noncomputable def impl_SpreadLine_C : Ctr := ⟨42, impl_SpreadLine_arg, impl_SpreadLine_res, fun x => impl_SpreadLine x.1.1.1 x.1.1.2.1 x.1.1.2.2.1 x.1.2.1, none⟩
def impl_SpreadLine_H : Hint := ⟨[], [], [], fun _ => []⟩
noncomputable def impl_SpreadLine_T : List Ctr := [impl_MeasureOk_C, impl_LineOk_C, impl_lettersAndBands_C, impl_spread_C]
noncomputable def impl_SpreadLine_Ls : List Lp := []
theorem impl_SpreadLine_e : ∀ x, impl_SpreadLine_C.F x = runBodyW E0 impl_SpreadLine_T impl_SpreadLine_Ls impl_SpreadLine_H 42 Try.f42.results.toList (bodyOf Try.f42) [] (impl_SpreadLine_arg.mk' x) impl_SpreadLine_res := fun x => by kernel_rfl
theorem impl_SpreadLine_ok : impl_SpreadLine_C.Ok E0 := fn_ok (T := impl_SpreadLine_T) (h := impl_SpreadLine_H) (Ls := impl_SpreadLine_Ls) E0_mixed (T_cons impl_MeasureOk_ok (T_cons impl_LineOk_ok (T_cons impl_lettersAndBands_ok (T_cons impl_spread_ok T_nil)))) Try.func42 (bodyOf_some (by kernel_rfl)) (by kernel_rfl) (loops_of (ks := []) (by kernel_rfl) trivial) impl_SpreadLine_e
def impl_fits_arg : Sh := ⟨[(0, .agg [.int .i64, .int .i64, .int .i64]), (1, .c (.rd [] .i64))], [], []⟩
def impl_fits_res : List Sh := [⟨[(0, .c (.bool))], [], []⟩]
noncomputable def impl_fits (a0_0 : Int) (a0_1 : Int) (a0_2 : Int) (a1 : List Int) : Option ((Bool × Unit) × Unit × Unit) :=
 (impl_SpreadLine a0_0 a0_1 a0_2 a1).bind fun r1 =>
 some ((r1.1.2.2.1, ()), (), ())
noncomputable def impl_fits_C : Ctr := ⟨50, impl_fits_arg, impl_fits_res, fun x => impl_fits x.1.1.1 x.1.1.2.1 x.1.1.2.2.1 x.1.2.1, none⟩
def impl_fits_H : Hint := ⟨[], [], [], fun _ => []⟩
noncomputable def impl_fits_T : List Ctr := [impl_SpreadLine_C]
noncomputable def impl_fits_Ls : List Lp := []
theorem impl_fits_e : ∀ x, impl_fits_C.F x = runBodyW E0 impl_fits_T impl_fits_Ls impl_fits_H 50 Try.f50.results.toList (bodyOf Try.f50) [] (impl_fits_arg.mk' x) impl_fits_res := fun x => by kernel_rfl
theorem impl_fits_ok : impl_fits_C.Ok E0 := fn_ok (T := impl_fits_T) (h := impl_fits_H) (Ls := impl_fits_Ls) E0_mixed (T_cons impl_SpreadLine_ok T_nil) Try.func50 (bodyOf_some (by kernel_rfl)) (by kernel_rfl) (loops_of (ks := []) (by kernel_rfl) trivial) impl_fits_e
def impl_MachineOk_arg : Sh := ⟨[(0, .agg [.str, .rd [] .i64, .rd [] .i64, .rd [] .mats, .int .i64, .int .i64, .int .i64, .int .i64, .rd [] .mat, .rd [] .mat])], [], []⟩
def impl_MachineOk_res : List Sh := [⟨[(0, .c (.bool))], [], []⟩]
noncomputable def impl_MachineOk (a0_0 : ByteArray) (a0_1 : List Int) (a0_2 : List Int) (a0_3 : List (List (Int × Int))) (a0_4 : Int) (a0_5 : Int) (a0_6 : Int) (a0_7 : Int) (a0_8 : List (Int × Int)) (a0_9 : List (Int × Int)) : Option ((Bool × Unit) × Unit × Unit) :=
 (impl_MagazineOk a0_0 a0_1 a0_2 a0_3).bind fun r1 =>
 br (!r1.1.1)
 (some ((false, ()), (), ()))
 (let x2 : Bool := decide (a0_4 < (0 : Int));
 br x2
 (some ((false, ()), (), ()))
 (let x3 : Bool := decide (a0_4 > (60 : Int));
 br x3
 (some ((false, ()), (), ()))
 (let x4 : Bool := decide ((a0_8.length : Int) > (120 : Int));
 br x4
 (some ((false, ()), (), ()))
 (let x5 : Bool := decide ((a0_9.length : Int) > (240 : Int));
 br x5
 (some ((false, ()), (), ()))
 ((impl_allOf a0_0 a0_1 a0_2 a0_9).bind fun r6 =>
 br (!r6.1.1)
 (some ((false, ()), (), ()))
 ((ContainsFunc_Matrix_impl_MachineOk_1 a0_8 a0_0 a0_1 a0_2 a0_4 a0_5 a0_6 a0_7 a0_8 a0_9).bind fun r7 =>
 br r7.1.1
 (some ((false, ()), (), ()))
 ((impl_items a0_0 a0_1 a0_2 a0_8).bind fun r8 =>
 (impl_fits a0_5 a0_6 a0_7 r8.2.2.1).bind fun r9 =>
 some ((r9.1.1, ()), (), ()))))))))
noncomputable def impl_MachineOk_C : Ctr := ⟨25, impl_MachineOk_arg, impl_MachineOk_res, fun x => impl_MachineOk x.1.1.1 x.1.1.2.1 x.1.1.2.2.1 x.1.1.2.2.2.1 x.1.1.2.2.2.2.1 x.1.1.2.2.2.2.2.1 x.1.1.2.2.2.2.2.2.1 x.1.1.2.2.2.2.2.2.2.1 x.1.1.2.2.2.2.2.2.2.2.1 x.1.1.2.2.2.2.2.2.2.2.2.1, none⟩
def impl_MachineOk_H : Hint := ⟨[], [], [], fun _ => []⟩
noncomputable def impl_MachineOk_T : List Ctr := [impl_MagazineOk_C, impl_allOf_C, ContainsFunc_Matrix_impl_MachineOk_1_C, impl_items_C, impl_fits_C]
noncomputable def impl_MachineOk_Ls : List Lp := []
theorem impl_MachineOk_e : ∀ x, impl_MachineOk_C.F x = runBodyW E0 impl_MachineOk_T impl_MachineOk_Ls impl_MachineOk_H 25 Try.f25.results.toList (bodyOf Try.f25) [] (impl_MachineOk_arg.mk' x) impl_MachineOk_res := fun x => by kernel_rfl
theorem impl_MachineOk_ok : impl_MachineOk_C.Ok E0 := fn_ok (T := impl_MachineOk_T) (h := impl_MachineOk_H) (Ls := impl_MachineOk_Ls) E0_mixed (T_cons impl_MagazineOk_ok (T_cons impl_allOf_ok (T_cons ContainsFunc_Matrix_impl_MachineOk_1_ok (T_cons impl_items_ok (T_cons impl_fits_ok T_nil))))) Try.func25 (bodyOf_some (by kernel_rfl)) (by kernel_rfl) (loops_of (ks := []) (by kernel_rfl) trivial) impl_MachineOk_e
def Clone_int_arg : Sh := ⟨[(0, .c (.rd [] .i64))], [], []⟩
def Clone_int_res : List Sh := [⟨[(0, .c (.own 0))], [], [(0, .i64)]⟩]
noncomputable def Clone_int (a0 : List Int) : Option ((Unit × Unit) × Unit × (List Int × Unit)) :=
 br a0.isEmpty
 (both (some (((), ()), (), ([], ())))
 (ck ((([] : List Int).length + a0.length) * 8 ≤ 140737488355328 ∧ (([] : List Int).length + a0.length) ≤ 9223372036854775807)
 (let x1 : List Int := [] ++ a0;
 some (((), ()), (), (x1, ())))))
 (ck ((([] : List Int).length + a0.length) * 8 ≤ 140737488355328 ∧ (([] : List Int).length + a0.length) ≤ 9223372036854775807)
 (let x2 : List Int := [] ++ a0;
 some (((), ()), (), (x2, ()))))
noncomputable def Clone_int_C : Ctr := ⟨91, Clone_int_arg, Clone_int_res, fun x => Clone_int x.1.1, none⟩
def Clone_int_H : Hint := ⟨[], [], [], fun _ => []⟩
noncomputable def Clone_int_T : List Ctr := []
noncomputable def Clone_int_Ls : List Lp := []
theorem Clone_int_e : ∀ x, Clone_int_C.F x = runBodyW E0 Clone_int_T Clone_int_Ls Clone_int_H 91 Try.f91.results.toList (bodyOf Try.f91) [(.tm 2, 6000000, .i64)] (Clone_int_arg.mk' x) Clone_int_res := fun x => by kernel_rfl
theorem Clone_int_ok : Clone_int_C.Ok E0 := fn_ok (T := Clone_int_T) (h := Clone_int_H) (Ls := Clone_int_Ls) E0_mixed T_nil Try.func91 (bodyOf_some (by kernel_rfl)) (by kernel_rfl) (loops_of (ks := []) (by kernel_rfl) trivial) Clone_int_e
def Clone_Matrix_arg : Sh := ⟨[(0, .c (.rd [] .mat))], [], []⟩
def Clone_Matrix_res : List Sh := [⟨[(0, .c (.own 0))], [], [(0, .mat)]⟩]
noncomputable def Clone_Matrix (a0 : List (Int × Int)) : Option ((Unit × Unit) × Unit × (List (Int × Int) × Unit)) :=
 br a0.isEmpty
 (both (some (((), ()), (), ([], ())))
 (ck ((([] : List Int).length + a0.length) * 16 ≤ 140737488355328 ∧ (([] : List Int).length + a0.length) ≤ 9223372036854775807)
 (let x1 : List (Int × Int) := [] ++ a0;
 some (((), ()), (), (x1, ())))))
 (ck ((([] : List Int).length + a0.length) * 16 ≤ 140737488355328 ∧ (([] : List Int).length + a0.length) ≤ 9223372036854775807)
 (let x2 : List (Int × Int) := [] ++ a0;
 some (((), ()), (), (x2, ()))))
noncomputable def Clone_Matrix_C : Ctr := ⟨49, Clone_Matrix_arg, Clone_Matrix_res, fun x => Clone_Matrix x.1.1, none⟩
def Clone_Matrix_H : Hint := ⟨[], [], [], fun _ => []⟩
noncomputable def Clone_Matrix_T : List Ctr := []
noncomputable def Clone_Matrix_Ls : List Lp := []
theorem Clone_Matrix_e : ∀ x, Clone_Matrix_C.F x = runBodyW E0 Clone_Matrix_T Clone_Matrix_Ls Clone_Matrix_H 49 Try.f49.results.toList (bodyOf Try.f49) [(.tm 2, 6000000, .mat)] (Clone_Matrix_arg.mk' x) Clone_Matrix_res := fun x => by kernel_rfl
theorem Clone_Matrix_ok : Clone_Matrix_C.Ok E0 := fn_ok (T := Clone_Matrix_T) (h := Clone_Matrix_H) (Ls := Clone_Matrix_Ls) E0_mixed T_nil Try.func49 (bodyOf_some (by kernel_rfl)) (by kernel_rfl) (loops_of (ks := []) (by kernel_rfl) trivial) Clone_Matrix_e
def impl_copyMagazine_arg : Sh := ⟨[(0, .c (.rd [] .mats))], [], []⟩
def impl_copyMagazine_res : List Sh := [⟨[(0, .c (.own 0))], [], [(0, .mats)]⟩]
noncomputable def impl_copyMagazine_s0 (x : (Unit × List (List (Int × Int)) × Int × Int × Unit) × Unit × (List (List (Int × Int)) × Unit)) : Option (((Unit × List (List (Int × Int)) × Int × Int × Unit) × Unit × (List (List (Int × Int)) × Unit)) ⊕ ((Unit × Unit) × Unit × (List (List (Int × Int)) × Unit))) :=
 let x1 : Bool := decide (x.1.2.2.2.1 < x.1.2.2.1);
 br x1
 (ck (0 ≤ x.1.2.2.2.1)
 (ck (x.1.2.2.2.1.toNat < x.1.2.1.length)
 (let x2 : List (Int × Int) := x.1.2.1.getD x.1.2.2.2.1.toNat [];
 (Clone_Matrix x2).bind fun r3 =>
 ck ((x.2.2.1.length + 1) * 24 ≤ 140737488355328 ∧ (x.2.2.1.length + 1) ≤ 9223372036854775807)
 (let x4 : List (List (Int × Int)) := x.2.2.1 ++ [r3.2.2.1];
 let x5 : Int := w64 (x.1.2.2.2.1 + (1 : Int));
 some (.inl (((), x.1.2.1, x.1.2.2.1, x5, ()), (), (x4, ())))))))
 (some (.inr (((), ()), (), (x.2.2.1, ()))))
def impl_copyMagazine_h0 : Sh := ⟨[(3, .c (.own 0)), (7, .c (.rd [] .mats)), (8, .c (.int .i64)), (9, .c (.int .i64))], [], [(0, .mats)]⟩
def impl_copyMagazine_r0 : List Sh := [⟨[(3, .c (.own 0))], [], [(0, .mats)]⟩]
noncomputable def impl_copyMagazine_L0 : Lp := ⟨0, [], impl_copyMagazine_h0, [], [(.exit 0, [])], impl_copyMagazine_r0, loopC impl_copyMagazine_s0⟩
noncomputable def impl_copyMagazine (a0 : List (List (Int × Int))) : Option ((Unit × Unit) × Unit × (List (List (Int × Int)) × Unit)) :=
 (loopC impl_copyMagazine_s0 (((), a0, (a0.length : Int), (0 : Int), ()), (), ([], ()))).bind fun r6 =>
 some (((), ()), (), (r6.2.2.1, ()))
noncomputable def impl_copyMagazine_C : Ctr := ⟨69, impl_copyMagazine_arg, impl_copyMagazine_res, fun x => impl_copyMagazine x.1.1, none⟩
def impl_copyMagazine_H : Hint := ⟨[], [], [], fun _ => []⟩
noncomputable def impl_copyMagazine_T : List Ctr := [Clone_Matrix_C]
noncomputable def impl_copyMagazine_Ls : List Lp := [impl_copyMagazine_L0]
theorem impl_copyMagazine_l0 : ∀ x, impl_copyMagazine_s0 x = stepW E0 impl_copyMagazine_T impl_copyMagazine_Ls impl_copyMagazine_H (loopAt (bodyOf Try.f69) 0) 0 impl_copyMagazine_h0 [] [(.exit 0, [])] impl_copyMagazine_r0 x := fun x => by kernel_rfl
theorem impl_copyMagazine_e : ∀ x, impl_copyMagazine_C.F x = runBodyW E0 impl_copyMagazine_T impl_copyMagazine_Ls impl_copyMagazine_H 69 Try.f69.results.toList (bodyOf Try.f69) [] (impl_copyMagazine_arg.mk' x) impl_copyMagazine_res := fun x => by kernel_rfl
theorem impl_copyMagazine_ok : impl_copyMagazine_C.Ok E0 := fn_ok (T := impl_copyMagazine_T) (h := impl_copyMagazine_H) (Ls := impl_copyMagazine_Ls) E0_mixed (T_cons Clone_Matrix_ok T_nil) Try.func69 (bodyOf_some (by kernel_rfl)) (by kernel_rfl) (loops_of (ks := [0]) (by kernel_rfl) ⟨(loop_one (h := impl_copyMagazine_H) (own := []) (head := impl_copyMagazine_h0) (back := []) (exs := [(.exit 0, [])]) (res := impl_copyMagazine_r0) (step := impl_copyMagazine_s0) (by kernel_rfl) impl_copyMagazine_l0), trivial⟩) impl_copyMagazine_e
end Go.Tree
