/- What each function that the law FnLetters reaches computes, as a plain function, and the proof that the program's code computes it. No condition but the function's own answer. -/
import Derived.Test.YtfgeijlcmepdlaaK8
import Derived.Test.YtfgeijlcmepdlaaProg
import Derived.KernelRfl
namespace Go.Tree
open Go Go.Proofs
set_option linter.unusedVariables false
set_option maxRecDepth 100000
noncomputable def E0 : Env := { P := Try.prog, hint := fun _ => ⟨[], [], [], fun _ => []⟩, mode := fun f => ([0, 0, 0, 0, 0, 0, 0, 0, 0, 0, 0, 0, 0, 0, 0, 0, 0, 0, 0, 0, 0, 0, 0, 0, 0, 0, 0, 0, 0, 0, 0, 0, 0, 0, 0, 0, 0, 0, 0, 0, 0, 0, 0, 0, 1, 0, 0, 0, 0, 0, 0, 0, 0, 0, 0, 0, 0, 0, 1, 1, 0, 0, 0, 0, 0, 0, 0, 0, 0, 0, 1, 0, 0, 0, 1, 1, 1, 0, 0, 1, 0, 0, 0, 0, 0, 0, 0, 0, 0, 0, 0, 0, 0, 1, 0, 0, 0, 0, 0, 0, 1, 0, 0, 1, 0, 0, 0, 0, 0, 0, 1, 1, 1, 0, 0, 0, 0, 0, 0, 1, 1, 0, 0, 0, 0, 0, 0, 0, 0, 0, 0, 0, 0, 0, 0, 0, 0, 0, 0, 0, 0, 0, 0, 0, 0, 0, 0, 0, 0, 0, 0, 0, 0] : List Nat).getD f 0, nres := fun f => ([0, 0, 0, 1, 1, 1, 1, 1, 1, 1, 1, 2, 1, 2, 4, 2, 1, 1, 1, 2, 1, 1, 1, 3, 2, 1, 1, 2, 3, 1, 2, 1, 3, 1, 1, 1, 1, 4, 1, 1, 1, 1, 3, 1, 1, 1, 2, 1, 1, 1, 1, 1, 1, 1, 1, 1, 1, 1, 1, 1, 1, 1, 1, 1, 1, 1, 1, 1, 1, 1, 1, 1, 1, 1, 1, 1, 2, 1, 3, 2, 1, 1, 1, 1, 2, 3, 1, 1, 2, 1, 1, 1, 1, 1, 1, 1, 1, 2, 1, 1, 1, 1, 1, 1, 2, 1, 0, 2, 1, 1, 1, 1, 1, 1, 1, 1, 1, 1, 1, 1, 1, 2, 1, 2, 2, 1, 0, 0, 1, 1, 1, 1, 1, 1, 1, 1, 1, 0, 1, 0, 1, 0, 1, 0, 1, 0, 1, 0, 1, 1, 0, 0, 1] : List Nat).getD f 0 }
theorem E0_mixed : E0.P.follows .mixedOrders = true := by kernel_rfl
def spec_l01New_arg : Sh := ⟨[(0, .c (.rd [] .u8))], [], []⟩
def spec_l01New_res : List Sh := [⟨[(0, .c (.box 0 0))], [(0, .cells [.rd [] .u8, .int .i64, .int .i64])], []⟩]
noncomputable def spec_l01New_s0 (x : (List Int × Int × Int × Unit) × Unit × Unit) : Option (((List Int × Int × Int × Unit) × Unit × Unit) ⊕ ((List Int × Int × Unit) × Unit × Unit)) :=
 let x2 : Bool := decide (x.1.2.2.1 < (x.1.1.length : Int));
 br x2
 (let x3 : Bool := decide (x.1.2.2.1 < (4000 : Int));
 br x3
 (let x4 : Int := w64 (x.1.2.1 * (1103 : Int));
 ck (0 ≤ x.1.2.2.1)
 (ck (x.1.2.2.1.toNat < x.1.1.length)
 (let x5 : Int := x.1.1.getD x.1.2.2.1.toNat 0;
 let x6 : Int := w64 x5;
 let x7 : Int := w64 (x4 + x6);
 let x8 : Int := w64 (x7 + (7 : Int));
 let x9 : Int := bAnd .i64 x8 (1073741823 : Int);
 let x10 : Int := w64 (x.1.2.2.1 + (1 : Int));
 some (.inl ((x.1.1, x9, x10, ()), (), ())))))
 (some (.inr ((x.1.1, x.1.2.1, ()), (), ()))))
 (some (.inr ((x.1.1, x.1.2.1, ()), (), ())))
def spec_l01New_h0 : Sh := ⟨[(0, .c (.rd [] .u8)), (3, .c (.int .i64)), (4, .c (.int .i64))], [], []⟩
def spec_l01New_r0 : List Sh := [⟨[(0, .c (.rd [] .u8)), (3, .c (.int .i64))], [], []⟩]
noncomputable def spec_l01New_L0 : Lp := ⟨0, [], spec_l01New_h0, [], [(.exit 0, [])], spec_l01New_r0, loopC spec_l01New_s0⟩
noncomputable def spec_l01New (a0 : List Int) : Option ((Unit × Unit) × ((List Int × Int × Int × Unit) × Unit) × Unit) :=
 let x1 : Int := w64 ((3230 : Int) + (a0.length : Int));
 (loopC spec_l01New_s0 ((a0, x1, (0 : Int), ()), (), ())).bind fun r11 =>
 some (((), ()), ((r11.1.1, (0 : Int), r11.1.2.1, ()), ()), ())
noncomputable def spec_l01New_C : Ctr := ⟨45, spec_l01New_arg, spec_l01New_res, fun x => spec_l01New x.1.1, none⟩
def spec_l01New_H : Hint := ⟨[], [], [], fun _ => []⟩
noncomputable def spec_l01New_T : List Ctr := []
noncomputable def spec_l01New_Ls : List Lp := [spec_l01New_L0]
theorem spec_l01New_l0 : ∀ x, spec_l01New_s0 x = stepW E0 spec_l01New_T spec_l01New_Ls spec_l01New_H (loopAt (bodyOf Try.f45) 0) 0 spec_l01New_h0 [] [(.exit 0, [])] spec_l01New_r0 x := fun x => by kernel_rfl
theorem spec_l01New_e : ∀ x, spec_l01New_C.F x = runBodyW E0 spec_l01New_T spec_l01New_Ls spec_l01New_H 45 Try.f45.results.toList (bodyOf Try.f45) [] (spec_l01New_arg.mk' x) spec_l01New_res := fun x => by kernel_rfl
theorem spec_l01New_ok : spec_l01New_C.Ok E0 := fn_ok (T := spec_l01New_T) (h := spec_l01New_H) (Ls := spec_l01New_Ls) E0_mixed T_nil Try.func45 (bodyOf_some (by kernel_rfl)) (by kernel_rfl) (loops_of (ks := [0]) (by kernel_rfl) ⟨(loop_one (h := spec_l01New_H) (own := []) (head := spec_l01New_h0) (back := []) (exs := [(.exit 0, [])]) (res := spec_l01New_r0) (step := spec_l01New_s0) (by kernel_rfl) spec_l01New_l0), trivial⟩) spec_l01New_e
def spec_l01Byte_arg : Sh := ⟨[(0, .c (.box 0 0))], [(0, .cells [.rd [] .u8, .int .i64, .int .i64])], []⟩
def spec_l01Byte_res : List Sh := [⟨[(0, .c (.int .i64)), (1, .c (.box 0 0))], [(0, .cells [.rd [] .u8, .int .i64, .int .i64])], []⟩]
noncomputable def spec_l01Byte (b0_0 : List Int) (b0_1 : Int) (b0_2 : Int) : Option ((Int × Unit × Unit) × ((List Int × Int × Int × Unit) × Unit) × Unit) :=
 let x1 : Int := w64 (b0_2 * (6364136223846793005 : Int));
 let x2 : Int := w64 (x1 + (1442695040888963407 : Int));
 let x3 : Int := x2.fdiv (2 ^ (33));
 let x4 : Int := x2.fdiv (2 ^ (45));
 let x5 : Int := bXor .i64 x3 x4;
 let x6 : Int := bAnd .i64 x5 (255 : Int);
 let x7 : Bool := decide (b0_1 < (b0_0.length : Int));
 br x7
 (ck (0 ≤ b0_1)
 (ck (b0_1.toNat < b0_0.length)
 (let x8 : Int := b0_0.getD b0_1.toNat 0;
 let x9 : Int := w64 x8;
 let x10 : Int := w64 (x6 + x9);
 let x11 : Int := bAnd .i64 x10 (255 : Int);
 let x12 : Int := w64 (b0_1 + (1 : Int));
 some ((x11, (), ()), ((b0_0, x12, x2, ()), ()), ()))))
 (some ((x6, (), ()), ((b0_0, b0_1, x2, ()), ()), ()))
noncomputable def spec_l01Byte_C : Ctr := ⟨103, spec_l01Byte_arg, spec_l01Byte_res, fun x => spec_l01Byte x.2.1.1.1 x.2.1.1.2.1 x.2.1.1.2.2.1, none⟩
def spec_l01Byte_H : Hint := ⟨[], [], [], fun _ => []⟩
noncomputable def spec_l01Byte_T : List Ctr := []
noncomputable def spec_l01Byte_Ls : List Lp := []
theorem spec_l01Byte_e : ∀ x, spec_l01Byte_C.F x = runBodyW E0 spec_l01Byte_T spec_l01Byte_Ls spec_l01Byte_H 103 Try.f103.results.toList (bodyOf Try.f103) [] (spec_l01Byte_arg.mk' x) spec_l01Byte_res := fun x => by kernel_rfl
theorem spec_l01Byte_ok : spec_l01Byte_C.Ok E0 := fn_ok (T := spec_l01Byte_T) (h := spec_l01Byte_H) (Ls := spec_l01Byte_Ls) E0_mixed T_nil Try.func103 (bodyOf_some (by kernel_rfl)) (by kernel_rfl) (loops_of (ks := []) (by kernel_rfl) trivial) spec_l01Byte_e
def spec_l01Below_arg : Sh := ⟨[(0, .c (.box 0 0)), (1, .c (.int .i64))], [(0, .cells [.rd [] .u8, .int .i64, .int .i64])], []⟩
def spec_l01Below_res : List Sh := [⟨[(0, .c (.int .i64)), (1, .c (.box 0 0))], [(0, .cells [.rd [] .u8, .int .i64, .int .i64])], []⟩]
noncomputable def spec_l01Below (a1 : Int) (b0_0 : List Int) (b0_1 : Int) (b0_2 : Int) : Option ((Int × Unit × Unit) × ((List Int × Int × Int × Unit) × Unit) × Unit) :=
 let x1 : Bool := decide (a1 ≤ (0 : Int));
 br x1
 (some (((0 : Int), (), ()), ((b0_0, b0_1, b0_2, ()), ()), ()))
 (let x2 : Bool := decide (a1 ≤ (256 : Int));
 br x2
 ((spec_l01Byte b0_0 b0_1 b0_2).bind fun r3 =>
 ck (a1 ≠ 0)
 (let x4 : Int := r3.1.1.tmod a1;
 some ((x4, (), ()), ((r3.2.1.1.1, r3.2.1.1.2.1, r3.2.1.1.2.2.1, ()), ()), ())))
 ((spec_l01Byte b0_0 b0_1 b0_2).bind fun r5 =>
 (spec_l01Byte r5.2.1.1.1 r5.2.1.1.2.1 r5.2.1.1.2.2.1).bind fun r6 =>
 (spec_l01Byte r6.2.1.1.1 r6.2.1.1.2.1 r6.2.1.1.2.2.1).bind fun r7 =>
 (spec_l01Byte r7.2.1.1.1 r7.2.1.1.2.1 r7.2.1.1.2.2.1).bind fun r8 =>
 let x9 : Int := w64 (r5.1.1 * (16777216 : Int));
 let x10 : Int := w64 (r6.1.1 * (65536 : Int));
 let x11 : Int := w64 (x9 + x10);
 let x12 : Int := w64 (r7.1.1 * (256 : Int));
 let x13 : Int := w64 (x11 + x12);
 let x14 : Int := w64 (x13 + r8.1.1);
 ck (a1 ≠ 0)
 (let x15 : Int := x14.tmod a1;
 some ((x15, (), ()), ((r8.2.1.1.1, r8.2.1.1.2.1, r8.2.1.1.2.2.1, ()), ()), ()))))
noncomputable def spec_l01Below_C : Ctr := ⟨74, spec_l01Below_arg, spec_l01Below_res, fun x => spec_l01Below x.1.2.1 x.2.1.1.1 x.2.1.1.2.1 x.2.1.1.2.2.1, none⟩
def spec_l01Below_H : Hint := ⟨[], [], [], fun _ => []⟩
noncomputable def spec_l01Below_T : List Ctr := [spec_l01Byte_C]
noncomputable def spec_l01Below_Ls : List Lp := []
theorem spec_l01Below_e : ∀ x, spec_l01Below_C.F x = runBodyW E0 spec_l01Below_T spec_l01Below_Ls spec_l01Below_H 74 Try.f74.results.toList (bodyOf Try.f74) [] (spec_l01Below_arg.mk' x) spec_l01Below_res := fun x => by kernel_rfl
theorem spec_l01Below_ok : spec_l01Below_C.Ok E0 := fn_ok (T := spec_l01Below_T) (h := spec_l01Below_H) (Ls := spec_l01Below_Ls) E0_mixed (T_cons spec_l01Byte_ok T_nil) Try.func74 (bodyOf_some (by kernel_rfl)) (by kernel_rfl) (loops_of (ks := []) (by kernel_rfl) trivial) spec_l01Below_e
def spec_l4Measure_arg : Sh := ⟨[(0, .c (.box 0 0))], [(0, .cells [.rd [] .u8, .int .i64, .int .i64])], []⟩
def spec_l4Measure_res : List Sh := [⟨[(0, .agg [.int .i64, .int .i64, .int .i64]), (1, .c (.box 0 0))], [(0, .cells [.rd [] .u8, .int .i64, .int .i64])], []⟩]
noncomputable def spec_l4Measure (b0_0 : List Int) (b0_1 : Int) (b0_2 : Int) : Option (((Int × Int × Int × Unit) × Unit × Unit) × ((List Int × Int × Int × Unit) × Unit) × Unit) :=
 (spec_l01Below (60 : Int) b0_0 b0_1 b0_2).bind fun r1 =>
 let x2 : Int := w64 ((20 : Int) + r1.1.1);
 (spec_l01Below (3 : Int) r1.2.1.1.1 r1.2.1.1.2.1 r1.2.1.1.2.2.1).bind fun r3 =>
 let x4 : Int := w64 ((1 : Int) + r3.1.1);
 (spec_l01Below (9 : Int) r3.2.1.1.1 r3.2.1.1.2.1 r3.2.1.1.2.2.1).bind fun r5 =>
 let x6 : Int := w64 (x4 + r5.1.1);
 some (((x2, x4, x6, ()), (), ()), ((r5.2.1.1.1, r5.2.1.1.2.1, r5.2.1.1.2.2.1, ()), ()), ())
noncomputable def spec_l4Measure_C : Ctr := ⟨110, spec_l4Measure_arg, spec_l4Measure_res, fun x => spec_l4Measure x.2.1.1.1 x.2.1.1.2.1 x.2.1.1.2.2.1, none⟩
def spec_l4Measure_H : Hint := ⟨[], [], [], fun _ => []⟩
noncomputable def spec_l4Measure_T : List Ctr := [spec_l01Below_C]
noncomputable def spec_l4Measure_Ls : List Lp := []
theorem spec_l4Measure_e : ∀ x, spec_l4Measure_C.F x = runBodyW E0 spec_l4Measure_T spec_l4Measure_Ls spec_l4Measure_H 110 Try.f110.results.toList (bodyOf Try.f110) [] (spec_l4Measure_arg.mk' x) spec_l4Measure_res := fun x => by kernel_rfl
theorem spec_l4Measure_ok : spec_l4Measure_C.Ok E0 := fn_ok (T := spec_l4Measure_T) (h := spec_l4Measure_H) (Ls := spec_l4Measure_Ls) E0_mixed (T_cons spec_l01Below_ok T_nil) Try.func110 (bodyOf_some (by kernel_rfl)) (by kernel_rfl) (loops_of (ks := []) (by kernel_rfl) trivial) spec_l4Measure_e
def spec_l4Words_arg : Sh := ⟨[(0, .c (.box 0 0))], [(0, .cells [.rd [] .u8, .int .i64, .int .i64])], []⟩
def spec_l4Words_res : List Sh := [⟨[(0, .c (.own 0)), (1, .c (.box 0 0))], [(0, .cells [.rd [] .u8, .int .i64, .int .i64])], [(0, .i64)]⟩]
noncomputable def spec_l4Words_s0 (x : (Unit × Unit × Int × Int × Unit) × ((List Int × Int × Int × Unit) × Unit) × (List Int × Unit)) : Option (((Unit × Unit × Int × Int × Unit) × ((List Int × Int × Int × Unit) × Unit) × (List Int × Unit)) ⊕ ((Unit × Unit × Unit) × ((List Int × Int × Int × Unit) × Unit) × (List Int × Unit))) :=
 let x5 : Bool := decide (x.1.2.2.2.1 > (0 : Int));
 br x5
 ((spec_l01Below x.1.2.2.1 x.2.1.1.1 x.2.1.1.2.1 x.2.1.1.2.2.1).bind fun r6 =>
 let x7 : Int := w64 ((1 : Int) + r6.1.1);
 ck ((x.2.2.1.length + [x7].length) * 8 ≤ 140737488355328 ∧ (x.2.2.1.length + [x7].length) ≤ 9223372036854775807)
 (let x8 : List Int := x.2.2.1 ++ [x7];
 let x9 : Int := w64 (x.1.2.2.2.1 - (1 : Int));
 some (.inl (((), (), x.1.2.2.1, x9, ()), ((r6.2.1.1.1, r6.2.1.1.2.1, r6.2.1.1.2.2.1, ()), ()), (x8, ())))))
 (some (.inr (((), (), ()), ((x.2.1.1.1, x.2.1.1.2.1, x.2.1.1.2.2.1, ()), ()), (x.2.2.1, ()))))
def spec_l4Words_h0 : Sh := ⟨[(0, .c (.box 0 0)), (3, .c (.own 0)), (4, .c (.int .i64)), (5, .c (.int .i64))], [(0, .cells [.rd [] .u8, .int .i64, .int .i64])], [(0, .i64)]⟩
def spec_l4Words_r0 : List Sh := [⟨[(0, .c (.box 0 0)), (3, .c (.own 0))], [(0, .cells [.rd [] .u8, .int .i64, .int .i64])], [(0, .i64)]⟩]
noncomputable def spec_l4Words_L0 : Lp := ⟨0, [], spec_l4Words_h0, [], [(.exit 0, [])], spec_l4Words_r0, loopC spec_l4Words_s0⟩
noncomputable def spec_l4Words (b0_0 : List Int) (b0_1 : Int) (b0_2 : Int) : Option ((Unit × Unit × Unit) × ((List Int × Int × Int × Unit) × Unit) × (List Int × Unit)) :=
 (spec_l01Below (14 : Int) b0_0 b0_1 b0_2).bind fun r1 =>
 let x2 : Int := w64 ((2 : Int) + r1.1.1);
 (spec_l01Below (18 : Int) r1.2.1.1.1 r1.2.1.1.2.1 r1.2.1.1.2.2.1).bind fun r3 =>
 let x4 : Int := w64 ((1 : Int) + r3.1.1);
 (loopC spec_l4Words_s0 (((), (), x2, x4, ()), ((r3.2.1.1.1, r3.2.1.1.2.1, r3.2.1.1.2.2.1, ()), ()), ([], ()))).bind fun r10 =>
 some (((), (), ()), ((r10.2.1.1.1, r10.2.1.1.2.1, r10.2.1.1.2.2.1, ()), ()), (r10.2.2.1, ()))
noncomputable def spec_l4Words_C : Ctr := ⟨111, spec_l4Words_arg, spec_l4Words_res, fun x => spec_l4Words x.2.1.1.1 x.2.1.1.2.1 x.2.1.1.2.2.1, none⟩
def spec_l4Words_H : Hint := ⟨[], [], [], fun _ => []⟩
noncomputable def spec_l4Words_T : List Ctr := [spec_l01Below_C]
noncomputable def spec_l4Words_Ls : List Lp := [spec_l4Words_L0]
theorem spec_l4Words_l0 : ∀ x, spec_l4Words_s0 x = stepW E0 spec_l4Words_T spec_l4Words_Ls spec_l4Words_H (loopAt (bodyOf Try.f111) 0) 0 spec_l4Words_h0 [] [(.exit 0, [])] spec_l4Words_r0 x := fun x => by kernel_rfl
theorem spec_l4Words_e : ∀ x, spec_l4Words_C.F x = runBodyW E0 spec_l4Words_T spec_l4Words_Ls spec_l4Words_H 111 Try.f111.results.toList (bodyOf Try.f111) [] (spec_l4Words_arg.mk' x) spec_l4Words_res := fun x => by kernel_rfl
theorem spec_l4Words_ok : spec_l4Words_C.Ok E0 := fn_ok (T := spec_l4Words_T) (h := spec_l4Words_H) (Ls := spec_l4Words_Ls) E0_mixed (T_cons spec_l01Below_ok T_nil) Try.func111 (bodyOf_some (by kernel_rfl)) (by kernel_rfl) (loops_of (ks := [0]) (by kernel_rfl) ⟨(loop_one (h := spec_l4Words_H) (own := []) (head := spec_l4Words_h0) (back := []) (exs := [(.exit 0, [])]) (res := spec_l4Words_r0) (step := spec_l4Words_s0) (by kernel_rfl) spec_l4Words_l0), trivial⟩) spec_l4Words_e
def spec_l3Measure_arg : Sh := ⟨[(0, .c (.box 0 0))], [(0, .cells [.rd [] .u8, .int .i64, .int .i64])], []⟩
def spec_l3Measure_res : List Sh := [⟨[(0, .agg [.int .i64, .int .i64, .int .i64]), (1, .c (.box 0 0))], [(0, .cells [.rd [] .u8, .int .i64, .int .i64])], []⟩]
noncomputable def spec_l3Measure (b0_0 : List Int) (b0_1 : Int) (b0_2 : Int) : Option (((Int × Int × Int × Unit) × Unit × Unit) × ((List Int × Int × Int × Unit) × Unit) × Unit) :=
 (spec_l01Below (200 : Int) b0_0 b0_1 b0_2).bind fun r1 =>
 let x2 : Int := w64 ((1 : Int) + r1.1.1);
 (spec_l01Below (6 : Int) r1.2.1.1.1 r1.2.1.1.2.1 r1.2.1.1.2.2.1).bind fun r3 =>
 let x4 : Int := w64 ((1 : Int) + r3.1.1);
 (spec_l01Below (12 : Int) r3.2.1.1.1 r3.2.1.1.2.1 r3.2.1.1.2.2.1).bind fun r5 =>
 let x6 : Int := w64 (x4 + r5.1.1);
 some (((x2, x4, x6, ()), (), ()), ((r5.2.1.1.1, r5.2.1.1.2.1, r5.2.1.1.2.2.1, ()), ()), ())
noncomputable def spec_l3Measure_C : Ctr := ⟨120, spec_l3Measure_arg, spec_l3Measure_res, fun x => spec_l3Measure x.2.1.1.1 x.2.1.1.2.1 x.2.1.1.2.2.1, none⟩
def spec_l3Measure_H : Hint := ⟨[], [], [], fun _ => []⟩
noncomputable def spec_l3Measure_T : List Ctr := [spec_l01Below_C]
noncomputable def spec_l3Measure_Ls : List Lp := []
theorem spec_l3Measure_e : ∀ x, spec_l3Measure_C.F x = runBodyW E0 spec_l3Measure_T spec_l3Measure_Ls spec_l3Measure_H 120 Try.f120.results.toList (bodyOf Try.f120) [] (spec_l3Measure_arg.mk' x) spec_l3Measure_res := fun x => by kernel_rfl
theorem spec_l3Measure_ok : spec_l3Measure_C.Ok E0 := fn_ok (T := spec_l3Measure_T) (h := spec_l3Measure_H) (Ls := spec_l3Measure_Ls) E0_mixed (T_cons spec_l01Below_ok T_nil) Try.func120 (bodyOf_some (by kernel_rfl)) (by kernel_rfl) (loops_of (ks := []) (by kernel_rfl) trivial) spec_l3Measure_e
def spec_l01Int_arg : Sh := ⟨[(0, .c (.box 0 0)), (1, .c (.rd [] .i64))], [(0, .cells [.rd [] .u8, .int .i64, .int .i64])], []⟩
def spec_l01Int_res : List Sh := [⟨[(0, .c (.int .i64)), (1, .c (.box 0 0))], [(0, .cells [.rd [] .u8, .int .i64, .int .i64])], []⟩]
noncomputable def spec_l01Int (a1 : List Int) (b0_0 : List Int) (b0_1 : Int) (b0_2 : Int) : Option ((Int × Unit × Unit) × ((List Int × Int × Int × Unit) × Unit) × Unit) :=
 (spec_l01Below (a1.length : Int) b0_0 b0_1 b0_2).bind fun r1 =>
 ck (0 ≤ r1.1.1)
 (ck (r1.1.1.toNat < a1.length)
 (let x2 : Int := a1.getD r1.1.1.toNat 0;
 some ((x2, (), ()), ((r1.2.1.1.1, r1.2.1.1.2.1, r1.2.1.1.2.2.1, ()), ()), ())))
noncomputable def spec_l01Int_C : Ctr := ⟨59, spec_l01Int_arg, spec_l01Int_res, fun x => spec_l01Int x.1.2.1 x.2.1.1.1 x.2.1.1.2.1 x.2.1.1.2.2.1, none⟩
def spec_l01Int_H : Hint := ⟨[], [], [], fun _ => []⟩
noncomputable def spec_l01Int_T : List Ctr := [spec_l01Below_C]
noncomputable def spec_l01Int_Ls : List Lp := []
theorem spec_l01Int_e : ∀ x, spec_l01Int_C.F x = runBodyW E0 spec_l01Int_T spec_l01Int_Ls spec_l01Int_H 59 Try.f59.results.toList (bodyOf Try.f59) [] (spec_l01Int_arg.mk' x) spec_l01Int_res := fun x => by kernel_rfl
theorem spec_l01Int_ok : spec_l01Int_C.Ok E0 := fn_ok (T := spec_l01Int_T) (h := spec_l01Int_H) (Ls := spec_l01Int_Ls) E0_mixed (T_cons spec_l01Below_ok T_nil) Try.func59 (bodyOf_some (by kernel_rfl)) (by kernel_rfl) (loops_of (ks := []) (by kernel_rfl) trivial) spec_l01Int_e
def spec_l3Any_arg : Sh := ⟨[(0, .c (.box 0 0))], [(0, .cells [.rd [] .u8, .int .i64, .int .i64])], []⟩
def spec_l3Any_res : List Sh := [⟨[(0, .agg [.int .i64, .int .i64, .int .i64]), (1, .c (.box 0 0))], [(0, .cells [.rd [] .u8, .int .i64, .int .i64])], []⟩]
noncomputable def spec_l3Any (b0_0 : List Int) (b0_1 : Int) (b0_2 : Int) : Option (((Int × Int × Int × Unit) × Unit × Unit) × ((List Int × Int × Int × Unit) × Unit) × Unit) :=
 (spec_l3Measure b0_0 b0_1 b0_2).bind fun r1 =>
 (spec_l01Below (16 : Int) r1.2.1.1.1 r1.2.1.1.2.1 r1.2.1.1.2.2.1).bind fun r2 =>
 let x3 : Bool := r2.1.1 == (0 : Int);
 br x3
 ((spec_l01Int [(0 : Int), (-1 : Int), (2000 : Int), (2001 : Int), (4611686018427387904 : Int)] r2.2.1.1.1 r2.2.1.1.2.1 r2.2.1.1.2.2.1).bind fun r4 =>
 some (((r4.1.1, r1.1.1.2.1, r1.1.1.2.2.1, ()), (), ()), ((r4.2.1.1.1, r4.2.1.1.2.1, r4.2.1.1.2.2.1, ()), ()), ()))
 (let x5 : Bool := r2.1.1 == (1 : Int);
 br x5
 ((spec_l01Int [(0 : Int), (100 : Int), (101 : Int), (-7 : Int)] r2.2.1.1.1 r2.2.1.1.2.1 r2.2.1.1.2.2.1).bind fun r6 =>
 some (((r1.1.1.1, r6.1.1, r6.1.1, ()), (), ()), ((r6.2.1.1.1, r6.2.1.1.2.1, r6.2.1.1.2.2.1, ()), ()), ()))
 (let x7 : Bool := r2.1.1 == (2 : Int);
 br x7
 (let x8 : Int := w64 (r1.1.1.2.1 - (1 : Int));
 (spec_l01Int [(0 : Int), (100 : Int), (101 : Int), x8] r2.2.1.1.1 r2.2.1.1.2.1 r2.2.1.1.2.2.1).bind fun r9 =>
 some (((r1.1.1.1, r1.1.1.2.1, r9.1.1, ()), (), ()), ((r9.2.1.1.1, r9.2.1.1.2.1, r9.2.1.1.2.2.1, ()), ()), ()))
 (some (((r1.1.1.1, r1.1.1.2.1, r1.1.1.2.2.1, ()), (), ()), ((r2.2.1.1.1, r2.2.1.1.2.1, r2.2.1.1.2.2.1, ()), ()), ()))))
noncomputable def spec_l3Any_C : Ctr := ⟨112, spec_l3Any_arg, spec_l3Any_res, fun x => spec_l3Any x.2.1.1.1 x.2.1.1.2.1 x.2.1.1.2.2.1, none⟩
def spec_l3Any_H : Hint := ⟨[], [], [], fun _ => []⟩
noncomputable def spec_l3Any_T : List Ctr := [spec_l3Measure_C, spec_l01Below_C, spec_l01Int_C]
noncomputable def spec_l3Any_Ls : List Lp := []
theorem spec_l3Any_e : ∀ x, spec_l3Any_C.F x = runBodyW E0 spec_l3Any_T spec_l3Any_Ls spec_l3Any_H 112 Try.f112.results.toList (bodyOf Try.f112) [] (spec_l3Any_arg.mk' x) spec_l3Any_res := fun x => by kernel_rfl
theorem spec_l3Any_ok : spec_l3Any_C.Ok E0 := fn_ok (T := spec_l3Any_T) (h := spec_l3Any_H) (Ls := spec_l3Any_Ls) E0_mixed (T_cons spec_l3Measure_ok (T_cons spec_l01Below_ok (T_cons spec_l01Int_ok T_nil))) Try.func112 (bodyOf_some (by kernel_rfl)) (by kernel_rfl) (loops_of (ks := []) (by kernel_rfl) trivial) spec_l3Any_e
def spec_l4Both_arg : Sh := ⟨[(0, .c (.box 0 0))], [(0, .cells [.rd [] .u8, .int .i64, .int .i64])], []⟩
def spec_l4Both_res : List Sh := [⟨[(0, .agg [.int .i64, .int .i64, .int .i64]), (1, .c (.own 0)), (2, .c (.box 0 0))], [(0, .cells [.rd [] .u8, .int .i64, .int .i64])], [(0, .i64)]⟩]
noncomputable def spec_l4Both_s1 (x : (Unit × Unit × Unit × Unit × Int × Unit) × ((List Int × Int × Int × Unit) × (Int × Int × Int × Unit) × (Int × Int × Int × Unit) × Unit) × (List Int × Unit)) : Option (((Unit × Unit × Unit × Unit × Int × Unit) × ((List Int × Int × Int × Unit) × (Int × Int × Int × Unit) × (Int × Int × Int × Unit) × Unit) × (List Int × Unit)) ⊕ ((Unit × Unit × Unit × Unit × Unit) × ((List Int × Int × Int × Unit) × (Int × Int × Int × Unit) × (Int × Int × Int × Unit) × Unit) × (List Int × Unit))) :=
 let x12 : Bool := decide ((x.2.2.1.length : Int) < x.1.2.2.2.2.1);
 br x12
 ((spec_l01Below (4 : Int) x.2.1.1.1 x.2.1.1.2.1 x.2.1.1.2.2.1).bind fun r13 =>
 let x14 : Int := w64 ((1 : Int) + r13.1.1);
 ck ((x.2.2.1.length + [x14].length) * 8 ≤ 140737488355328 ∧ (x.2.2.1.length + [x14].length) ≤ 9223372036854775807)
 (let x15 : List Int := x.2.2.1 ++ [x14];
 some (.inl (((), (), (), (), x.1.2.2.2.2.1, ()), ((r13.2.1.1.1, r13.2.1.1.2.1, r13.2.1.1.2.2.1, ()), (x.2.1.2.1.1, x.2.1.2.1.2.1, x.2.1.2.1.2.2.1, ()), (x.2.1.2.2.1.1, x.2.1.2.2.1.2.1, x.2.1.2.2.1.2.2.1, ()), ()), (x15, ())))))
 (some (.inr (((), (), (), (), ()), ((x.2.1.1.1, x.2.1.1.2.1, x.2.1.1.2.2.1, ()), (x.2.1.2.1.1, x.2.1.2.1.2.1, x.2.1.2.1.2.2.1, ()), (x.2.1.2.2.1.1, x.2.1.2.2.1.2.1, x.2.1.2.2.1.2.2.1, ()), ()), (x.2.2.1, ()))))
def spec_l4Both_h1 : Sh := ⟨[(0, .c (.box 0 0)), (2, .c (.box 1 0)), (4, .c (.box 2 0)), (5, .c (.own 0)), (6, .c (.int .i64))], [(0, .cells [.rd [] .u8, .int .i64, .int .i64]), (1, .cells [.int .i64, .int .i64, .int .i64]), (2, .cells [.int .i64, .int .i64, .int .i64])], [(0, .i64)]⟩
def spec_l4Both_r1 : List Sh := [⟨[(0, .c (.box 0 0)), (2, .c (.box 1 0)), (4, .c (.box 2 0)), (5, .c (.own 0))], [(0, .cells [.rd [] .u8, .int .i64, .int .i64]), (1, .cells [.int .i64, .int .i64, .int .i64]), (2, .cells [.int .i64, .int .i64, .int .i64])], [(0, .i64)]⟩]
noncomputable def spec_l4Both_L1 : Lp := ⟨1, [], spec_l4Both_h1, [], [(.exit 1, [])], spec_l4Both_r1, loopC spec_l4Both_s1⟩
noncomputable def spec_l4Both (b0_0 : List Int) (b0_1 : Int) (b0_2 : Int) : Option (((Int × Int × Int × Unit) × Unit × Unit × Unit) × ((List Int × Int × Int × Unit) × Unit) × (List Int × Unit)) :=
 (spec_l4Measure b0_0 b0_1 b0_2).bind fun r1 =>
 (spec_l4Words r1.2.1.1.1 r1.2.1.1.2.1 r1.2.1.1.2.2.1).bind fun r2 =>
 (spec_l01Below (20 : Int) r2.2.1.1.1 r2.2.1.1.2.1 r2.2.1.1.2.2.1).bind fun r3 =>
 let x4 : Bool := r3.1.1 == (0 : Int);
 br x4
 ((spec_l3Any r3.2.1.1.1 r3.2.1.1.2.1 r3.2.1.1.2.2.1).bind fun r5 =>
 some (((r5.1.1.1, r5.1.1.2.1, r5.1.1.2.2.1, ()), (), (), ()), ((r5.2.1.1.1, r5.2.1.1.2.1, r5.2.1.1.2.2.1, ()), ()), (r2.2.2.1, ())))
 (let x6 : Bool := r3.1.1 == (1 : Int);
 br x6
 ((spec_l01Int [(0 : Int), (-1 : Int), (2000 : Int), (2001 : Int)] r3.2.1.1.1 r3.2.1.1.2.1 r3.2.1.1.2.2.1).bind fun r7 =>
 ck ((r2.2.2.1.length + [r7.1.1].length) * 8 ≤ 140737488355328 ∧ (r2.2.2.1.length + [r7.1.1].length) ≤ 9223372036854775807)
 (let x8 : List Int := r2.2.2.1 ++ [r7.1.1];
 some (((r1.1.1.1, r1.1.1.2.1, r1.1.1.2.2.1, ()), (), (), ()), ((r7.2.1.1.1, r7.2.1.1.2.1, r7.2.1.1.2.2.1, ()), ()), (x8, ()))))
 (let x9 : Bool := r3.1.1 == (2 : Int);
 br x9
 ((spec_l01Below (3 : Int) r3.2.1.1.1 r3.2.1.1.2.1 r3.2.1.1.2.2.1).bind fun r10 =>
 let x11 : Int := w64 ((39 : Int) + r10.1.1);
 (loopC spec_l4Both_s1 (((), (), (), (), x11, ()), ((r10.2.1.1.1, r10.2.1.1.2.1, r10.2.1.1.2.2.1, ()), ((0 : Int), (0 : Int), (0 : Int), ()), (r1.1.1.1, r1.1.1.2.1, r1.1.1.2.2.1, ()), ()), (r2.2.2.1, ()))).bind fun r16 =>
 some (((r16.2.1.2.2.1.1, r16.2.1.2.2.1.2.1, r16.2.1.2.2.1.2.2.1, ()), (), (), ()), ((r16.2.1.1.1, r16.2.1.1.2.1, r16.2.1.1.2.2.1, ()), ()), (r16.2.2.1, ())))
 (let x17 : Bool := r3.1.1 == (3 : Int);
 br x17
 (some (((r1.1.1.1, r1.1.1.2.1, r1.1.1.2.2.1, ()), (), (), ()), ((r3.2.1.1.1, r3.2.1.1.2.1, r3.2.1.1.2.2.1, ()), ()), ([], ())))
 (some (((r1.1.1.1, r1.1.1.2.1, r1.1.1.2.2.1, ()), (), (), ()), ((r3.2.1.1.1, r3.2.1.1.2.1, r3.2.1.1.2.2.1, ()), ()), (r2.2.2.1, ()))))))
noncomputable def spec_l4Both_C : Ctr := ⟨79, spec_l4Both_arg, spec_l4Both_res, fun x => spec_l4Both x.2.1.1.1 x.2.1.1.2.1 x.2.1.1.2.2.1, none⟩
def spec_l4Both_H : Hint := ⟨[], [], [], fun _ => []⟩
noncomputable def spec_l4Both_T : List Ctr := [spec_l4Measure_C, spec_l4Words_C, spec_l01Below_C, spec_l3Any_C, spec_l01Int_C]
noncomputable def spec_l4Both_Ls : List Lp := [spec_l4Both_L1]
theorem spec_l4Both_l1 : ∀ x, spec_l4Both_s1 x = stepW E0 spec_l4Both_T spec_l4Both_Ls spec_l4Both_H (loopAt (bodyOf Try.f79) 0) 1 spec_l4Both_h1 [] [(.exit 1, [])] spec_l4Both_r1 x := fun x => by kernel_rfl
theorem spec_l4Both_e : ∀ x, spec_l4Both_C.F x = runBodyW E0 spec_l4Both_T spec_l4Both_Ls spec_l4Both_H 79 Try.f79.results.toList (bodyOf Try.f79) [(.tm 3, 6000000, .i64)] (spec_l4Both_arg.mk' x) spec_l4Both_res := fun x => by kernel_rfl
theorem spec_l4Both_ok : spec_l4Both_C.Ok E0 := fn_ok (T := spec_l4Both_T) (h := spec_l4Both_H) (Ls := spec_l4Both_Ls) E0_mixed (T_cons spec_l4Measure_ok (T_cons spec_l4Words_ok (T_cons spec_l01Below_ok (T_cons spec_l3Any_ok (T_cons spec_l01Int_ok T_nil))))) Try.func79 (bodyOf_some (by kernel_rfl)) (by kernel_rfl) (loops_of (ks := [1]) (by kernel_rfl) ⟨(loop_one (h := spec_l4Both_H) (own := []) (head := spec_l4Both_h1) (back := []) (exs := [(.exit 1, [])]) (res := spec_l4Both_r1) (step := spec_l4Both_s1) (by kernel_rfl) spec_l4Both_l1), trivial⟩) spec_l4Both_e
def spec_l01Once_arg : Sh := ⟨[(0, .c (.box 0 0)), (1, .c (.int .i64))], [(0, .cells [.rd [] .u8, .int .i64, .int .i64])], []⟩
def spec_l01Once_res : List Sh := [⟨[(0, .c (.bool)), (1, .c (.box 0 0))], [(0, .cells [.rd [] .u8, .int .i64, .int .i64])], []⟩]
noncomputable def spec_l01Once (a1 : Int) (b0_0 : List Int) (b0_1 : Int) (b0_2 : Int) : Option ((Bool × Unit × Unit) × ((List Int × Int × Int × Unit) × Unit) × Unit) :=
 (spec_l01Below a1 b0_0 b0_1 b0_2).bind fun r1 =>
 let x2 : Bool := r1.1.1 == (0 : Int);
 some ((x2, (), ()), ((r1.2.1.1.1, r1.2.1.1.2.1, r1.2.1.1.2.2.1, ()), ()), ())
noncomputable def spec_l01Once_C : Ctr := ⟨75, spec_l01Once_arg, spec_l01Once_res, fun x => spec_l01Once x.1.2.1 x.2.1.1.1 x.2.1.1.2.1 x.2.1.1.2.2.1, none⟩
def spec_l01Once_H : Hint := ⟨[], [], [], fun _ => []⟩
noncomputable def spec_l01Once_T : List Ctr := [spec_l01Below_C]
noncomputable def spec_l01Once_Ls : List Lp := []
theorem spec_l01Once_e : ∀ x, spec_l01Once_C.F x = runBodyW E0 spec_l01Once_T spec_l01Once_Ls spec_l01Once_H 75 Try.f75.results.toList (bodyOf Try.f75) [] (spec_l01Once_arg.mk' x) spec_l01Once_res := fun x => by kernel_rfl
theorem spec_l01Once_ok : spec_l01Once_C.Ok E0 := fn_ok (T := spec_l01Once_T) (h := spec_l01Once_H) (Ls := spec_l01Once_Ls) E0_mixed (T_cons spec_l01Below_ok T_nil) Try.func75 (bodyOf_some (by kernel_rfl)) (by kernel_rfl) (loops_of (ks := []) (by kernel_rfl) trivial) spec_l01Once_e
def spec_DrawLineKind_arg : Sh := ⟨[(0, .c (.rd [] .u8))], [], []⟩
def spec_DrawLineKind_res : List Sh := [⟨[(0, .agg [.int .i64, .int .i64, .int .i64]), (1, .c (.own 0)), (2, .c (.int .i64)), (3, .c (.int .i64))], [], [(0, .i64)]⟩]
noncomputable def spec_DrawLineKind (a0 : List Int) : Option (((Int × Int × Int × Unit) × Unit × Int × Int × Unit) × Unit × (List Int × Unit)) :=
 (spec_l01New a0).bind fun r1 =>
 (spec_l4Both r1.2.1.1.1 r1.2.1.1.2.1 r1.2.1.1.2.2.1).bind fun r2 =>
 let x3 : Int := w64 ((r2.2.2.1.length : Int) + (1 : Int));
 (spec_l01Below x3 r2.2.1.1.1 r2.2.1.1.2.1 r2.2.1.1.2.2.1).bind fun r4 =>
 let x5 : Int := w64 (r4.1.1 + (1 : Int));
 (spec_l01Below (9 : Int) r4.2.1.1.1 r4.2.1.1.2.1 r4.2.1.1.2.2.1).bind fun r6 =>
 let x7 : Int := w64 (x5 + r6.1.1);
 (spec_l01Once (8 : Int) r6.2.1.1.1 r6.2.1.1.2.1 r6.2.1.1.2.2.1).bind fun r8 =>
 br r8.1.1
 ((spec_l01Int [(0 : Int), (1 : Int), r4.1.1, (r2.2.2.1.length : Int), x3, (9223372036854775807 : Int)] r8.2.1.1.1 r8.2.1.1.2.1 r8.2.1.1.2.2.1).bind fun r9 =>
 (spec_l01Once (12 : Int) r9.2.1.1.1 r9.2.1.1.2.1 r9.2.1.1.2.2.1).bind fun r10 =>
 br r10.1.1
 ((spec_l01Int [(-1 : Int), (0 : Int), (-9223372036854775808 : Int)] r10.2.1.1.1 r10.2.1.1.2.1 r10.2.1.1.2.2.1).bind fun r11 =>
 some (((r2.1.1.1, r2.1.1.2.1, r2.1.1.2.2.1, ()), (), r11.1.1, r9.1.1, ()), (), (r2.2.2.1, ())))
 (some (((r2.1.1.1, r2.1.1.2.1, r2.1.1.2.2.1, ()), (), r4.1.1, r9.1.1, ()), (), (r2.2.2.1, ()))))
 ((spec_l01Once (12 : Int) r8.2.1.1.1 r8.2.1.1.2.1 r8.2.1.1.2.2.1).bind fun r12 =>
 br r12.1.1
 ((spec_l01Int [(-1 : Int), (0 : Int), (-9223372036854775808 : Int)] r12.2.1.1.1 r12.2.1.1.2.1 r12.2.1.1.2.2.1).bind fun r13 =>
 some (((r2.1.1.1, r2.1.1.2.1, r2.1.1.2.2.1, ()), (), r13.1.1, x7, ()), (), (r2.2.2.1, ())))
 (some (((r2.1.1.1, r2.1.1.2.1, r2.1.1.2.2.1, ()), (), r4.1.1, x7, ()), (), (r2.2.2.1, ()))))
noncomputable def spec_DrawLineKind_C : Ctr := ⟨37, spec_DrawLineKind_arg, spec_DrawLineKind_res, fun x => spec_DrawLineKind x.1.1, none⟩
def spec_DrawLineKind_H : Hint := ⟨[], [], [], fun _ => []⟩
noncomputable def spec_DrawLineKind_T : List Ctr := [spec_l01New_C, spec_l4Both_C, spec_l01Below_C, spec_l01Once_C, spec_l01Int_C]
noncomputable def spec_DrawLineKind_Ls : List Lp := []
theorem spec_DrawLineKind_e : ∀ x, spec_DrawLineKind_C.F x = runBodyW E0 spec_DrawLineKind_T spec_DrawLineKind_Ls spec_DrawLineKind_H 37 Try.f37.results.toList (bodyOf Try.f37) [] (spec_DrawLineKind_arg.mk' x) spec_DrawLineKind_res := fun x => by kernel_rfl
theorem spec_DrawLineKind_ok : spec_DrawLineKind_C.Ok E0 := fn_ok (T := spec_DrawLineKind_T) (h := spec_DrawLineKind_H) (Ls := spec_DrawLineKind_Ls) E0_mixed (T_cons spec_l01New_ok (T_cons spec_l4Both_ok (T_cons spec_l01Below_ok (T_cons spec_l01Once_ok (T_cons spec_l01Int_ok T_nil))))) Try.func37 (bodyOf_some (by kernel_rfl)) (by kernel_rfl) (loops_of (ks := []) (by kernel_rfl) trivial) spec_DrawLineKind_e
def impl_MeasureOk_arg : Sh := ⟨[(0, .agg [.int .i64, .int .i64, .int .i64])], [], []⟩
def impl_MeasureOk_res : List Sh := [⟨[(0, .c (.bool))], [], []⟩]
noncomputable def impl_MeasureOk (a0_0 : Int) (a0_1 : Int) (a0_2 : Int) : Option ((Bool × Unit) × Unit × Unit) :=
 let x1 : Bool := decide (a0_0 ≥ (1 : Int));
 br x1
 (let x2 : Bool := decide (a0_0 ≤ (2000 : Int));
 br x2
 (let x3 : Bool := decide (a0_1 ≥ (1 : Int));
 br x3
 (let x4 : Bool := decide (a0_1 ≤ (100 : Int));
 br x4
 (let x5 : Bool := decide (a0_2 ≥ a0_1);
 br x5
 (let x6 : Bool := decide (a0_2 ≤ (100 : Int));
 some ((x6, ()), (), ()))
 (some ((false, ()), (), ())))
 (some ((false, ()), (), ())))
 (some ((false, ()), (), ())))
 (some ((false, ()), (), ())))
 (some ((false, ()), (), ()))
noncomputable def impl_MeasureOk_C : Ctr := ⟨82, impl_MeasureOk_arg, impl_MeasureOk_res, fun x => impl_MeasureOk x.1.1.1 x.1.1.2.1 x.1.1.2.2.1, none⟩
def impl_MeasureOk_H : Hint := ⟨[], [], [], fun _ => []⟩
noncomputable def impl_MeasureOk_T : List Ctr := []
noncomputable def impl_MeasureOk_Ls : List Lp := []
theorem impl_MeasureOk_e : ∀ x, impl_MeasureOk_C.F x = runBodyW E0 impl_MeasureOk_T impl_MeasureOk_Ls impl_MeasureOk_H 82 Try.f82.results.toList (bodyOf Try.f82) [] (impl_MeasureOk_arg.mk' x) impl_MeasureOk_res := fun x => by kernel_rfl
theorem impl_MeasureOk_ok : impl_MeasureOk_C.Ok E0 := fn_ok (T := impl_MeasureOk_T) (h := impl_MeasureOk_H) (Ls := impl_MeasureOk_Ls) E0_mixed T_nil Try.func82 (bodyOf_some (by kernel_rfl)) (by kernel_rfl) (loops_of (ks := []) (by kernel_rfl) trivial) impl_MeasureOk_e
def impl_between_1_arg : Sh := ⟨[(0, .c (.int .i64)), (1, .c (.rad [] [.int .i64])), (2, .c (.rad [] [.int .i64]))], [], []⟩
def impl_between_1_res : List Sh := [⟨[(0, .c (.bool))], [], []⟩]
noncomputable def impl_between_1 (a0 : Int) (a1_0 : Int) (a2_0 : Int) : Option ((Bool × Unit) × Unit × Unit) :=
 let x1 : Bool := decide (a0 < a1_0);
 br x1
 (some ((true, ()), (), ()))
 (let x2 : Bool := decide (a0 > a2_0);
 some ((x2, ()), (), ()))
noncomputable def impl_between_1_C : Ctr := ⟨129, impl_between_1_arg, impl_between_1_res, fun x => impl_between_1 x.1.1 x.1.2.1.1 x.1.2.2.1.1, none⟩
def impl_between_1_H : Hint := ⟨[], [], [], fun _ => []⟩
noncomputable def impl_between_1_T : List Ctr := []
noncomputable def impl_between_1_Ls : List Lp := []
theorem impl_between_1_e : ∀ x, impl_between_1_C.F x = runBodyW E0 impl_between_1_T impl_between_1_Ls impl_between_1_H 129 Try.f129.results.toList (bodyOf Try.f129) [] (impl_between_1_arg.mk' x) impl_between_1_res := fun x => by kernel_rfl
theorem impl_between_1_ok : impl_between_1_C.Ok E0 := fn_ok (T := impl_between_1_T) (h := impl_between_1_H) (Ls := impl_between_1_Ls) E0_mixed T_nil Try.func129 (bodyOf_some (by kernel_rfl)) (by kernel_rfl) (loops_of (ks := []) (by kernel_rfl) trivial) impl_between_1_e
def IndexFunc_int_impl_between_1_arg : Sh := ⟨[(0, .c (.rd [] .i64)), (1, .c (.fnr 129 [[.int .i64], [.int .i64]]))], [], []⟩
def IndexFunc_int_impl_between_1_res : List Sh := [⟨[(0, .c (.int .i64))], [], []⟩]
noncomputable def IndexFunc_int_impl_between_1_s0 (x : (List Int × ((Int × Unit) × (Int × Unit) × Unit) × Int × Int × Unit) × Unit × Unit) : Option (((List Int × ((Int × Unit) × (Int × Unit) × Unit) × Int × Int × Unit) × Unit × Unit) ⊕ (((Int × Unit) × Unit × Unit) ⊕ (Unit × Unit × Unit))) :=
 let x1 : Bool := decide (x.1.2.2.2.1 < x.1.2.2.1);
 br x1
 (ck (0 ≤ x.1.2.2.2.1)
 (ck (x.1.2.2.2.1.toNat < x.1.1.length)
 (let x2 : Int := x.1.1.getD x.1.2.2.2.1.toNat 0;
 (impl_between_1 x2 x.1.2.1.1.1 x.1.2.1.2.1.1).bind fun r3 =>
 br r3.1.1
 (some (.inr (.inl ((x.1.2.2.2.1, ()), (), ()))))
 (let x4 : Int := w64 (x.1.2.2.2.1 + (1 : Int));
 some (.inl ((x.1.1, ((x.1.2.1.1.1, ()), (x.1.2.1.2.1.1, ()), ()), x.1.2.2.1, x4, ()), (), ()))))))
 (some (.inr (.inr ((), (), ()))))
def IndexFunc_int_impl_between_1_h0 : Sh := ⟨[(0, .c (.rd [] .i64)), (1, .c (.fnr 129 [[.int .i64], [.int .i64]])), (7, .c (.int .i64)), (8, .c (.int .i64))], [], []⟩
def IndexFunc_int_impl_between_1_r0 : List Sh := [⟨[(4, .c (.int .i64))], [], []⟩, ⟨[], [], []⟩]
noncomputable def IndexFunc_int_impl_between_1_L0 : Lp := ⟨0, [], IndexFunc_int_impl_between_1_h0, [], [(.ret, []), (.exit 0, [])], IndexFunc_int_impl_between_1_r0, loopC IndexFunc_int_impl_between_1_s0⟩
noncomputable def IndexFunc_int_impl_between_1 (a0 : List Int) (a1_0_0 : Int) (a1_1_0 : Int) : Option ((Int × Unit) × Unit × Unit) :=
 (loopC IndexFunc_int_impl_between_1_s0 ((a0, ((a1_0_0, ()), (a1_1_0, ()), ()), (a0.length : Int), (0 : Int), ()), (), ())).bind fun r5 =>
 sumK r5 (fun y8 =>
 some ((y8.1.1, ()), (), ())) (fun y9 =>
 some (((-1 : Int), ()), (), ()))
noncomputable def IndexFunc_int_impl_between_1_C : Ctr := ⟨134, IndexFunc_int_impl_between_1_arg, IndexFunc_int_impl_between_1_res, fun x => IndexFunc_int_impl_between_1 x.1.1 x.1.2.1.1.1 x.1.2.1.2.1.1, none⟩
def IndexFunc_int_impl_between_1_H : Hint := ⟨[], [], [], fun _ => []⟩
noncomputable def IndexFunc_int_impl_between_1_T : List Ctr := [impl_between_1_C]
noncomputable def IndexFunc_int_impl_between_1_Ls : List Lp := [IndexFunc_int_impl_between_1_L0]
theorem IndexFunc_int_impl_between_1_l0 : ∀ x, IndexFunc_int_impl_between_1_s0 x = stepW E0 IndexFunc_int_impl_between_1_T IndexFunc_int_impl_between_1_Ls IndexFunc_int_impl_between_1_H (loopAt (bodyOf Try.f134) 0) 0 IndexFunc_int_impl_between_1_h0 [] [(.ret, []), (.exit 0, [])] IndexFunc_int_impl_between_1_r0 x := fun x => by kernel_rfl
theorem IndexFunc_int_impl_between_1_e : ∀ x, IndexFunc_int_impl_between_1_C.F x = runBodyW E0 IndexFunc_int_impl_between_1_T IndexFunc_int_impl_between_1_Ls IndexFunc_int_impl_between_1_H 134 Try.f134.results.toList (bodyOf Try.f134) [] (IndexFunc_int_impl_between_1_arg.mk' x) IndexFunc_int_impl_between_1_res := fun x => by kernel_rfl
theorem IndexFunc_int_impl_between_1_ok : IndexFunc_int_impl_between_1_C.Ok E0 := fn_ok (T := IndexFunc_int_impl_between_1_T) (h := IndexFunc_int_impl_between_1_H) (Ls := IndexFunc_int_impl_between_1_Ls) E0_mixed (T_cons impl_between_1_ok T_nil) Try.func134 (bodyOf_some (by kernel_rfl)) (by kernel_rfl) (loops_of (ks := [0]) (by kernel_rfl) ⟨(loop_one (h := IndexFunc_int_impl_between_1_H) (own := []) (head := IndexFunc_int_impl_between_1_h0) (back := []) (exs := [(.ret, []), (.exit 0, [])]) (res := IndexFunc_int_impl_between_1_r0) (step := IndexFunc_int_impl_between_1_s0) (by kernel_rfl) IndexFunc_int_impl_between_1_l0), trivial⟩) IndexFunc_int_impl_between_1_e
def ContainsFunc_int_impl_between_1_arg : Sh := ⟨[(0, .c (.rd [] .i64)), (1, .c (.fnr 129 [[.int .i64], [.int .i64]]))], [], []⟩
def ContainsFunc_int_impl_between_1_res : List Sh := [⟨[(0, .c (.bool))], [], []⟩]
noncomputable def ContainsFunc_int_impl_between_1 (a0 : List Int) (a1_0_0 : Int) (a1_1_0 : Int) : Option ((Bool × Unit) × Unit × Unit) :=
 (IndexFunc_int_impl_between_1 a0 a1_0_0 a1_1_0).bind fun r1 =>
 let x2 : Bool := decide (r1.1.1 ≥ (0 : Int));
 some ((x2, ()), (), ())
noncomputable def ContainsFunc_int_impl_between_1_C : Ctr := ⟨128, ContainsFunc_int_impl_between_1_arg, ContainsFunc_int_impl_between_1_res, fun x => ContainsFunc_int_impl_between_1 x.1.1 x.1.2.1.1.1 x.1.2.1.2.1.1, none⟩
def ContainsFunc_int_impl_between_1_H : Hint := ⟨[], [], [], fun _ => []⟩
noncomputable def ContainsFunc_int_impl_between_1_T : List Ctr := [IndexFunc_int_impl_between_1_C]
noncomputable def ContainsFunc_int_impl_between_1_Ls : List Lp := []
theorem ContainsFunc_int_impl_between_1_e : ∀ x, ContainsFunc_int_impl_between_1_C.F x = runBodyW E0 ContainsFunc_int_impl_between_1_T ContainsFunc_int_impl_between_1_Ls ContainsFunc_int_impl_between_1_H 128 Try.f128.results.toList (bodyOf Try.f128) [] (ContainsFunc_int_impl_between_1_arg.mk' x) ContainsFunc_int_impl_between_1_res := fun x => by kernel_rfl
theorem ContainsFunc_int_impl_between_1_ok : ContainsFunc_int_impl_between_1_C.Ok E0 := fn_ok (T := ContainsFunc_int_impl_between_1_T) (h := ContainsFunc_int_impl_between_1_H) (Ls := ContainsFunc_int_impl_between_1_Ls) E0_mixed (T_cons IndexFunc_int_impl_between_1_ok T_nil) Try.func128 (bodyOf_some (by kernel_rfl)) (by kernel_rfl) (loops_of (ks := []) (by kernel_rfl) trivial) ContainsFunc_int_impl_between_1_e
def impl_between_arg : Sh := ⟨[(0, .c (.rd [] .i64)), (1, .c (.int .i64)), (2, .c (.int .i64))], [], []⟩
def impl_between_res : List Sh := [⟨[(0, .c (.bool))], [], []⟩]
noncomputable def impl_between (a0 : List Int) (a1 : Int) (a2 : Int) : Option ((Bool × Unit) × Unit × Unit) :=
 (ContainsFunc_int_impl_between_1 a0 a1 a2).bind fun r1 =>
 some ((!r1.1.1, ()), (), ())
noncomputable def impl_between_C : Ctr := ⟨115, impl_between_arg, impl_between_res, fun x => impl_between x.1.1 x.1.2.1 x.1.2.2.1, none⟩
def impl_between_H : Hint := ⟨[], [], [], fun _ => []⟩
noncomputable def impl_between_T : List Ctr := [ContainsFunc_int_impl_between_1_C]
noncomputable def impl_between_Ls : List Lp := []
theorem impl_between_e : ∀ x, impl_between_C.F x = runBodyW E0 impl_between_T impl_between_Ls impl_between_H 115 Try.f115.results.toList (bodyOf Try.f115) [] (impl_between_arg.mk' x) impl_between_res := fun x => by kernel_rfl
theorem impl_between_ok : impl_between_C.Ok E0 := fn_ok (T := impl_between_T) (h := impl_between_H) (Ls := impl_between_Ls) E0_mixed (T_cons ContainsFunc_int_impl_between_1_ok T_nil) Try.func115 (bodyOf_some (by kernel_rfl)) (by kernel_rfl) (loops_of (ks := []) (by kernel_rfl) trivial) impl_between_e
def impl_TextOk_arg : Sh := ⟨[(0, .c (.rd [] .i64))], [], []⟩
def impl_TextOk_res : List Sh := [⟨[(0, .c (.bool))], [], []⟩]
noncomputable def impl_TextOk (a0 : List Int) : Option ((Bool × Unit) × Unit × Unit) :=
 let x1 : Bool := decide ((a0.length : Int) ≥ (1 : Int));
 br x1
 (let x2 : Bool := decide ((a0.length : Int) ≤ (40 : Int));
 br x2
 ((impl_between a0 (1 : Int) (2000 : Int)).bind fun r3 =>
 some ((r3.1.1, ()), (), ()))
 (some ((false, ()), (), ())))
 (some ((false, ()), (), ()))
noncomputable def impl_TextOk_C : Ctr := ⟨113, impl_TextOk_arg, impl_TextOk_res, fun x => impl_TextOk x.1.1, none⟩
def impl_TextOk_H : Hint := ⟨[], [], [], fun _ => []⟩
noncomputable def impl_TextOk_T : List Ctr := [impl_between_C]
noncomputable def impl_TextOk_Ls : List Lp := []
theorem impl_TextOk_e : ∀ x, impl_TextOk_C.F x = runBodyW E0 impl_TextOk_T impl_TextOk_Ls impl_TextOk_H 113 Try.f113.results.toList (bodyOf Try.f113) [] (impl_TextOk_arg.mk' x) impl_TextOk_res := fun x => by kernel_rfl
theorem impl_TextOk_ok : impl_TextOk_C.Ok E0 := fn_ok (T := impl_TextOk_T) (h := impl_TextOk_H) (Ls := impl_TextOk_Ls) E0_mixed (T_cons impl_between_ok T_nil) Try.func113 (bodyOf_some (by kernel_rfl)) (by kernel_rfl) (loops_of (ks := []) (by kernel_rfl) trivial) impl_TextOk_e
def impl_both_arg : Sh := ⟨[(0, .agg [.int .i64, .int .i64, .int .i64]), (1, .c (.rd [] .i64))], [], []⟩
def impl_both_res : List Sh := [⟨[(0, .c (.bool))], [], []⟩]
noncomputable def impl_both (a0_0 : Int) (a0_1 : Int) (a0_2 : Int) (a1 : List Int) : Option ((Bool × Unit) × Unit × Unit) :=
 (impl_MeasureOk a0_0 a0_1 a0_2).bind fun r1 =>
 br r1.1.1
 ((impl_TextOk a1).bind fun r2 =>
 some ((r2.1.1, ()), (), ()))
 (some ((false, ()), (), ()))
noncomputable def impl_both_C : Ctr := ⟨80, impl_both_arg, impl_both_res, fun x => impl_both x.1.1.1 x.1.1.2.1 x.1.1.2.2.1 x.1.2.1, none⟩
def impl_both_H : Hint := ⟨[], [], [], fun _ => []⟩
noncomputable def impl_both_T : List Ctr := [impl_MeasureOk_C, impl_TextOk_C]
noncomputable def impl_both_Ls : List Lp := []
theorem impl_both_e : ∀ x, impl_both_C.F x = runBodyW E0 impl_both_T impl_both_Ls impl_both_H 80 Try.f80.results.toList (bodyOf Try.f80) [] (impl_both_arg.mk' x) impl_both_res := fun x => by kernel_rfl
theorem impl_both_ok : impl_both_C.Ok E0 := fn_ok (T := impl_both_T) (h := impl_both_H) (Ls := impl_both_Ls) E0_mixed (T_cons impl_MeasureOk_ok (T_cons impl_TextOk_ok T_nil)) Try.func80 (bodyOf_some (by kernel_rfl)) (by kernel_rfl) (loops_of (ks := []) (by kernel_rfl) trivial) impl_both_e
def impl_sum_arg : Sh := ⟨[(0, .c (.rd [] .i64))], [], []⟩
def impl_sum_res : List Sh := [⟨[(0, .c (.int .i64))], [], []⟩]
noncomputable def impl_sum_s0 (x : (Int × List Int × Int × Int × Unit) × Unit × Unit) : Option (((Int × List Int × Int × Int × Unit) × Unit × Unit) ⊕ ((Int × Unit) × Unit × Unit)) :=
 let x1 : Bool := decide (x.1.2.2.2.1 < x.1.2.2.1);
 br x1
 (ck (0 ≤ x.1.2.2.2.1)
 (ck (x.1.2.2.2.1.toNat < x.1.2.1.length)
 (let x2 : Int := x.1.2.1.getD x.1.2.2.2.1.toNat 0;
 let x3 : Int := w64 (x.1.1 + x2);
 let x4 : Int := w64 (x.1.2.2.2.1 + (1 : Int));
 some (.inl ((x3, x.1.2.1, x.1.2.2.1, x4, ()), (), ())))))
 (some (.inr ((x.1.1, ()), (), ())))
def impl_sum_h0 : Sh := ⟨[(3, .c (.int .i64)), (6, .c (.rd [] .i64)), (7, .c (.int .i64)), (8, .c (.int .i64))], [], []⟩
def impl_sum_r0 : List Sh := [⟨[(3, .c (.int .i64))], [], []⟩]
noncomputable def impl_sum_L0 : Lp := ⟨0, [], impl_sum_h0, [], [(.exit 0, [])], impl_sum_r0, loopC impl_sum_s0⟩
noncomputable def impl_sum (a0 : List Int) : Option ((Int × Unit) × Unit × Unit) :=
 (loopC impl_sum_s0 (((0 : Int), a0, (a0.length : Int), (0 : Int), ()), (), ())).bind fun r5 =>
 some ((r5.1.1, ()), (), ())
noncomputable def impl_sum_C : Ctr := ⟨114, impl_sum_arg, impl_sum_res, fun x => impl_sum x.1.1, none⟩
def impl_sum_H : Hint := ⟨[], [], [], fun _ => []⟩
noncomputable def impl_sum_T : List Ctr := []
noncomputable def impl_sum_Ls : List Lp := [impl_sum_L0]
theorem impl_sum_l0 : ∀ x, impl_sum_s0 x = stepW E0 impl_sum_T impl_sum_Ls impl_sum_H (loopAt (bodyOf Try.f114) 0) 0 impl_sum_h0 [] [(.exit 0, [])] impl_sum_r0 x := fun x => by kernel_rfl
theorem impl_sum_e : ∀ x, impl_sum_C.F x = runBodyW E0 impl_sum_T impl_sum_Ls impl_sum_H 114 Try.f114.results.toList (bodyOf Try.f114) [] (impl_sum_arg.mk' x) impl_sum_res := fun x => by kernel_rfl
theorem impl_sum_ok : impl_sum_C.Ok E0 := fn_ok (T := impl_sum_T) (h := impl_sum_H) (Ls := impl_sum_Ls) E0_mixed T_nil Try.func114 (bodyOf_some (by kernel_rfl)) (by kernel_rfl) (loops_of (ks := [0]) (by kernel_rfl) ⟨(loop_one (h := impl_sum_H) (own := []) (head := impl_sum_h0) (back := []) (exs := [(.exit 0, [])]) (res := impl_sum_r0) (step := impl_sum_s0) (by kernel_rfl) impl_sum_l0), trivial⟩) impl_sum_e
def impl_spread_arg : Sh := ⟨[(0, .agg [.int .i64, .int .i64, .int .i64]), (1, .c (.int .i64)), (2, .c (.int .i64))], [], []⟩
def impl_spread_res : List Sh := [⟨[(0, .c (.int .i64)), (1, .c (.int .i64)), (2, .c (.bool))], [], []⟩]
noncomputable def impl_spread (a0_0 : Int) (a0_1 : Int) (a0_2 : Int) (a1 : Int) (a2 : Int) : Option ((Int × Int × Bool × Unit) × Unit × Unit) :=
 let x1 : Int := w64 (a0_0 - a1);
 let x2 : Int := w64 (a2 * a0_1);
 let x3 : Int := w64 (x1 - x2);
 let x4 : Bool := decide (x3 < (0 : Int));
 br x4
 (some (((0 : Int), (0 : Int), false, ()), (), ()))
 (let x5 : Bool := decide (a2 > (0 : Int));
 br x5
 (let x6 : Int := w64 (a0_2 - a0_1);
 ck (a2 ≠ 0)
 (let x7 : Int := w64 (x3.tdiv a2);
 let x8 : Int := if x7 < x6 then x7 else x6;
 let x9 : Int := w64 (a2 * x8);
 let x10 : Int := w64 (x3 - x9);
 some ((x8, x10, true, ()), (), ())))
 (let x11 : Int := w64 (a2 * (0 : Int));
 let x12 : Int := w64 (x3 - x11);
 some (((0 : Int), x12, true, ()), (), ())))
noncomputable def impl_spread_C : Ctr := ⟨85, impl_spread_arg, impl_spread_res, fun x => impl_spread x.1.1.1 x.1.1.2.1 x.1.1.2.2.1 x.1.2.1 x.1.2.2.1, none⟩
def impl_spread_H : Hint := ⟨[], [], [], fun _ => []⟩
noncomputable def impl_spread_T : List Ctr := []
noncomputable def impl_spread_Ls : List Lp := []
theorem impl_spread_e : ∀ x, impl_spread_C.F x = runBodyW E0 impl_spread_T impl_spread_Ls impl_spread_H 85 Try.f85.results.toList (bodyOf Try.f85) [] (impl_spread_arg.mk' x) impl_spread_res := fun x => by kernel_rfl
theorem impl_spread_ok : impl_spread_C.Ok E0 := fn_ok (T := impl_spread_T) (h := impl_spread_H) (Ls := impl_spread_Ls) E0_mixed T_nil Try.func85 (bodyOf_some (by kernel_rfl)) (by kernel_rfl) (loops_of (ks := []) (by kernel_rfl) trivial) impl_spread_e
def impl_full_arg : Sh := ⟨[(0, .agg [.int .i64, .int .i64, .int .i64]), (1, .c (.int .i64)), (2, .c (.int .i64))], [], []⟩
def impl_full_res : List Sh := [⟨[(0, .c (.bool))], [], []⟩]
noncomputable def impl_full (a0_0 : Int) (a0_1 : Int) (a0_2 : Int) (a1 : Int) (a2 : Int) : Option ((Bool × Unit) × Unit × Unit) :=
 (impl_spread a0_0 a0_1 a0_2 a1 a2).bind fun r1 =>
 br r1.1.2.2.1
 (let x2 : Bool := r1.1.2.1 == (0 : Int);
 br x2
 (some ((true, ()), (), ()))
 (let x3 : Bool := decide (r1.1.2.1 < a2);
 some ((x3, ()), (), ())))
 (some ((false, ()), (), ()))
noncomputable def impl_full_C : Ctr := ⟨86, impl_full_arg, impl_full_res, fun x => impl_full x.1.1.1 x.1.1.2.1 x.1.1.2.2.1 x.1.2.1 x.1.2.2.1, none⟩
def impl_full_H : Hint := ⟨[], [], [], fun _ => []⟩
noncomputable def impl_full_T : List Ctr := [impl_spread_C]
noncomputable def impl_full_Ls : List Lp := []
theorem impl_full_e : ∀ x, impl_full_C.F x = runBodyW E0 impl_full_T impl_full_Ls impl_full_H 86 Try.f86.results.toList (bodyOf Try.f86) [] (impl_full_arg.mk' x) impl_full_res := fun x => by kernel_rfl
theorem impl_full_ok : impl_full_C.Ok E0 := fn_ok (T := impl_full_T) (h := impl_full_H) (Ls := impl_full_Ls) E0_mixed (T_cons impl_spread_ok T_nil) Try.func86 (bodyOf_some (by kernel_rfl)) (by kernel_rfl) (loops_of (ks := []) (by kernel_rfl) trivial) impl_full_e
def impl_kindOf_arg : Sh := ⟨[(0, .agg [.int .i64, .int .i64, .int .i64]), (1, .c (.rd [] .i64))], [], []⟩
def impl_kindOf_res : List Sh := [⟨[(0, .c (.int .i64))], [], []⟩]
noncomputable def impl_kindOf (a0_0 : Int) (a0_1 : Int) (a0_2 : Int) (a1 : List Int) : Option ((Int × Unit) × Unit × Unit) :=
 let x1 : Int := w64 ((a1.length : Int) - (1 : Int));
 (impl_sum a1).bind fun r2 =>
 (impl_spread a0_0 a0_1 a0_2 r2.1.1 x1).bind fun r3 =>
 br (!r3.1.2.2.1)
 (some (((0 : Int), ()), (), ()))
 ((impl_sum a1).bind fun r4 =>
 (impl_full a0_0 a0_1 a0_2 r4.1.1 x1).bind fun r5 =>
 br r5.1.1
 (some (((2 : Int), ()), (), ()))
 (some (((1 : Int), ()), (), ())))
noncomputable def impl_kindOf_C : Ctr := ⟨81, impl_kindOf_arg, impl_kindOf_res, fun x => impl_kindOf x.1.1.1 x.1.1.2.1 x.1.1.2.2.1 x.1.2.1, none⟩
def impl_kindOf_H : Hint := ⟨[], [], [], fun _ => []⟩
noncomputable def impl_kindOf_T : List Ctr := [impl_sum_C, impl_spread_C, impl_full_C]
noncomputable def impl_kindOf_Ls : List Lp := []
theorem impl_kindOf_e : ∀ x, impl_kindOf_C.F x = runBodyW E0 impl_kindOf_T impl_kindOf_Ls impl_kindOf_H 81 Try.f81.results.toList (bodyOf Try.f81) [] (impl_kindOf_arg.mk' x) impl_kindOf_res := fun x => by kernel_rfl
theorem impl_kindOf_ok : impl_kindOf_C.Ok E0 := fn_ok (T := impl_kindOf_T) (h := impl_kindOf_H) (Ls := impl_kindOf_Ls) E0_mixed (T_cons impl_sum_ok (T_cons impl_spread_ok (T_cons impl_full_ok T_nil))) Try.func81 (bodyOf_some (by kernel_rfl)) (by kernel_rfl) (loops_of (ks := []) (by kernel_rfl) trivial) impl_kindOf_e
def impl_LineKind_arg : Sh := ⟨[(0, .agg [.int .i64, .int .i64, .int .i64]), (1, .c (.rd [] .i64)), (2, .c (.int .i64)), (3, .c (.int .i64))], [], []⟩
def impl_LineKind_res : List Sh := [⟨[(0, .c (.int .i64))], [], []⟩]
noncomputable def impl_LineKind (a0_0 : Int) (a0_1 : Int) (a0_2 : Int) (a1 : List Int) (a2 : Int) (a3 : Int) : Option ((Int × Unit) × Unit × Unit) :=
 (impl_both a0_0 a0_1 a0_2 a1).bind fun r1 =>
 br (!r1.1.1)
 (some (((-1 : Int), ()), (), ()))
 (let x2 : Bool := decide (a2 < (0 : Int));
 br x2
 (some (((-1 : Int), ()), (), ()))
 (let x3 : Bool := decide (a3 > (a1.length : Int));
 br x3
 (some (((-1 : Int), ()), (), ()))
 (let x4 : Bool := decide (a2 ≥ a3);
 br x4
 (some (((-1 : Int), ()), (), ()))
 (ck (0 ≤ a2)
 (ck (0 ≤ a3)
 (ck (a2.toNat ≤ a3.toNat ∧ a3.toNat ≤ a1.length)
 (let x5 : List Int := cut a1 a2.toNat a3.toNat;
 (impl_kindOf a0_0 a0_1 a0_2 x5).bind fun r6 =>
 some ((r6.1.1, ()), (), ()))))))))
noncomputable def impl_LineKind_C : Ctr := ⟨38, impl_LineKind_arg, impl_LineKind_res, fun x => impl_LineKind x.1.1.1 x.1.1.2.1 x.1.1.2.2.1 x.1.2.1 x.1.2.2.1 x.1.2.2.2.1, none⟩
def impl_LineKind_H : Hint := ⟨[], [], [], fun _ => []⟩
noncomputable def impl_LineKind_T : List Ctr := [impl_both_C, impl_kindOf_C]
noncomputable def impl_LineKind_Ls : List Lp := []
theorem impl_LineKind_e : ∀ x, impl_LineKind_C.F x = runBodyW E0 impl_LineKind_T impl_LineKind_Ls impl_LineKind_H 38 Try.f38.results.toList (bodyOf Try.f38) [] (impl_LineKind_arg.mk' x) impl_LineKind_res := fun x => by kernel_rfl
theorem impl_LineKind_ok : impl_LineKind_C.Ok E0 := fn_ok (T := impl_LineKind_T) (h := impl_LineKind_H) (Ls := impl_LineKind_Ls) E0_mixed (T_cons impl_both_ok (T_cons impl_kindOf_ok T_nil)) Try.func38 (bodyOf_some (by kernel_rfl)) (by kernel_rfl) (loops_of (ks := []) (by kernel_rfl) trivial) impl_LineKind_e
def spec_l1In_arg : Sh := ⟨[(0, .c (.int .i64)), (1, .c (.int .i64)), (2, .c (.int .i64))], [], []⟩
def spec_l1In_res : List Sh := [⟨[(0, .c (.bool))], [], []⟩]
noncomputable def spec_l1In (a0 : Int) (a1 : Int) (a2 : Int) : Option ((Bool × Unit) × Unit × Unit) :=
 let x1 : Bool := decide (a0 ≥ a1);
 br x1
 (let x2 : Bool := decide (a0 ≤ a2);
 some ((x2, ()), (), ()))
 (some ((false, ()), (), ()))
noncomputable def spec_l1In_C : Ctr := ⟨61, spec_l1In_arg, spec_l1In_res, fun x => spec_l1In x.1.1 x.1.2.1 x.1.2.2.1, none⟩
def spec_l1In_H : Hint := ⟨[], [], [], fun _ => []⟩
noncomputable def spec_l1In_T : List Ctr := []
noncomputable def spec_l1In_Ls : List Lp := []
theorem spec_l1In_e : ∀ x, spec_l1In_C.F x = runBodyW E0 spec_l1In_T spec_l1In_Ls spec_l1In_H 61 Try.f61.results.toList (bodyOf Try.f61) [] (spec_l1In_arg.mk' x) spec_l1In_res := fun x => by kernel_rfl
theorem spec_l1In_ok : spec_l1In_C.Ok E0 := fn_ok (T := spec_l1In_T) (h := spec_l1In_H) (Ls := spec_l1In_Ls) E0_mixed T_nil Try.func61 (bodyOf_some (by kernel_rfl)) (by kernel_rfl) (loops_of (ks := []) (by kernel_rfl) trivial) spec_l1In_e
def spec_MeasureOk_arg : Sh := ⟨[(0, .agg [.int .i64, .int .i64, .int .i64])], [], []⟩
def spec_MeasureOk_res : List Sh := [⟨[(0, .c (.bool))], [], []⟩]
noncomputable def spec_MeasureOk (a0_0 : Int) (a0_1 : Int) (a0_2 : Int) : Option ((Bool × Unit) × Unit × Unit) :=
 (spec_l1In a0_0 (1 : Int) (2000 : Int)).bind fun r1 =>
 br r1.1.1
 ((spec_l1In a0_1 (1 : Int) (100 : Int)).bind fun r2 =>
 br r2.1.1
 ((spec_l1In a0_2 a0_1 (100 : Int)).bind fun r3 =>
 some ((r3.1.1, ()), (), ()))
 (some ((false, ()), (), ())))
 (some ((false, ()), (), ()))
noncomputable def spec_MeasureOk_C : Ctr := ⟨39, spec_MeasureOk_arg, spec_MeasureOk_res, fun x => spec_MeasureOk x.1.1.1 x.1.1.2.1 x.1.1.2.2.1, none⟩
def spec_MeasureOk_H : Hint := ⟨[], [], [], fun _ => []⟩
noncomputable def spec_MeasureOk_T : List Ctr := [spec_l1In_C]
noncomputable def spec_MeasureOk_Ls : List Lp := []
theorem spec_MeasureOk_e : ∀ x, spec_MeasureOk_C.F x = runBodyW E0 spec_MeasureOk_T spec_MeasureOk_Ls spec_MeasureOk_H 39 Try.f39.results.toList (bodyOf Try.f39) [] (spec_MeasureOk_arg.mk' x) spec_MeasureOk_res := fun x => by kernel_rfl
theorem spec_MeasureOk_ok : spec_MeasureOk_C.Ok E0 := fn_ok (T := spec_MeasureOk_T) (h := spec_MeasureOk_H) (Ls := spec_MeasureOk_Ls) E0_mixed (T_cons spec_l1In_ok T_nil) Try.func39 (bodyOf_some (by kernel_rfl)) (by kernel_rfl) (loops_of (ks := []) (by kernel_rfl) trivial) spec_MeasureOk_e
def spec_TextOk_arg : Sh := ⟨[(0, .c (.rd [] .i64))], [], []⟩
def spec_TextOk_res : List Sh := [⟨[(0, .c (.bool))], [], []⟩]
noncomputable def spec_TextOk_s0 (x : (List Int × List Int × Int × Int × Unit) × Unit × Unit) : Option (((List Int × List Int × Int × Int × Unit) × Unit × Unit) ⊕ (((Bool × Unit) × Unit × Unit) ⊕ ((List Int × Unit) × Unit × Unit))) :=
 let x1 : Bool := decide (x.1.2.2.2.1 < x.1.2.2.1);
 br x1
 (ck (0 ≤ x.1.2.2.2.1)
 (ck (x.1.2.2.2.1.toNat < x.1.2.1.length)
 (let x2 : Int := x.1.2.1.getD x.1.2.2.2.1.toNat 0;
 (spec_l1In x2 (1 : Int) (2000 : Int)).bind fun r3 =>
 br (!r3.1.1)
 (some (.inr (.inl ((false, ()), (), ()))))
 (let x4 : Int := w64 (x.1.2.2.2.1 + (1 : Int));
 some (.inl ((x.1.1, x.1.2.1, x.1.2.2.1, x4, ()), (), ()))))))
 (some (.inr (.inr ((x.1.1, ()), (), ()))))
def spec_TextOk_h0 : Sh := ⟨[(0, .c (.rd [] .i64)), (5, .c (.rd [] .i64)), (6, .c (.int .i64)), (7, .c (.int .i64))], [], []⟩
def spec_TextOk_r0 : List Sh := [⟨[(2, .c (.bool))], [], []⟩, ⟨[(0, .c (.rd [] .i64))], [], []⟩]
noncomputable def spec_TextOk_L0 : Lp := ⟨0, [], spec_TextOk_h0, [], [(.ret, []), (.exit 0, [])], spec_TextOk_r0, loopC spec_TextOk_s0⟩
noncomputable def spec_TextOk (a0 : List Int) : Option ((Bool × Unit) × Unit × Unit) :=
 (loopC spec_TextOk_s0 ((a0, a0, (a0.length : Int), (0 : Int), ()), (), ())).bind fun r5 =>
 sumK r5 (fun y8 =>
 some ((y8.1.1, ()), (), ())) (fun y9 =>
 (spec_l1In (y9.1.1.length : Int) (1 : Int) (40 : Int)).bind fun r10 =>
 some ((r10.1.1, ()), (), ()))
noncomputable def spec_TextOk_C : Ctr := ⟨40, spec_TextOk_arg, spec_TextOk_res, fun x => spec_TextOk x.1.1, none⟩
def spec_TextOk_H : Hint := ⟨[], [], [], fun _ => []⟩
noncomputable def spec_TextOk_T : List Ctr := [spec_l1In_C]
noncomputable def spec_TextOk_Ls : List Lp := [spec_TextOk_L0]
theorem spec_TextOk_l0 : ∀ x, spec_TextOk_s0 x = stepW E0 spec_TextOk_T spec_TextOk_Ls spec_TextOk_H (loopAt (bodyOf Try.f40) 0) 0 spec_TextOk_h0 [] [(.ret, []), (.exit 0, [])] spec_TextOk_r0 x := fun x => by kernel_rfl
theorem spec_TextOk_e : ∀ x, spec_TextOk_C.F x = runBodyW E0 spec_TextOk_T spec_TextOk_Ls spec_TextOk_H 40 Try.f40.results.toList (bodyOf Try.f40) [] (spec_TextOk_arg.mk' x) spec_TextOk_res := fun x => by kernel_rfl
theorem spec_TextOk_ok : spec_TextOk_C.Ok E0 := fn_ok (T := spec_TextOk_T) (h := spec_TextOk_H) (Ls := spec_TextOk_Ls) E0_mixed (T_cons spec_l1In_ok T_nil) Try.func40 (bodyOf_some (by kernel_rfl)) (by kernel_rfl) (loops_of (ks := [0]) (by kernel_rfl) ⟨(loop_one (h := spec_TextOk_H) (own := []) (head := spec_TextOk_h0) (back := []) (exs := [(.ret, []), (.exit 0, [])]) (res := spec_TextOk_r0) (step := spec_TextOk_s0) (by kernel_rfl) spec_TextOk_l0), trivial⟩) spec_TextOk_e
def spec_LineOk_arg : Sh := ⟨[(0, .c (.rd [] .i64))], [], []⟩
def spec_LineOk_res : List Sh := [⟨[(0, .c (.bool))], [], []⟩]
noncomputable def spec_LineOk_s0 (x : (List Int × List Int × Int × Int × Unit) × Unit × Unit) : Option (((List Int × List Int × Int × Int × Unit) × Unit × Unit) ⊕ (((Bool × Unit) × Unit × Unit) ⊕ ((List Int × Unit) × Unit × Unit))) :=
 let x1 : Bool := decide (x.1.2.2.2.1 < x.1.2.2.1);
 br x1
 (ck (0 ≤ x.1.2.2.2.1)
 (ck (x.1.2.2.2.1.toNat < x.1.2.1.length)
 (let x2 : Int := x.1.2.1.getD x.1.2.2.2.1.toNat 0;
 (spec_l1In x2 (0 : Int) (60 : Int)).bind fun r3 =>
 br (!r3.1.1)
 (some (.inr (.inl ((false, ()), (), ()))))
 (let x4 : Int := w64 (x.1.2.2.2.1 + (1 : Int));
 some (.inl ((x.1.1, x.1.2.1, x.1.2.2.1, x4, ()), (), ()))))))
 (some (.inr (.inr ((x.1.1, ()), (), ()))))
def spec_LineOk_h0 : Sh := ⟨[(0, .c (.rd [] .i64)), (5, .c (.rd [] .i64)), (6, .c (.int .i64)), (7, .c (.int .i64))], [], []⟩
def spec_LineOk_r0 : List Sh := [⟨[(2, .c (.bool))], [], []⟩, ⟨[(0, .c (.rd [] .i64))], [], []⟩]
noncomputable def spec_LineOk_L0 : Lp := ⟨0, [], spec_LineOk_h0, [], [(.ret, []), (.exit 0, [])], spec_LineOk_r0, loopC spec_LineOk_s0⟩
noncomputable def spec_LineOk (a0 : List Int) : Option ((Bool × Unit) × Unit × Unit) :=
 (loopC spec_LineOk_s0 ((a0, a0, (a0.length : Int), (0 : Int), ()), (), ())).bind fun r5 =>
 sumK r5 (fun y8 =>
 some ((y8.1.1, ()), (), ())) (fun y9 =>
 let x10 : Bool := decide ((y9.1.1.length : Int) ≤ (120 : Int));
 some ((x10, ()), (), ()))
noncomputable def spec_LineOk_C : Ctr := ⟨41, spec_LineOk_arg, spec_LineOk_res, fun x => spec_LineOk x.1.1, none⟩
def spec_LineOk_H : Hint := ⟨[], [], [], fun _ => []⟩
noncomputable def spec_LineOk_T : List Ctr := [spec_l1In_C]
noncomputable def spec_LineOk_Ls : List Lp := [spec_LineOk_L0]
theorem spec_LineOk_l0 : ∀ x, spec_LineOk_s0 x = stepW E0 spec_LineOk_T spec_LineOk_Ls spec_LineOk_H (loopAt (bodyOf Try.f41) 0) 0 spec_LineOk_h0 [] [(.ret, []), (.exit 0, [])] spec_LineOk_r0 x := fun x => by kernel_rfl
theorem spec_LineOk_e : ∀ x, spec_LineOk_C.F x = runBodyW E0 spec_LineOk_T spec_LineOk_Ls spec_LineOk_H 41 Try.f41.results.toList (bodyOf Try.f41) [] (spec_LineOk_arg.mk' x) spec_LineOk_res := fun x => by kernel_rfl
theorem spec_LineOk_ok : spec_LineOk_C.Ok E0 := fn_ok (T := spec_LineOk_T) (h := spec_LineOk_H) (Ls := spec_LineOk_Ls) E0_mixed (T_cons spec_l1In_ok T_nil) Try.func41 (bodyOf_some (by kernel_rfl)) (by kernel_rfl) (loops_of (ks := [0]) (by kernel_rfl) ⟨(loop_one (h := spec_LineOk_H) (own := []) (head := spec_LineOk_h0) (back := []) (exs := [(.ret, []), (.exit 0, [])]) (res := spec_LineOk_r0) (step := spec_LineOk_s0) (by kernel_rfl) spec_LineOk_l0), trivial⟩) spec_LineOk_e
def impl_LineOk_arg : Sh := ⟨[(0, .c (.rd [] .i64))], [], []⟩
def impl_LineOk_res : List Sh := [⟨[(0, .c (.bool))], [], []⟩]
noncomputable def impl_LineOk (a0 : List Int) : Option ((Bool × Unit) × Unit × Unit) :=
 let x1 : Bool := decide ((a0.length : Int) ≤ (120 : Int));
 br x1
 ((impl_between a0 (0 : Int) (60 : Int)).bind fun r2 =>
 some ((r2.1.1, ()), (), ()))
 (some ((false, ()), (), ()))
noncomputable def impl_LineOk_C : Ctr := ⟨83, impl_LineOk_arg, impl_LineOk_res, fun x => impl_LineOk x.1.1, none⟩
def impl_LineOk_H : Hint := ⟨[], [], [], fun _ => []⟩
noncomputable def impl_LineOk_T : List Ctr := [impl_between_C]
noncomputable def impl_LineOk_Ls : List Lp := []
theorem impl_LineOk_e : ∀ x, impl_LineOk_C.F x = runBodyW E0 impl_LineOk_T impl_LineOk_Ls impl_LineOk_H 83 Try.f83.results.toList (bodyOf Try.f83) [] (impl_LineOk_arg.mk' x) impl_LineOk_res := fun x => by kernel_rfl
theorem impl_LineOk_ok : impl_LineOk_C.Ok E0 := fn_ok (T := impl_LineOk_T) (h := impl_LineOk_H) (Ls := impl_LineOk_Ls) E0_mixed (T_cons impl_between_ok T_nil) Try.func83 (bodyOf_some (by kernel_rfl)) (by kernel_rfl) (loops_of (ks := []) (by kernel_rfl) trivial) impl_LineOk_e
def impl_lettersAndBands_arg : Sh := ⟨[(0, .c (.rd [] .i64))], [], []⟩
def impl_lettersAndBands_res : List Sh := [⟨[(0, .c (.int .i64)), (1, .c (.int .i64))], [], []⟩]
noncomputable def impl_lettersAndBands_s0 (x : (Int × Int × List Int × Int × Int × Unit) × Unit × Unit) : Option (((Int × Int × List Int × Int × Int × Unit) × Unit × Unit) ⊕ ((Int × Int × Unit) × Unit × Unit)) :=
 let x1 : Bool := decide (x.1.2.2.2.2.1 < x.1.2.2.2.1);
 br x1
 (ck (0 ≤ x.1.2.2.2.2.1)
 (ck (x.1.2.2.2.2.1.toNat < x.1.2.2.1.length)
 (let x2 : Int := x.1.2.2.1.getD x.1.2.2.2.2.1.toNat 0;
 let x3 : Int := w64 (x.1.1 + x2);
 let x4 : Bool := x2 == (0 : Int);
 br x4
 (let x5 : Int := w64 (x.1.2.1 + (1 : Int));
 let x6 : Int := w64 (x.1.2.2.2.2.1 + (1 : Int));
 some (.inl ((x3, x5, x.1.2.2.1, x.1.2.2.2.1, x6, ()), (), ())))
 (let x7 : Int := w64 (x.1.2.2.2.2.1 + (1 : Int));
 some (.inl ((x3, x.1.2.1, x.1.2.2.1, x.1.2.2.2.1, x7, ()), (), ()))))))
 (some (.inr ((x.1.1, x.1.2.1, ()), (), ())))
def impl_lettersAndBands_h0 : Sh := ⟨[(4, .c (.int .i64)), (5, .c (.int .i64)), (8, .c (.rd [] .i64)), (9, .c (.int .i64)), (10, .c (.int .i64))], [], []⟩
def impl_lettersAndBands_r0 : List Sh := [⟨[(4, .c (.int .i64)), (5, .c (.int .i64))], [], []⟩]
noncomputable def impl_lettersAndBands_L0 : Lp := ⟨0, [], impl_lettersAndBands_h0, [], [(.exit 0, [])], impl_lettersAndBands_r0, loopC impl_lettersAndBands_s0⟩
noncomputable def impl_lettersAndBands (a0 : List Int) : Option ((Int × Int × Unit) × Unit × Unit) :=
 (loopC impl_lettersAndBands_s0 (((0 : Int), (0 : Int), a0, (a0.length : Int), (0 : Int), ()), (), ())).bind fun r8 =>
 some ((r8.1.1, r8.1.2.1, ()), (), ())
noncomputable def impl_lettersAndBands_C : Ctr := ⟨84, impl_lettersAndBands_arg, impl_lettersAndBands_res, fun x => impl_lettersAndBands x.1.1, none⟩
def impl_lettersAndBands_H : Hint := ⟨[], [], [], fun _ => []⟩
noncomputable def impl_lettersAndBands_T : List Ctr := []
noncomputable def impl_lettersAndBands_Ls : List Lp := [impl_lettersAndBands_L0]
theorem impl_lettersAndBands_l0 : ∀ x, impl_lettersAndBands_s0 x = stepW E0 impl_lettersAndBands_T impl_lettersAndBands_Ls impl_lettersAndBands_H (loopAt (bodyOf Try.f84) 0) 0 impl_lettersAndBands_h0 [] [(.exit 0, [])] impl_lettersAndBands_r0 x := fun x => by kernel_rfl
theorem impl_lettersAndBands_e : ∀ x, impl_lettersAndBands_C.F x = runBodyW E0 impl_lettersAndBands_T impl_lettersAndBands_Ls impl_lettersAndBands_H 84 Try.f84.results.toList (bodyOf Try.f84) [] (impl_lettersAndBands_arg.mk' x) impl_lettersAndBands_res := fun x => by kernel_rfl
theorem impl_lettersAndBands_ok : impl_lettersAndBands_C.Ok E0 := fn_ok (T := impl_lettersAndBands_T) (h := impl_lettersAndBands_H) (Ls := impl_lettersAndBands_Ls) E0_mixed T_nil Try.func84 (bodyOf_some (by kernel_rfl)) (by kernel_rfl) (loops_of (ks := [0]) (by kernel_rfl) ⟨(loop_one (h := impl_lettersAndBands_H) (own := []) (head := impl_lettersAndBands_h0) (back := []) (exs := [(.exit 0, [])]) (res := impl_lettersAndBands_r0) (step := impl_lettersAndBands_s0) (by kernel_rfl) impl_lettersAndBands_l0), trivial⟩) impl_lettersAndBands_e
def impl_SpreadLine_arg : Sh := ⟨[(0, .agg [.int .i64, .int .i64, .int .i64]), (1, .c (.rd [] .i64))], [], []⟩
def impl_SpreadLine_res : List Sh := [⟨[(0, .c (.int .i64)), (1, .c (.int .i64)), (2, .c (.bool))], [], []⟩]
noncomputable def impl_SpreadLine (a0_0 : Int) (a0_1 : Int) (a0_2 : Int) (a1 : List Int) : Option ((Int × Int × Bool × Unit) × Unit × Unit) :=
 (impl_MeasureOk a0_0 a0_1 a0_2).bind fun r1 =>
 br (!r1.1.1)
 (some (((0 : Int), (0 : Int), false, ()), (), ()))
 ((impl_LineOk a1).bind fun r2 =>
 br (!r2.1.1)
 (some (((0 : Int), (0 : Int), false, ()), (), ()))
 ((impl_lettersAndBands a1).bind fun r3 =>
 (impl_spread a0_0 a0_1 a0_2 r3.1.1 r3.1.2.1).bind fun r4 =>
 some ((r4.1.1, r4.1.2.1, r4.1.2.2.1, ()), (), ())))
noncomputable def impl_SpreadLine_C : Ctr := ⟨42, impl_SpreadLine_arg, impl_SpreadLine_res, fun x => impl_SpreadLine x.1.1.1 x.1.1.2.1 x.1.1.2.2.1 x.1.2.1, none⟩
def impl_SpreadLine_H : Hint := ⟨[], [], [], fun _ => []⟩
noncomputable def impl_SpreadLine_T : List Ctr := [impl_MeasureOk_C, impl_LineOk_C, impl_lettersAndBands_C, impl_spread_C]
noncomputable def impl_SpreadLine_Ls : List Lp := []
theorem impl_SpreadLine_e : ∀ x, impl_SpreadLine_C.F x = runBodyW E0 impl_SpreadLine_T impl_SpreadLine_Ls impl_SpreadLine_H 42 Try.f42.results.toList (bodyOf Try.f42) [] (impl_SpreadLine_arg.mk' x) impl_SpreadLine_res := fun x => by kernel_rfl
theorem impl_SpreadLine_ok : impl_SpreadLine_C.Ok E0 := fn_ok (T := impl_SpreadLine_T) (h := impl_SpreadLine_H) (Ls := impl_SpreadLine_Ls) E0_mixed (T_cons impl_MeasureOk_ok (T_cons impl_LineOk_ok (T_cons impl_lettersAndBands_ok (T_cons impl_spread_ok T_nil)))) Try.func42 (bodyOf_some (by kernel_rfl)) (by kernel_rfl) (loops_of (ks := []) (by kernel_rfl) trivial) impl_SpreadLine_e
def impl_IsFull_arg : Sh := ⟨[(0, .agg [.int .i64, .int .i64, .int .i64]), (1, .c (.rd [] .i64))], [], []⟩
def impl_IsFull_res : List Sh := [⟨[(0, .c (.bool))], [], []⟩]
noncomputable def impl_IsFull (a0_0 : Int) (a0_1 : Int) (a0_2 : Int) (a1 : List Int) : Option ((Bool × Unit) × Unit × Unit) :=
 (impl_lettersAndBands a1).bind fun r1 =>
 (impl_MeasureOk a0_0 a0_1 a0_2).bind fun r2 =>
 br r2.1.1
 ((impl_LineOk a1).bind fun r3 =>
 br r3.1.1
 ((impl_full a0_0 a0_1 a0_2 r1.1.1 r1.1.2.1).bind fun r4 =>
 some ((r4.1.1, ()), (), ()))
 (some ((false, ()), (), ())))
 (some ((false, ()), (), ()))
noncomputable def impl_IsFull_C : Ctr := ⟨43, impl_IsFull_arg, impl_IsFull_res, fun x => impl_IsFull x.1.1.1 x.1.1.2.1 x.1.1.2.2.1 x.1.2.1, none⟩
def impl_IsFull_H : Hint := ⟨[], [], [], fun _ => []⟩
noncomputable def impl_IsFull_T : List Ctr := [impl_lettersAndBands_C, impl_MeasureOk_C, impl_LineOk_C, impl_full_C]
noncomputable def impl_IsFull_Ls : List Lp := []
theorem impl_IsFull_e : ∀ x, impl_IsFull_C.F x = runBodyW E0 impl_IsFull_T impl_IsFull_Ls impl_IsFull_H 43 Try.f43.results.toList (bodyOf Try.f43) [] (impl_IsFull_arg.mk' x) impl_IsFull_res := fun x => by kernel_rfl
theorem impl_IsFull_ok : impl_IsFull_C.Ok E0 := fn_ok (T := impl_IsFull_T) (h := impl_IsFull_H) (Ls := impl_IsFull_Ls) E0_mixed (T_cons impl_lettersAndBands_ok (T_cons impl_MeasureOk_ok (T_cons impl_LineOk_ok (T_cons impl_full_ok T_nil)))) Try.func43 (bodyOf_some (by kernel_rfl)) (by kernel_rfl) (loops_of (ks := []) (by kernel_rfl) trivial) impl_IsFull_e
def laws_FnLetters_arg : Sh := ⟨[(0, .c (.rd [] .u8))], [], []⟩
def laws_FnLetters_res : List Sh := [⟨[(0, .c (.bool))], [], []⟩]
noncomputable def laws_FnLetters_s0 (x : (Unit × Int × Unit × List Int × Int × Int × Unit) × ((Int × Int × Int × Unit) × Unit) × (List Int × List Int × Unit)) : Option (((Unit × Int × Unit × List Int × Int × Int × Unit) × ((Int × Int × Int × Unit) × Unit) × (List Int × List Int × Unit)) ⊕ ((Unit × Int × Unit × Unit) × ((Int × Int × Int × Unit) × Unit) × (List Int × Unit))) :=
 let x15 : Bool := decide (x.1.2.2.2.2.2.1 < x.1.2.2.2.2.1);
 br x15
 (ck (0 ≤ x.1.2.2.2.2.2.1)
 (ck (x.1.2.2.2.2.2.1.toNat < x.1.2.2.2.1.length)
 (let x16 : Int := x.1.2.2.2.1.getD x.1.2.2.2.2.2.1.toNat 0;
 let x17 : Bool := decide (x.1.2.2.2.2.2.1 > (0 : Int));
 br x17
 (ck ((x.2.2.1.length + [(0 : Int)].length) * 8 ≤ 140737488355328 ∧ (x.2.2.1.length + [(0 : Int)].length) ≤ 9223372036854775807)
 (let x18 : List Int := x.2.2.1 ++ [(0 : Int)];
 ck ((x18.length + [x16].length) * 8 ≤ 140737488355328 ∧ (x18.length + [x16].length) ≤ 9223372036854775807)
 (let x19 : List Int := x18 ++ [x16];
 let x20 : Int := w64 (x.1.2.2.2.2.2.1 + (1 : Int));
 some (.inl (((), x.1.2.1, (), x.1.2.2.2.1, x.1.2.2.2.2.1, x20, ()), ((x.2.1.1.1, x.2.1.1.2.1, x.2.1.1.2.2.1, ()), ()), (x19, x.2.2.2.1, ()))))))
 (ck ((x.2.2.1.length + [x16].length) * 8 ≤ 140737488355328 ∧ (x.2.2.1.length + [x16].length) ≤ 9223372036854775807)
 (let x21 : List Int := x.2.2.1 ++ [x16];
 let x22 : Int := w64 (x.1.2.2.2.2.2.1 + (1 : Int));
 some (.inl (((), x.1.2.1, (), x.1.2.2.2.1, x.1.2.2.2.2.1, x22, ()), ((x.2.1.1.1, x.2.1.1.2.1, x.2.1.1.2.2.1, ()), ()), (x21, x.2.2.2.1, ()))))))))
 (some (.inr (((), x.1.2.1, (), ()), ((x.2.1.1.1, x.2.1.1.2.1, x.2.1.1.2.2.1, ()), ()), (x.2.2.1, ()))))
def laws_FnLetters_h0 : Sh := ⟨[(3, .c (.box 0 0)), (7, .c (.int .i64)), (8, .c (.own 0)), (58, .c (.rd [1] .i64)), (59, .c (.int .i64)), (60, .c (.int .i64))], [(0, .cells [.int .i64, .int .i64, .int .i64])], [(0, .i64), (1, .i64)]⟩
def laws_FnLetters_r0 : List Sh := [⟨[(3, .c (.box 0 0)), (7, .c (.int .i64)), (8, .c (.own 0))], [(0, .cells [.int .i64, .int .i64, .int .i64])], [(0, .i64)]⟩]
noncomputable def laws_FnLetters_L0 : Lp := ⟨0, [], laws_FnLetters_h0, [], [(.exit 0, [])], laws_FnLetters_r0, loopC laws_FnLetters_s0⟩
noncomputable def laws_FnLetters (a0 : List Int) : Option ((Bool × Unit) × Unit × Unit) :=
 let x1 : Bool := decide ((a0.length : Int) > (1048576 : Int));
 br x1
 (some ((true, ()), (), ()))
 ((spec_DrawLineKind a0).bind fun r2 =>
 (impl_LineKind r2.1.1.1 r2.1.1.2.1 r2.1.1.2.2.1 r2.2.2.1 r2.1.2.2.1 r2.1.2.2.2.1).bind fun r3 =>
 (spec_MeasureOk r2.1.1.1 r2.1.1.2.1 r2.1.1.2.2.1).bind fun r4 =>
 br (!r4.1.1)
 (let x5 : Bool := r3.1.1 == (-1 : Int);
 some ((x5, ()), (), ()))
 ((spec_TextOk r2.2.2.1).bind fun r6 =>
 br (!r6.1.1)
 (let x7 : Bool := r3.1.1 == (-1 : Int);
 some ((x7, ()), (), ()))
 (let x8 : Bool := decide (r2.1.2.2.1 < (0 : Int));
 br x8
 (let x9 : Bool := r3.1.1 == (-1 : Int);
 some ((x9, ()), (), ()))
 (let x10 : Bool := decide (r2.1.2.2.2.1 > (r2.2.2.1.length : Int));
 br x10
 (let x11 : Bool := r3.1.1 == (-1 : Int);
 some ((x11, ()), (), ()))
 (let x12 : Bool := decide (r2.1.2.2.1 ≥ r2.1.2.2.2.1);
 br x12
 (let x13 : Bool := r3.1.1 == (-1 : Int);
 some ((x13, ()), (), ()))
 (ck (0 ≤ r2.1.2.2.1)
 (ck (0 ≤ r2.1.2.2.2.1)
 (ck (r2.1.2.2.1.toNat ≤ r2.1.2.2.2.1.toNat ∧ r2.1.2.2.2.1.toNat ≤ r2.2.2.1.length)
 (let x14 : List Int := cut r2.2.2.1 r2.1.2.2.1.toNat r2.1.2.2.2.1.toNat;
 (loopC laws_FnLetters_s0 (((), r3.1.1, (), x14, (x14.length : Int), (0 : Int), ()), ((r2.1.1.1, r2.1.1.2.1, r2.1.1.2.2.1, ()), ()), ([], r2.2.2.1, ()))).bind fun r23 =>
 (spec_LineOk r23.2.2.1).bind fun r24 =>
 br (!r24.1.1)
 (some ((true, ()), (), ()))
 ((impl_SpreadLine r23.2.1.1.1 r23.2.1.1.2.1 r23.2.1.1.2.2.1 r23.2.2.1).bind fun r25 =>
 let x26 : Bool := decide (r23.1.2.1 > (0 : Int));
 let x27 : Bool := x26 == r25.1.2.2.1;
 br x27
 (let x28 : Bool := r23.1.2.1 == (2 : Int);
 (impl_IsFull r23.2.1.1.1 r23.2.1.1.2.1 r23.2.1.1.2.2.1 r23.2.2.1).bind fun r29 =>
 let x30 : Bool := x28 == r29.1.1;
 br x30
 (let x31 : Bool := decide (r23.1.2.1 < (3 : Int));
 some ((x31, ()), (), ()))
 (some ((false, ()), (), ())))
 (some ((false, ()), (), ()))))))))))))
noncomputable def laws_FnLetters_C : Ctr := ⟨9, laws_FnLetters_arg, laws_FnLetters_res, fun x => laws_FnLetters x.1.1, none⟩
def laws_FnLetters_H : Hint := ⟨[], [], [], fun _ => []⟩
noncomputable def laws_FnLetters_T : List Ctr := [spec_DrawLineKind_C, impl_LineKind_C, spec_MeasureOk_C, spec_TextOk_C, spec_LineOk_C, impl_SpreadLine_C, impl_IsFull_C]
noncomputable def laws_FnLetters_Ls : List Lp := [laws_FnLetters_L0]
theorem laws_FnLetters_l0 : ∀ x, laws_FnLetters_s0 x = stepW E0 laws_FnLetters_T laws_FnLetters_Ls laws_FnLetters_H (loopAt (bodyOf Try.f9) 0) 0 laws_FnLetters_h0 [] [(.exit 0, [])] laws_FnLetters_r0 x := fun x => by kernel_rfl
theorem laws_FnLetters_e : ∀ x, laws_FnLetters_C.F x = runBodyW E0 laws_FnLetters_T laws_FnLetters_Ls laws_FnLetters_H 9 Try.f9.results.toList (bodyOf Try.f9) [] (laws_FnLetters_arg.mk' x) laws_FnLetters_res := fun x => by kernel_rfl
theorem laws_FnLetters_ok : laws_FnLetters_C.Ok E0 := fn_ok (T := laws_FnLetters_T) (h := laws_FnLetters_H) (Ls := laws_FnLetters_Ls) E0_mixed (T_cons spec_DrawLineKind_ok (T_cons impl_LineKind_ok (T_cons spec_MeasureOk_ok (T_cons spec_TextOk_ok (T_cons spec_LineOk_ok (T_cons impl_SpreadLine_ok (T_cons impl_IsFull_ok T_nil))))))) Try.func9 (bodyOf_some (by kernel_rfl)) (by kernel_rfl) (loops_of (ks := [0]) (by kernel_rfl) ⟨(loop_one (h := laws_FnLetters_H) (own := []) (head := laws_FnLetters_h0) (back := []) (exs := [(.exit 0, [])]) (res := laws_FnLetters_r0) (step := laws_FnLetters_s0) (by kernel_rfl) laws_FnLetters_l0), trivial⟩) laws_FnLetters_e
end Go.Tree
