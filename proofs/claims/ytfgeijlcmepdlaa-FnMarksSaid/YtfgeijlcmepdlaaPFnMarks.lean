/- What each function that the law FnMarks reaches computes, as a plain function, and the proof that the program's code computes it. No condition but the function's own answer. -/
import Derived.Test.YtfgeijlcmepdlaaK8
import Derived.Shelf.Strings.Repeat
import Derived.Test.YtfgeijlcmepdlaaProg
import Derived.KernelRfl
namespace Go.Tree
open Go Go.Proofs
set_option linter.unusedVariables false
set_option maxRecDepth 100000
noncomputable def E0 : Env := { P := Try.prog, hint := fun _ => ⟨[], [], [], fun _ => []⟩, mode := fun f => ([0, 0, 0, 0, 0, 0, 0, 0, 0, 0, 0, 0, 0, 0, 0, 0, 0, 0, 0, 0, 0, 0, 0, 0, 0, 0, 0, 0, 0, 0, 0, 0, 0, 0, 0, 0, 0, 0, 0, 0, 0, 0, 0, 0, 1, 0, 0, 0, 0, 0, 0, 0, 0, 0, 0, 0, 0, 0, 1, 1, 0, 0, 0, 0, 0, 0, 0, 0, 0, 0, 1, 0, 0, 0, 1, 1, 1, 0, 0, 1, 0, 0, 0, 0, 0, 0, 0, 0, 0, 0, 0, 0, 0, 1, 0, 0, 0, 0, 0, 0, 1, 0, 0, 1, 0, 0, 0, 0, 0, 0, 1, 1, 1, 0, 0, 0, 0, 0, 0, 1, 1, 0, 0, 0, 0, 0, 0, 0, 0, 0, 0, 0, 0, 0, 0, 0, 0, 0, 0, 0, 0, 0, 0, 0, 0, 0, 0, 0, 0, 0, 0, 0, 0] : List Nat).getD f 0, nres := fun f => ([0, 0, 0, 1, 1, 1, 1, 1, 1, 1, 1, 2, 1, 2, 4, 2, 1, 1, 1, 2, 1, 1, 1, 3, 2, 1, 1, 2, 3, 1, 2, 1, 3, 1, 1, 1, 1, 4, 1, 1, 1, 1, 3, 1, 1, 1, 2, 1, 1, 1, 1, 1, 1, 1, 1, 1, 1, 1, 1, 1, 1, 1, 1, 1, 1, 1, 1, 1, 1, 1, 1, 1, 1, 1, 1, 1, 2, 1, 3, 2, 1, 1, 1, 1, 2, 3, 1, 1, 2, 1, 1, 1, 1, 1, 1, 1, 1, 2, 1, 1, 1, 1, 1, 1, 2, 1, 0, 2, 1, 1, 1, 1, 1, 1, 1, 1, 1, 1, 1, 1, 1, 2, 1, 2, 2, 1, 0, 0, 1, 1, 1, 1, 1, 1, 1, 1, 1, 0, 1, 0, 1, 0, 1, 0, 1, 0, 1, 0, 1, 1, 0, 0, 1] : List Nat).getD f 0 }
theorem E0_mixed : E0.P.follows .mixedOrders = true := by kernel_rfl
def spec_l01New_arg : Sh := ⟨[(0, .c (.rd [] .u8))], [], []⟩
def spec_l01New_res : List Sh := [⟨[(0, .c (.box 0 0))], [(0, .cells [.rd [] .u8, .int .i64, .int .i64])], []⟩]
noncomputable def spec_l01New_s0 (x : (List Int × Int × Int × Unit) × Unit × Unit) : Option (((List Int × Int × Int × Unit) × Unit × Unit) ⊕ ((List Int × Int × Unit) × Unit × Unit)) :=
 let x2 : Bool := decide (x.1.2.2.1 < (x.1.1.length : Int));
 br x2
 (let x3 : Bool := decide (x.1.2.2.1 < (4000 : Int));
 br x3
 (let x4 : Int := w64 (x.1.2.1 * (1103 : Int));
 ck (0 ≤ x.1.2.2.1)
 (ck (x.1.2.2.1.toNat < x.1.1.length)
 (let x5 : Int := x.1.1.getD x.1.2.2.1.toNat 0;
 let x6 : Int := w64 x5;
 let x7 : Int := w64 (x4 + x6);
 let x8 : Int := w64 (x7 + (7 : Int));
 let x9 : Int := bAnd .i64 x8 (1073741823 : Int);
 let x10 : Int := w64 (x.1.2.2.1 + (1 : Int));
 some (.inl ((x.1.1, x9, x10, ()), (), ())))))
 (some (.inr ((x.1.1, x.1.2.1, ()), (), ()))))
 (some (.inr ((x.1.1, x.1.2.1, ()), (), ())))
def spec_l01New_h0 : Sh := ⟨[(0, .c (.rd [] .u8)), (3, .c (.int .i64)), (4, .c (.int .i64))], [], []⟩
def spec_l01New_r0 : List Sh := [⟨[(0, .c (.rd [] .u8)), (3, .c (.int .i64))], [], []⟩]
noncomputable def spec_l01New_L0 : Lp := ⟨0, [], spec_l01New_h0, [], [(.exit 0, [])], spec_l01New_r0, loopC spec_l01New_s0⟩
noncomputable def spec_l01New (a0 : List Int) : Option ((Unit × Unit) × ((List Int × Int × Int × Unit) × Unit) × Unit) :=
 let x1 : Int := w64 ((3230 : Int) + (a0.length : Int));
 (loopC spec_l01New_s0 ((a0, x1, (0 : Int), ()), (), ())).bind fun r11 =>
 some (((), ()), ((r11.1.1, (0 : Int), r11.1.2.1, ()), ()), ())
noncomputable def spec_l01New_C : Ctr := ⟨45, spec_l01New_arg, spec_l01New_res, fun x => spec_l01New x.1.1, none⟩
def spec_l01New_H : Hint := ⟨[], [], [], fun _ => []⟩
noncomputable def spec_l01New_T : List Ctr := []
noncomputable def spec_l01New_Ls : List Lp := [spec_l01New_L0]
theorem spec_l01New_l0 : ∀ x, spec_l01New_s0 x = stepW E0 spec_l01New_T spec_l01New_Ls spec_l01New_H (loopAt (bodyOf Try.f45) 0) 0 spec_l01New_h0 [] [(.exit 0, [])] spec_l01New_r0 x := fun x => by kernel_rfl
theorem spec_l01New_e : ∀ x, spec_l01New_C.F x = runBodyW E0 spec_l01New_T spec_l01New_Ls spec_l01New_H 45 Try.f45.results.toList (bodyOf Try.f45) [] (spec_l01New_arg.mk' x) spec_l01New_res := fun x => by kernel_rfl
theorem spec_l01New_ok : spec_l01New_C.Ok E0 := fn_ok (T := spec_l01New_T) (h := spec_l01New_H) (Ls := spec_l01New_Ls) E0_mixed T_nil Try.func45 (bodyOf_some (by kernel_rfl)) (by kernel_rfl) (loops_of (ks := [0]) (by kernel_rfl) ⟨(loop_one (h := spec_l01New_H) (own := []) (head := spec_l01New_h0) (back := []) (exs := [(.exit 0, [])]) (res := spec_l01New_r0) (step := spec_l01New_s0) (by kernel_rfl) spec_l01New_l0), trivial⟩) spec_l01New_e
def spec_l01Byte_arg : Sh := ⟨[(0, .c (.box 0 0))], [(0, .cells [.rd [] .u8, .int .i64, .int .i64])], []⟩
def spec_l01Byte_res : List Sh := [⟨[(0, .c (.int .i64)), (1, .c (.box 0 0))], [(0, .cells [.rd [] .u8, .int .i64, .int .i64])], []⟩]
noncomputable def spec_l01Byte (b0_0 : List Int) (b0_1 : Int) (b0_2 : Int) : Option ((Int × Unit × Unit) × ((List Int × Int × Int × Unit) × Unit) × Unit) :=
 let x1 : Int := w64 (b0_2 * (6364136223846793005 : Int));
 let x2 : Int := w64 (x1 + (1442695040888963407 : Int));
 let x3 : Int := x2.fdiv (2 ^ (33));
 let x4 : Int := x2.fdiv (2 ^ (45));
 let x5 : Int := bXor .i64 x3 x4;
 let x6 : Int := bAnd .i64 x5 (255 : Int);
 let x7 : Bool := decide (b0_1 < (b0_0.length : Int));
 br x7
 (ck (0 ≤ b0_1)
 (ck (b0_1.toNat < b0_0.length)
 (let x8 : Int := b0_0.getD b0_1.toNat 0;
 let x9 : Int := w64 x8;
 let x10 : Int := w64 (x6 + x9);
 let x11 : Int := bAnd .i64 x10 (255 : Int);
 let x12 : Int := w64 (b0_1 + (1 : Int));
 some ((x11, (), ()), ((b0_0, x12, x2, ()), ()), ()))))
 (some ((x6, (), ()), ((b0_0, b0_1, x2, ()), ()), ()))
noncomputable def spec_l01Byte_C : Ctr := ⟨103, spec_l01Byte_arg, spec_l01Byte_res, fun x => spec_l01Byte x.2.1.1.1 x.2.1.1.2.1 x.2.1.1.2.2.1, none⟩
def spec_l01Byte_H : Hint := ⟨[], [], [], fun _ => []⟩
noncomputable def spec_l01Byte_T : List Ctr := []
noncomputable def spec_l01Byte_Ls : List Lp := []
theorem spec_l01Byte_e : ∀ x, spec_l01Byte_C.F x = runBodyW E0 spec_l01Byte_T spec_l01Byte_Ls spec_l01Byte_H 103 Try.f103.results.toList (bodyOf Try.f103) [] (spec_l01Byte_arg.mk' x) spec_l01Byte_res := fun x => by kernel_rfl
theorem spec_l01Byte_ok : spec_l01Byte_C.Ok E0 := fn_ok (T := spec_l01Byte_T) (h := spec_l01Byte_H) (Ls := spec_l01Byte_Ls) E0_mixed T_nil Try.func103 (bodyOf_some (by kernel_rfl)) (by kernel_rfl) (loops_of (ks := []) (by kernel_rfl) trivial) spec_l01Byte_e
def spec_l01Below_arg : Sh := ⟨[(0, .c (.box 0 0)), (1, .c (.int .i64))], [(0, .cells [.rd [] .u8, .int .i64, .int .i64])], []⟩
def spec_l01Below_res : List Sh := [⟨[(0, .c (.int .i64)), (1, .c (.box 0 0))], [(0, .cells [.rd [] .u8, .int .i64, .int .i64])], []⟩]
noncomputable def spec_l01Below (a1 : Int) (b0_0 : List Int) (b0_1 : Int) (b0_2 : Int) : Option ((Int × Unit × Unit) × ((List Int × Int × Int × Unit) × Unit) × Unit) :=
 let x1 : Bool := decide (a1 ≤ (0 : Int));
 br x1
 (some (((0 : Int), (), ()), ((b0_0, b0_1, b0_2, ()), ()), ()))
 (let x2 : Bool := decide (a1 ≤ (256 : Int));
 br x2
 ((spec_l01Byte b0_0 b0_1 b0_2).bind fun r3 =>
 ck (a1 ≠ 0)
 (let x4 : Int := r3.1.1.tmod a1;
 some ((x4, (), ()), ((r3.2.1.1.1, r3.2.1.1.2.1, r3.2.1.1.2.2.1, ()), ()), ())))
 ((spec_l01Byte b0_0 b0_1 b0_2).bind fun r5 =>
 (spec_l01Byte r5.2.1.1.1 r5.2.1.1.2.1 r5.2.1.1.2.2.1).bind fun r6 =>
 (spec_l01Byte r6.2.1.1.1 r6.2.1.1.2.1 r6.2.1.1.2.2.1).bind fun r7 =>
 (spec_l01Byte r7.2.1.1.1 r7.2.1.1.2.1 r7.2.1.1.2.2.1).bind fun r8 =>
 let x9 : Int := w64 (r5.1.1 * (16777216 : Int));
 let x10 : Int := w64 (r6.1.1 * (65536 : Int));
 let x11 : Int := w64 (x9 + x10);
 let x12 : Int := w64 (r7.1.1 * (256 : Int));
 let x13 : Int := w64 (x11 + x12);
 let x14 : Int := w64 (x13 + r8.1.1);
 ck (a1 ≠ 0)
 (let x15 : Int := x14.tmod a1;
 some ((x15, (), ()), ((r8.2.1.1.1, r8.2.1.1.2.1, r8.2.1.1.2.2.1, ()), ()), ()))))
noncomputable def spec_l01Below_C : Ctr := ⟨74, spec_l01Below_arg, spec_l01Below_res, fun x => spec_l01Below x.1.2.1 x.2.1.1.1 x.2.1.1.2.1 x.2.1.1.2.2.1, none⟩
def spec_l01Below_H : Hint := ⟨[], [], [], fun _ => []⟩
noncomputable def spec_l01Below_T : List Ctr := [spec_l01Byte_C]
noncomputable def spec_l01Below_Ls : List Lp := []
theorem spec_l01Below_e : ∀ x, spec_l01Below_C.F x = runBodyW E0 spec_l01Below_T spec_l01Below_Ls spec_l01Below_H 74 Try.f74.results.toList (bodyOf Try.f74) [] (spec_l01Below_arg.mk' x) spec_l01Below_res := fun x => by kernel_rfl
theorem spec_l01Below_ok : spec_l01Below_C.Ok E0 := fn_ok (T := spec_l01Below_T) (h := spec_l01Below_H) (Ls := spec_l01Below_Ls) E0_mixed (T_cons spec_l01Byte_ok T_nil) Try.func74 (bodyOf_some (by kernel_rfl)) (by kernel_rfl) (loops_of (ks := []) (by kernel_rfl) trivial) spec_l01Below_e
def spec_l01Pick_arg : Sh := ⟨[(0, .c (.box 0 0)), (1, .c (.rd [] .str))], [(0, .cells [.rd [] .u8, .int .i64, .int .i64])], []⟩
def spec_l01Pick_res : List Sh := [⟨[(0, .c (.str)), (1, .c (.box 0 0))], [(0, .cells [.rd [] .u8, .int .i64, .int .i64])], []⟩]
noncomputable def spec_l01Pick (a1 : List ByteArray) (b0_0 : List Int) (b0_1 : Int) (b0_2 : Int) : Option ((ByteArray × Unit × Unit) × ((List Int × Int × Int × Unit) × Unit) × Unit) :=
 (spec_l01Below (a1.length : Int) b0_0 b0_1 b0_2).bind fun r1 =>
 ck (0 ≤ r1.1.1)
 (ck (r1.1.1.toNat < a1.length)
 (let x2 : ByteArray := a1.getD r1.1.1.toNat ByteArray.empty;
 some ((x2, (), ()), ((r1.2.1.1.1, r1.2.1.1.2.1, r1.2.1.1.2.2.1, ()), ()), ())))
noncomputable def spec_l01Pick_C : Ctr := ⟨100, spec_l01Pick_arg, spec_l01Pick_res, fun x => spec_l01Pick x.1.2.1 x.2.1.1.1 x.2.1.1.2.1 x.2.1.1.2.2.1, none⟩
def spec_l01Pick_H : Hint := ⟨[], [], [], fun _ => []⟩
noncomputable def spec_l01Pick_T : List Ctr := [spec_l01Below_C]
noncomputable def spec_l01Pick_Ls : List Lp := []
theorem spec_l01Pick_e : ∀ x, spec_l01Pick_C.F x = runBodyW E0 spec_l01Pick_T spec_l01Pick_Ls spec_l01Pick_H 100 Try.f100.results.toList (bodyOf Try.f100) [] (spec_l01Pick_arg.mk' x) spec_l01Pick_res := fun x => by kernel_rfl
theorem spec_l01Pick_ok : spec_l01Pick_C.Ok E0 := fn_ok (T := spec_l01Pick_T) (h := spec_l01Pick_H) (Ls := spec_l01Pick_Ls) E0_mixed (T_cons spec_l01Below_ok T_nil) Try.func100 (bodyOf_some (by kernel_rfl)) (by kernel_rfl) (loops_of (ks := []) (by kernel_rfl) trivial) spec_l01Pick_e
def spec_l01Once_arg : Sh := ⟨[(0, .c (.box 0 0)), (1, .c (.int .i64))], [(0, .cells [.rd [] .u8, .int .i64, .int .i64])], []⟩
def spec_l01Once_res : List Sh := [⟨[(0, .c (.bool)), (1, .c (.box 0 0))], [(0, .cells [.rd [] .u8, .int .i64, .int .i64])], []⟩]
noncomputable def spec_l01Once (a1 : Int) (b0_0 : List Int) (b0_1 : Int) (b0_2 : Int) : Option ((Bool × Unit × Unit) × ((List Int × Int × Int × Unit) × Unit) × Unit) :=
 (spec_l01Below a1 b0_0 b0_1 b0_2).bind fun r1 =>
 let x2 : Bool := r1.1.1 == (0 : Int);
 some ((x2, (), ()), ((r1.2.1.1.1, r1.2.1.1.2.1, r1.2.1.1.2.2.1, ()), ()), ())
noncomputable def spec_l01Once_C : Ctr := ⟨75, spec_l01Once_arg, spec_l01Once_res, fun x => spec_l01Once x.1.2.1 x.2.1.1.1 x.2.1.1.2.1 x.2.1.1.2.2.1, none⟩
def spec_l01Once_H : Hint := ⟨[], [], [], fun _ => []⟩
noncomputable def spec_l01Once_T : List Ctr := [spec_l01Below_C]
noncomputable def spec_l01Once_Ls : List Lp := []
theorem spec_l01Once_e : ∀ x, spec_l01Once_C.F x = runBodyW E0 spec_l01Once_T spec_l01Once_Ls spec_l01Once_H 75 Try.f75.results.toList (bodyOf Try.f75) [] (spec_l01Once_arg.mk' x) spec_l01Once_res := fun x => by kernel_rfl
theorem spec_l01Once_ok : spec_l01Once_C.Ok E0 := fn_ok (T := spec_l01Once_T) (h := spec_l01Once_H) (Ls := spec_l01Once_Ls) E0_mixed (T_cons spec_l01Below_ok T_nil) Try.func75 (bodyOf_some (by kernel_rfl)) (by kernel_rfl) (loops_of (ks := []) (by kernel_rfl) trivial) spec_l01Once_e
def spec_l6Lists_arg : Sh := ⟨[(0, .c (.box 0 0))], [(0, .cells [.rd [] .u8, .int .i64, .int .i64])], []⟩
def spec_l6Lists_res : List Sh := [⟨[(0, .c (.own 0)), (1, .c (.own 1)), (2, .c (.box 0 0))], [(0, .cells [.rd [] .u8, .int .i64, .int .i64])], [(0, .str), (1, .str)]⟩]
noncomputable def spec_l6Lists_s0 (x : (Unit × Unit × Unit × Int × Unit) × ((List Int × Int × Int × Unit) × Unit) × (List ByteArray × List ByteArray × Unit)) : Option (((Unit × Unit × Unit × Int × Unit) × ((List Int × Int × Int × Unit) × Unit) × (List ByteArray × List ByteArray × Unit)) ⊕ ((Unit × Unit × Unit × Unit) × ((List Int × Int × Int × Unit) × Unit) × (List ByteArray × List ByteArray × Unit))) :=
 let x2 : Bool := decide (x.1.2.2.2.1 > (0 : Int));
 br x2
 ((spec_l01Pick [(ByteArray.mk #[97]), (ByteArray.mk #[98]), (ByteArray.mk #[97, 32, 98]), ByteArray.empty] x.2.1.1.1 x.2.1.1.2.1 x.2.1.1.2.2.1).bind fun r3 =>
 (spec_l01Once (7 : Int) r3.2.1.1.1 r3.2.1.1.2.1 r3.2.1.1.2.2.1).bind fun r4 =>
 br (!r4.1.1)
 (ck ((x.2.2.1.length + [r3.1.1].length) * 16 ≤ 140737488355328 ∧ (x.2.2.1.length + [r3.1.1].length) ≤ 9223372036854775807)
 (let x5 : List ByteArray := x.2.2.1 ++ [r3.1.1];
 (spec_l01Once (7 : Int) r4.2.1.1.1 r4.2.1.1.2.1 r4.2.1.1.2.2.1).bind fun r6 =>
 br (!r6.1.1)
 (ck ((x.2.2.2.1.length + [r3.1.1].length) * 16 ≤ 140737488355328 ∧ (x.2.2.2.1.length + [r3.1.1].length) ≤ 9223372036854775807)
 (let x7 : List ByteArray := x.2.2.2.1 ++ [r3.1.1];
 let x8 : Int := w64 (x.1.2.2.2.1 - (1 : Int));
 some (.inl (((), (), (), x8, ()), ((r6.2.1.1.1, r6.2.1.1.2.1, r6.2.1.1.2.2.1, ()), ()), (x5, x7, ())))))
 (let x9 : Int := w64 (x.1.2.2.2.1 - (1 : Int));
 some (.inl (((), (), (), x9, ()), ((r6.2.1.1.1, r6.2.1.1.2.1, r6.2.1.1.2.2.1, ()), ()), (x5, x.2.2.2.1, ()))))))
 ((spec_l01Once (7 : Int) r4.2.1.1.1 r4.2.1.1.2.1 r4.2.1.1.2.2.1).bind fun r10 =>
 br (!r10.1.1)
 (ck ((x.2.2.2.1.length + [r3.1.1].length) * 16 ≤ 140737488355328 ∧ (x.2.2.2.1.length + [r3.1.1].length) ≤ 9223372036854775807)
 (let x11 : List ByteArray := x.2.2.2.1 ++ [r3.1.1];
 let x12 : Int := w64 (x.1.2.2.2.1 - (1 : Int));
 some (.inl (((), (), (), x12, ()), ((r10.2.1.1.1, r10.2.1.1.2.1, r10.2.1.1.2.2.1, ()), ()), (x.2.2.1, x11, ())))))
 (let x13 : Int := w64 (x.1.2.2.2.1 - (1 : Int));
 some (.inl (((), (), (), x13, ()), ((r10.2.1.1.1, r10.2.1.1.2.1, r10.2.1.1.2.2.1, ()), ()), (x.2.2.1, x.2.2.2.1, ()))))))
 (some (.inr (((), (), (), ()), ((x.2.1.1.1, x.2.1.1.2.1, x.2.1.1.2.2.1, ()), ()), (x.2.2.1, x.2.2.2.1, ()))))
def spec_l6Lists_h0 : Sh := ⟨[(0, .c (.box 0 0)), (4, .c (.own 0)), (5, .c (.own 1)), (6, .c (.int .i64))], [(0, .cells [.rd [] .u8, .int .i64, .int .i64])], [(0, .str), (1, .str)]⟩
def spec_l6Lists_r0 : List Sh := [⟨[(0, .c (.box 0 0)), (4, .c (.own 0)), (5, .c (.own 1))], [(0, .cells [.rd [] .u8, .int .i64, .int .i64])], [(0, .str), (1, .str)]⟩]
noncomputable def spec_l6Lists_L0 : Lp := ⟨0, [], spec_l6Lists_h0, [], [(.exit 0, [])], spec_l6Lists_r0, loopC spec_l6Lists_s0⟩
noncomputable def spec_l6Lists (b0_0 : List Int) (b0_1 : Int) (b0_2 : Int) : Option ((Unit × Unit × Unit × Unit) × ((List Int × Int × Int × Unit) × Unit) × (List ByteArray × List ByteArray × Unit)) :=
 (spec_l01Below (9 : Int) b0_0 b0_1 b0_2).bind fun r1 =>
 (loopC spec_l6Lists_s0 (((), (), (), r1.1.1, ()), ((r1.2.1.1.1, r1.2.1.1.2.1, r1.2.1.1.2.2.1, ()), ()), ([], [], ()))).bind fun r14 =>
 some (((), (), (), ()), ((r14.2.1.1.1, r14.2.1.1.2.1, r14.2.1.1.2.2.1, ()), ()), (r14.2.2.1, r14.2.2.2.1, ()))
noncomputable def spec_l6Lists_C : Ctr := ⟨76, spec_l6Lists_arg, spec_l6Lists_res, fun x => spec_l6Lists x.2.1.1.1 x.2.1.1.2.1 x.2.1.1.2.2.1, none⟩
def spec_l6Lists_H : Hint := ⟨[], [], [], fun _ => []⟩
noncomputable def spec_l6Lists_T : List Ctr := [spec_l01Below_C, spec_l01Pick_C, spec_l01Once_C]
noncomputable def spec_l6Lists_Ls : List Lp := [spec_l6Lists_L0]
theorem spec_l6Lists_l0 : ∀ x, spec_l6Lists_s0 x = stepW E0 spec_l6Lists_T spec_l6Lists_Ls spec_l6Lists_H (loopAt (bodyOf Try.f76) 0) 0 spec_l6Lists_h0 [] [(.exit 0, [])] spec_l6Lists_r0 x := fun x => by kernel_rfl
theorem spec_l6Lists_e : ∀ x, spec_l6Lists_C.F x = runBodyW E0 spec_l6Lists_T spec_l6Lists_Ls spec_l6Lists_H 76 Try.f76.results.toList (bodyOf Try.f76) [] (spec_l6Lists_arg.mk' x) spec_l6Lists_res := fun x => by kernel_rfl
theorem spec_l6Lists_ok : spec_l6Lists_C.Ok E0 := fn_ok (T := spec_l6Lists_T) (h := spec_l6Lists_H) (Ls := spec_l6Lists_Ls) E0_mixed (T_cons spec_l01Below_ok (T_cons spec_l01Pick_ok (T_cons spec_l01Once_ok T_nil))) Try.func76 (bodyOf_some (by kernel_rfl)) (by kernel_rfl) (loops_of (ks := [0]) (by kernel_rfl) ⟨(loop_one (h := spec_l6Lists_H) (own := []) (head := spec_l6Lists_h0) (back := []) (exs := [(.exit 0, [])]) (res := spec_l6Lists_r0) (step := spec_l6Lists_s0) (by kernel_rfl) spec_l6Lists_l0), trivial⟩) spec_l6Lists_e
def spec_DrawMarksOf_arg : Sh := ⟨[(0, .c (.rd [] .u8))], [], []⟩
def spec_DrawMarksOf_res : List Sh := [⟨[(0, .c (.own 0)), (1, .c (.own 1))], [], [(0, .str), (1, .str)]⟩]
noncomputable def spec_DrawMarksOf (a0 : List Int) : Option ((Unit × Unit × Unit) × Unit × (List ByteArray × List ByteArray × Unit)) :=
 (spec_l01New a0).bind fun r1 =>
 (spec_l6Lists r1.2.1.1.1 r1.2.1.1.2.1 r1.2.1.1.2.2.1).bind fun r2 =>
 some (((), (), ()), (), (r2.2.2.1, r2.2.2.2.1, ()))
noncomputable def spec_DrawMarksOf_C : Ctr := ⟨30, spec_DrawMarksOf_arg, spec_DrawMarksOf_res, fun x => spec_DrawMarksOf x.1.1, none⟩
def spec_DrawMarksOf_H : Hint := ⟨[], [], [], fun _ => []⟩
noncomputable def spec_DrawMarksOf_T : List Ctr := [spec_l01New_C, spec_l6Lists_C]
noncomputable def spec_DrawMarksOf_Ls : List Lp := []
theorem spec_DrawMarksOf_e : ∀ x, spec_DrawMarksOf_C.F x = runBodyW E0 spec_DrawMarksOf_T spec_DrawMarksOf_Ls spec_DrawMarksOf_H 30 Try.f30.results.toList (bodyOf Try.f30) [] (spec_DrawMarksOf_arg.mk' x) spec_DrawMarksOf_res := fun x => by kernel_rfl
theorem spec_DrawMarksOf_ok : spec_DrawMarksOf_C.Ok E0 := fn_ok (T := spec_DrawMarksOf_T) (h := spec_DrawMarksOf_H) (Ls := spec_DrawMarksOf_Ls) E0_mixed (T_cons spec_l01New_ok (T_cons spec_l6Lists_ok T_nil)) Try.func30 (bodyOf_some (by kernel_rfl)) (by kernel_rfl) (loops_of (ks := []) (by kernel_rfl) trivial) spec_DrawMarksOf_e
def impl_ResetOf_arg : Sh := ⟨[(0, .c (.rd [] .str)), (1, .c (.rd [] .str))], [], []⟩
def impl_ResetOf_res : List Sh := [⟨[(0, .c (.int .i64)), (1, .c (.int .i64)), (2, .c (.int .i64))], [], []⟩]
noncomputable def impl_ResetOf_s0 (x : (List ByteArray × List ByteArray × Int × Unit) × Unit × Unit) : Option (((List ByteArray × List ByteArray × Int × Unit) × Unit × Unit) ⊕ ((List ByteArray × List ByteArray × Int × Unit) × Unit × Unit)) :=
 let x1 : Bool := decide (x.1.2.2.1 < (x.1.1.length : Int));
 br x1
 (let x2 : Bool := decide (x.1.2.2.1 < (x.1.2.1.length : Int));
 br x2
 (ck (0 ≤ x.1.2.2.1)
 (ck (x.1.2.2.1.toNat < x.1.1.length)
 (let x3 : ByteArray := x.1.1.getD x.1.2.2.1.toNat ByteArray.empty;
 ck (0 ≤ x.1.2.2.1)
 (ck (x.1.2.2.1.toNat < x.1.2.1.length)
 (let x4 : ByteArray := x.1.2.1.getD x.1.2.2.1.toNat ByteArray.empty;
 let x5 : Bool := strEq x3 x4;
 br x5
 (let x6 : Int := w64 (x.1.2.2.1 + (1 : Int));
 some (.inl ((x.1.1, x.1.2.1, x6, ()), (), ())))
 (some (.inr ((x.1.1, x.1.2.1, x.1.2.2.1, ()), (), ()))))))))
 (some (.inr ((x.1.1, x.1.2.1, x.1.2.2.1, ()), (), ()))))
 (some (.inr ((x.1.1, x.1.2.1, x.1.2.2.1, ()), (), ())))
def impl_ResetOf_h0 : Sh := ⟨[(0, .c (.rd [] .str)), (1, .c (.rd [] .str)), (7, .c (.int .i64))], [], []⟩
def impl_ResetOf_r0 : List Sh := [⟨[(0, .c (.rd [] .str)), (1, .c (.rd [] .str)), (7, .c (.int .i64))], [], []⟩]
noncomputable def impl_ResetOf_L0 : Lp := ⟨0, [], impl_ResetOf_h0, [], [(.exit 0, [])], impl_ResetOf_r0, loopC impl_ResetOf_s0⟩
noncomputable def impl_ResetOf_s2 (x : (List ByteArray × List ByteArray × Int × Int × Unit) × Unit × Unit) : Option (((List ByteArray × List ByteArray × Int × Int × Unit) × Unit × Unit) ⊕ ((List ByteArray × List ByteArray × Int × Int × Unit) × Unit × Unit)) :=
 let x8 : Int := w64 ((x.1.1.length : Int) - x.1.2.2.1);
 let x9 : Bool := decide (x.1.2.2.2.1 < x8);
 br x9
 (let x10 : Int := w64 ((x.1.2.1.length : Int) - x.1.2.2.1);
 let x11 : Bool := decide (x.1.2.2.2.1 < x10);
 br x11
 (let x12 : Int := w64 ((x.1.1.length : Int) - (1 : Int));
 let x13 : Int := w64 (x12 - x.1.2.2.2.1);
 ck (0 ≤ x13)
 (ck (x13.toNat < x.1.1.length)
 (let x14 : ByteArray := x.1.1.getD x13.toNat ByteArray.empty;
 let x15 : Int := w64 ((x.1.2.1.length : Int) - (1 : Int));
 let x16 : Int := w64 (x15 - x.1.2.2.2.1);
 ck (0 ≤ x16)
 (ck (x16.toNat < x.1.2.1.length)
 (let x17 : ByteArray := x.1.2.1.getD x16.toNat ByteArray.empty;
 let x18 : Bool := strEq x14 x17;
 br x18
 (let x19 : Int := w64 (x.1.2.2.2.1 + (1 : Int));
 some (.inl ((x.1.1, x.1.2.1, x.1.2.2.1, x19, ()), (), ())))
 (some (.inr ((x.1.1, x.1.2.1, x.1.2.2.1, x.1.2.2.2.1, ()), (), ()))))))))
 (some (.inr ((x.1.1, x.1.2.1, x.1.2.2.1, x.1.2.2.2.1, ()), (), ()))))
 (some (.inr ((x.1.1, x.1.2.1, x.1.2.2.1, x.1.2.2.2.1, ()), (), ())))
def impl_ResetOf_h2 : Sh := ⟨[(0, .c (.rd [] .str)), (1, .c (.rd [] .str)), (7, .c (.int .i64)), (8, .c (.int .i64))], [], []⟩
def impl_ResetOf_r2 : List Sh := [⟨[(0, .c (.rd [] .str)), (1, .c (.rd [] .str)), (7, .c (.int .i64)), (8, .c (.int .i64))], [], []⟩]
noncomputable def impl_ResetOf_L2 : Lp := ⟨2, [], impl_ResetOf_h2, [], [(.exit 2, [])], impl_ResetOf_r2, loopC impl_ResetOf_s2⟩
noncomputable def impl_ResetOf (a0 : List ByteArray) (a1 : List ByteArray) : Option ((Int × Int × Int × Unit) × Unit × Unit) :=
 (loopC impl_ResetOf_s0 ((a0, a1, (0 : Int), ()), (), ())).bind fun r7 =>
 (loopC impl_ResetOf_s2 ((r7.1.1, r7.1.2.1, r7.1.2.2.1, (0 : Int), ()), (), ())).bind fun r20 =>
 let x21 : Int := w64 ((r20.1.1.length : Int) - r20.1.2.2.1);
 let x22 : Int := w64 (x21 - r20.1.2.2.2.1);
 let x23 : Int := w64 ((r20.1.2.1.length : Int) - r20.1.2.2.1);
 let x24 : Int := w64 (x23 - r20.1.2.2.2.1);
 some ((r20.1.2.2.1, x22, x24, ()), (), ())
noncomputable def impl_ResetOf_C : Ctr := ⟨32, impl_ResetOf_arg, impl_ResetOf_res, fun x => impl_ResetOf x.1.1 x.1.2.1, none⟩
def impl_ResetOf_H : Hint := ⟨[], [], [], fun _ => []⟩
noncomputable def impl_ResetOf_T : List Ctr := []
noncomputable def impl_ResetOf_Ls : List Lp := [impl_ResetOf_L0, impl_ResetOf_L2]
theorem impl_ResetOf_l0 : ∀ x, impl_ResetOf_s0 x = stepW E0 impl_ResetOf_T impl_ResetOf_Ls impl_ResetOf_H (loopAt (bodyOf Try.f32) 0) 0 impl_ResetOf_h0 [] [(.exit 0, [])] impl_ResetOf_r0 x := fun x => by kernel_rfl
theorem impl_ResetOf_l2 : ∀ x, impl_ResetOf_s2 x = stepW E0 impl_ResetOf_T impl_ResetOf_Ls impl_ResetOf_H (loopAt (bodyOf Try.f32) 1) 2 impl_ResetOf_h2 [] [(.exit 2, [])] impl_ResetOf_r2 x := fun x => by kernel_rfl
theorem impl_ResetOf_e : ∀ x, impl_ResetOf_C.F x = runBodyW E0 impl_ResetOf_T impl_ResetOf_Ls impl_ResetOf_H 32 Try.f32.results.toList (bodyOf Try.f32) [] (impl_ResetOf_arg.mk' x) impl_ResetOf_res := fun x => by kernel_rfl
theorem impl_ResetOf_ok : impl_ResetOf_C.Ok E0 := fn_ok (T := impl_ResetOf_T) (h := impl_ResetOf_H) (Ls := impl_ResetOf_Ls) E0_mixed T_nil Try.func32 (bodyOf_some (by kernel_rfl)) (by kernel_rfl) (loops_of (ks := [0, 2]) (by kernel_rfl) ⟨(loop_one (h := impl_ResetOf_H) (own := []) (head := impl_ResetOf_h0) (back := []) (exs := [(.exit 0, [])]) (res := impl_ResetOf_r0) (step := impl_ResetOf_s0) (by kernel_rfl) impl_ResetOf_l0), (loop_one (h := impl_ResetOf_H) (own := []) (head := impl_ResetOf_h2) (back := []) (exs := [(.exit 2, [])]) (res := impl_ResetOf_r2) (step := impl_ResetOf_s2) (by kernel_rfl) impl_ResetOf_l2), trivial⟩) impl_ResetOf_e
def strings_Repeat_arg : Sh := ⟨[(0, .c (.str)), (1, .c (.int .i64))], [], []⟩
def strings_Repeat_res : List Sh := [⟨[(0, .c (.str))], [], []⟩]
def strings_Repeat (s : ByteArray) (n : Int) : Option ((ByteArray × Unit) × Unit × Unit) := repeatF s n
noncomputable def strings_Repeat_C : Ctr := ⟨77, strings_Repeat_arg, strings_Repeat_res, fun x => strings_Repeat x.1.1 x.1.2.1, some 2⟩
end Go.Tree
namespace Go.Proofs
section
open Go Go.Shelf Go.RowKit Go.Lib Go.Tree Go.Sort
def Try.lays105_ren : Go.Shelf.Ren := ⟨fun | 105 => 77 | 212 => 104 | 99 => 105 | 165 => 106 | 166 => 107 | 170 => 108 | 169 => 109 | 263 => 123 | 264 => 124 | 206 => 125 | 240 => 126 | 241 => 127 | 276 => 132 | 277 => 133 | n => n, fun | 9 => 9 | 3 => 3 | 4 => 4 | 20 => 20 | 0 => 0 | 46 => 124 | 109 => 125 | 5 => 5 | 72 => 130 | 76 => 134 | 51 => 146 | 146 => 147 | 53 => 149 | 148 => 150 | 70 => 128 | 37 => 22 | 75 => 133 | 127 => 152 | 164 => 154 | 80 => 137 | n => n, fun | n => n⟩
theorem Try.lays105 : Go.Proofs.Lays.n105 Try.prog Try.lays105_ren := {
  mixed := by kernel_rfl
  f99 := Try.func105.trans (congrArg some (by kernel_rfl))
  f105 := Try.func77.trans (congrArg some (by kernel_rfl))
  f165 := Try.func106.trans (congrArg some (by kernel_rfl))
  f166 := Try.func107.trans (congrArg some (by kernel_rfl))
  f169 := Try.func109.trans (congrArg some (by kernel_rfl))
  f170 := Try.func108.trans (congrArg some (by kernel_rfl))
  f206 := Try.func125.trans (congrArg some (by kernel_rfl))
  f212 := Try.func104.trans (congrArg some (by kernel_rfl))
  f240 := Try.func126.trans (congrArg some (by kernel_rfl))
  f241 := Try.func127.trans (congrArg some (by kernel_rfl))
  f263 := Try.func123.trans (congrArg some (by kernel_rfl))
  f264 := Try.func124.trans (congrArg some (by kernel_rfl))
  f276 := Try.func132.trans (congrArg some (by kernel_rfl))
  f277 := Try.func133.trans (congrArg some (by kernel_rfl))
  t0 := Try.underlying0
  a0 := Try.isAgg0
  z0 := Try.sizeOf0
  v0 := Try.zeroValue0
  t3 := Try.underlying3
  a3 := Try.isAgg3
  z3 := Try.sizeOf3
  v3 := Try.zeroValue3
  t4 := Try.underlying4
  a4 := Try.isAgg4
  z4 := Try.sizeOf4
  v4 := Try.zeroValue4
  t5 := Try.underlying5
  a5 := Try.isAgg5
  z5 := Try.sizeOf5
  v5 := Try.zeroValue5
  t9 := Try.underlying9
  a9 := Try.isAgg9
  z9 := Try.sizeOf9
  v9 := Try.zeroValue9
  t20 := Try.underlying20
  a20 := Try.isAgg20
  z20 := Try.sizeOf20
  v20 := Try.zeroValue20
  t37 := Try.underlying22
  a37 := Try.isAgg22
  z37 := Try.sizeOf22
  v37 := Try.zeroValue22
  t46 := Try.underlying124
  a46 := Try.isAgg124
  z46 := Try.sizeOf124
  v46 := Try.zeroValue124
  t51 := Try.underlying146
  a51 := Try.isAgg146
  z51 := Try.sizeOf146
  v51 := Try.zeroValue146
  t53 := Try.underlying149
  a53 := Try.isAgg149
  z53 := Try.sizeOf149
  v53 := Try.zeroValue149
  t70 := Try.underlying128
  a70 := Try.isAgg128
  z70 := Try.sizeOf128
  v70 := Try.zeroValue128
  t72 := Try.underlying130
  a72 := Try.isAgg130
  z72 := Try.sizeOf130
  v72 := Try.zeroValue130
  t75 := Try.underlying133
  a75 := Try.isAgg133
  z75 := Try.sizeOf133
  v75 := Try.zeroValue133
  t76 := Try.underlying134
  a76 := Try.isAgg134
  z76 := Try.sizeOf134
  v76 := Try.zeroValue134
  t109 := Try.underlying125
  a109 := Try.isAgg125
  z109 := Try.sizeOf125
  v109 := Try.zeroValue125
  t127 := Try.underlying152
  a127 := Try.isAgg152
  z127 := Try.sizeOf152
  v127 := Try.zeroValue152
  t146 := Try.underlying147
  a146 := Try.isAgg147
  z146 := Try.sizeOf147
  v146 := Try.zeroValue147
  t148 := Try.underlying150
  a148 := Try.isAgg150
  z148 := Try.sizeOf150
  v148 := Try.zeroValue150
  t164 := Try.underlying154
  a164 := Try.isAgg154
  z164 := Try.sizeOf154
  v164 := Try.zeroValue154 }
theorem Try.Builder_Extra_105 : Builder.Extra Try.prog Try.lays105_ren := {
  sizeBuilder := by kernel_rfl
  liesBuilder := by kernel_rfl
  t5 := Try.underlying5
  a5 := Try.isAgg5
  z5 := Try.sizeOf5
  v5 := Try.zeroValue5
  infoByte := by kernel_rfl
  cellsByte := by kernel_rfl
  sizeByte := by kernel_rfl
  neB5 := by decide }
theorem Try.strings_Repeat (s : ByteArray) (c : Nat) (w : World) (hc : c ≤ 9223372036854775807) (hlen : s.size * c ≤ 140737488355328) :
    Calls Try.prog 77 #[.string s, .int .i64 c] w fun e w' => e = .returned (.string ⟨(Lib.repeatL s.data.toList c).toArray⟩) ∧ Below w.heap.size w w' := Any.strings_Repeat Try.lays105 Try.Builder_Extra_105 s c w hc hlen
end
end Go.Proofs
namespace Go.Tree
open Go Go.Proofs
set_option linter.unusedVariables false
set_option maxRecDepth 100000
theorem strings_Repeat_ok : strings_Repeat_C.Ok E0 := repeat_ok (E := E0) (by kernel_rfl) (by kernel_rfl) Go.Proofs.Try.strings_Repeat
def impl_MarksOf_arg : Sh := ⟨[(0, .c (.rd [] .str)), (1, .c (.rd [] .str))], [], []⟩
def impl_MarksOf_res : List Sh := [⟨[(0, .c (.str))], [], []⟩]
noncomputable def impl_MarksOf (a0 : List ByteArray) (a1 : List ByteArray) : Option ((ByteArray × Unit) × Unit × Unit) :=
 (impl_ResetOf a0 a1).bind fun r1 =>
 (strings_Repeat (ByteArray.mk #[61]) r1.1.1).bind fun r2 =>
 (strings_Repeat (ByteArray.mk #[45]) r1.1.2.1).bind fun r3 =>
 ck (((r2.1.1.size + r3.1.1.size : Nat) : Int) ≤ IntKind.i64.max)
 (let x4 : ByteArray := r2.1.1 ++ r3.1.1;
 (strings_Repeat (ByteArray.mk #[43]) r1.1.2.2.1).bind fun r5 =>
 ck (((x4.size + r5.1.1.size : Nat) : Int) ≤ IntKind.i64.max)
 (let x6 : ByteArray := x4 ++ r5.1.1;
 let x7 : Int := w64 ((a0.length : Int) - r1.1.1);
 let x8 : Int := w64 (x7 - r1.1.2.1);
 (strings_Repeat (ByteArray.mk #[61]) x8).bind fun r9 =>
 ck (((x6.size + r9.1.1.size : Nat) : Int) ≤ IntKind.i64.max)
 (let x10 : ByteArray := x6 ++ r9.1.1;
 some ((x10, ()), (), ()))))
noncomputable def impl_MarksOf_C : Ctr := ⟨31, impl_MarksOf_arg, impl_MarksOf_res, fun x => impl_MarksOf x.1.1 x.1.2.1, none⟩
def impl_MarksOf_H : Hint := ⟨[], [], [], fun _ => []⟩
noncomputable def impl_MarksOf_T : List Ctr := [impl_ResetOf_C, strings_Repeat_C]
noncomputable def impl_MarksOf_Ls : List Lp := []
theorem impl_MarksOf_e : ∀ x, impl_MarksOf_C.F x = runBodyW E0 impl_MarksOf_T impl_MarksOf_Ls impl_MarksOf_H 31 Try.f31.results.toList (bodyOf Try.f31) [] (impl_MarksOf_arg.mk' x) impl_MarksOf_res := fun x => by kernel_rfl
theorem impl_MarksOf_ok : impl_MarksOf_C.Ok E0 := fn_ok (T := impl_MarksOf_T) (h := impl_MarksOf_H) (Ls := impl_MarksOf_Ls) E0_mixed (T_cons impl_ResetOf_ok (T_cons strings_Repeat_ok T_nil)) Try.func31 (bodyOf_some (by kernel_rfl)) (by kernel_rfl) (loops_of (ks := []) (by kernel_rfl) trivial) impl_MarksOf_e
def laws_FnMarks_arg : Sh := ⟨[(0, .c (.rd [] .u8))], [], []⟩
def laws_FnMarks_res : List Sh := [⟨[(0, .c (.bool))], [], []⟩]
noncomputable def laws_FnMarks_s0 (x : (Unit × Unit × ByteArray × Int × Int × Int × Int × Int × Int × Int × Unit) × Unit × (List ByteArray × List ByteArray × Unit)) : Option (((Unit × Unit × ByteArray × Int × Int × Int × Int × Int × Int × Int × Unit) × Unit × (List ByteArray × List ByteArray × Unit)) ⊕ (((Bool × Unit) × Unit × Unit) ⊕ ((Unit × Unit × ByteArray × Int × Int × Int × Int × Int × Unit) × Unit × (List ByteArray × List ByteArray × Unit)))) :=
 let x5 : Bool := decide (x.1.2.2.2.2.2.2.2.2.2.1 < (x.1.2.2.1.size : Int));
 br x5
 (ck (0 ≤ x.1.2.2.2.2.2.2.2.2.2.1 ∧ x.1.2.2.2.2.2.2.2.2.2.1.toNat < x.1.2.2.1.size)
 (let x6 : Int := byteAt x.1.2.2.1 x.1.2.2.2.2.2.2.2.2.2.1.toNat;
 let x7 : Bool := x6 == (61 : Int);
 br x7
 (let x8 : Int := w64 (x.1.2.2.2.2.2.2.1 + (1 : Int));
 let x9 : Bool := decide (x.1.2.2.2.2.2.2.2.2.2.1 < x.1.2.2.2.1);
 br x9
 (ck (0 ≤ x.1.2.2.2.2.2.2.2.2.2.1 ∧ x.1.2.2.2.2.2.2.2.2.2.1.toNat < x.1.2.2.1.size)
 (let x10 : Bool := x6 != (61 : Int);
 br x10
 (some (.inr (.inl ((false, ()), (), ()))))
 (let x11 : Bool := x.1.2.2.2.2.2.2.2.2.2.1 == x.1.2.2.2.1;
 br x11
 (let x12 : Int := w64 (x.1.2.2.2.2.2.2.2.1 + x.1.2.2.2.2.2.2.2.2.1);
 let x13 : Bool := x12 == (0 : Int);
 br x13
 (let x14 : Int := w64 (x.1.2.2.2.2.1 + x.1.2.2.2.2.2.1);
 let x15 : Bool := decide (x14 > (0 : Int));
 br x15
 (some (.inr (.inl ((false, ()), (), ()))))
 (let x16 : Int := w64 (x.1.2.2.2.2.2.2.2.2.2.1 + (1 : Int));
 some (.inl (((), (), x.1.2.2.1, x.1.2.2.2.1, x.1.2.2.2.2.1, x.1.2.2.2.2.2.1, x8, x.1.2.2.2.2.2.2.2.1, x.1.2.2.2.2.2.2.2.2.1, x16, ()), (), (x.2.2.1, x.2.2.2.1, ())))))
 (let x17 : Int := w64 (x.1.2.2.2.2.2.2.2.2.2.1 + (1 : Int));
 some (.inl (((), (), x.1.2.2.1, x.1.2.2.2.1, x.1.2.2.2.2.1, x.1.2.2.2.2.2.1, x8, x.1.2.2.2.2.2.2.2.1, x.1.2.2.2.2.2.2.2.2.1, x17, ()), (), (x.2.2.1, x.2.2.2.1, ())))))
 (let x18 : Int := w64 (x.1.2.2.2.2.2.2.2.2.2.1 + (1 : Int));
 some (.inl (((), (), x.1.2.2.1, x.1.2.2.2.1, x.1.2.2.2.2.1, x.1.2.2.2.2.2.1, x8, x.1.2.2.2.2.2.2.2.1, x.1.2.2.2.2.2.2.2.2.1, x18, ()), (), (x.2.2.1, x.2.2.2.1, ())))))))
 (let x19 : Bool := x.1.2.2.2.2.2.2.2.2.2.1 == x.1.2.2.2.1;
 br x19
 (let x20 : Int := w64 (x.1.2.2.2.2.2.2.2.1 + x.1.2.2.2.2.2.2.2.2.1);
 let x21 : Bool := x20 == (0 : Int);
 br x21
 (let x22 : Int := w64 (x.1.2.2.2.2.1 + x.1.2.2.2.2.2.1);
 let x23 : Bool := decide (x22 > (0 : Int));
 br x23
 (some (.inr (.inl ((false, ()), (), ()))))
 (let x24 : Int := w64 (x.1.2.2.2.2.2.2.2.2.2.1 + (1 : Int));
 some (.inl (((), (), x.1.2.2.1, x.1.2.2.2.1, x.1.2.2.2.2.1, x.1.2.2.2.2.2.1, x8, x.1.2.2.2.2.2.2.2.1, x.1.2.2.2.2.2.2.2.2.1, x24, ()), (), (x.2.2.1, x.2.2.2.1, ())))))
 (let x25 : Int := w64 (x.1.2.2.2.2.2.2.2.2.2.1 + (1 : Int));
 some (.inl (((), (), x.1.2.2.1, x.1.2.2.2.1, x.1.2.2.2.2.1, x.1.2.2.2.2.2.1, x8, x.1.2.2.2.2.2.2.2.1, x.1.2.2.2.2.2.2.2.2.1, x25, ()), (), (x.2.2.1, x.2.2.2.1, ())))))
 (let x26 : Int := w64 (x.1.2.2.2.2.2.2.2.2.2.1 + (1 : Int));
 some (.inl (((), (), x.1.2.2.1, x.1.2.2.2.1, x.1.2.2.2.2.1, x.1.2.2.2.2.2.1, x8, x.1.2.2.2.2.2.2.2.1, x.1.2.2.2.2.2.2.2.2.1, x26, ()), (), (x.2.2.1, x.2.2.2.1, ()))))))
 (let x27 : Bool := x6 == (45 : Int);
 br x27
 (let x28 : Int := w64 (x.1.2.2.2.2.2.2.2.1 + (1 : Int));
 let x29 : Bool := decide (x.1.2.2.2.2.2.2.2.2.2.1 < x.1.2.2.2.1);
 br x29
 (ck (0 ≤ x.1.2.2.2.2.2.2.2.2.2.1 ∧ x.1.2.2.2.2.2.2.2.2.2.1.toNat < x.1.2.2.1.size)
 (let x30 : Bool := x6 != (61 : Int);
 br x30
 (some (.inr (.inl ((false, ()), (), ()))))
 (let x31 : Bool := x.1.2.2.2.2.2.2.2.2.2.1 == x.1.2.2.2.1;
 br x31
 (let x32 : Int := w64 (x28 + x.1.2.2.2.2.2.2.2.2.1);
 let x33 : Bool := x32 == (0 : Int);
 br x33
 (let x34 : Int := w64 (x.1.2.2.2.2.1 + x.1.2.2.2.2.2.1);
 let x35 : Bool := decide (x34 > (0 : Int));
 br x35
 (some (.inr (.inl ((false, ()), (), ()))))
 (let x36 : Int := w64 (x.1.2.2.2.2.2.2.2.2.2.1 + (1 : Int));
 some (.inl (((), (), x.1.2.2.1, x.1.2.2.2.1, x.1.2.2.2.2.1, x.1.2.2.2.2.2.1, x.1.2.2.2.2.2.2.1, x28, x.1.2.2.2.2.2.2.2.2.1, x36, ()), (), (x.2.2.1, x.2.2.2.1, ())))))
 (let x37 : Int := w64 (x.1.2.2.2.2.2.2.2.2.2.1 + (1 : Int));
 some (.inl (((), (), x.1.2.2.1, x.1.2.2.2.1, x.1.2.2.2.2.1, x.1.2.2.2.2.2.1, x.1.2.2.2.2.2.2.1, x28, x.1.2.2.2.2.2.2.2.2.1, x37, ()), (), (x.2.2.1, x.2.2.2.1, ())))))
 (let x38 : Int := w64 (x.1.2.2.2.2.2.2.2.2.2.1 + (1 : Int));
 some (.inl (((), (), x.1.2.2.1, x.1.2.2.2.1, x.1.2.2.2.2.1, x.1.2.2.2.2.2.1, x.1.2.2.2.2.2.2.1, x28, x.1.2.2.2.2.2.2.2.2.1, x38, ()), (), (x.2.2.1, x.2.2.2.1, ())))))))
 (let x39 : Bool := x.1.2.2.2.2.2.2.2.2.2.1 == x.1.2.2.2.1;
 br x39
 (let x40 : Int := w64 (x28 + x.1.2.2.2.2.2.2.2.2.1);
 let x41 : Bool := x40 == (0 : Int);
 br x41
 (let x42 : Int := w64 (x.1.2.2.2.2.1 + x.1.2.2.2.2.2.1);
 let x43 : Bool := decide (x42 > (0 : Int));
 br x43
 (some (.inr (.inl ((false, ()), (), ()))))
 (let x44 : Int := w64 (x.1.2.2.2.2.2.2.2.2.2.1 + (1 : Int));
 some (.inl (((), (), x.1.2.2.1, x.1.2.2.2.1, x.1.2.2.2.2.1, x.1.2.2.2.2.2.1, x.1.2.2.2.2.2.2.1, x28, x.1.2.2.2.2.2.2.2.2.1, x44, ()), (), (x.2.2.1, x.2.2.2.1, ())))))
 (let x45 : Int := w64 (x.1.2.2.2.2.2.2.2.2.2.1 + (1 : Int));
 some (.inl (((), (), x.1.2.2.1, x.1.2.2.2.1, x.1.2.2.2.2.1, x.1.2.2.2.2.2.1, x.1.2.2.2.2.2.2.1, x28, x.1.2.2.2.2.2.2.2.2.1, x45, ()), (), (x.2.2.1, x.2.2.2.1, ())))))
 (let x46 : Int := w64 (x.1.2.2.2.2.2.2.2.2.2.1 + (1 : Int));
 some (.inl (((), (), x.1.2.2.1, x.1.2.2.2.1, x.1.2.2.2.2.1, x.1.2.2.2.2.2.1, x.1.2.2.2.2.2.2.1, x28, x.1.2.2.2.2.2.2.2.2.1, x46, ()), (), (x.2.2.1, x.2.2.2.1, ()))))))
 (let x47 : Bool := x6 == (43 : Int);
 br x47
 (let x48 : Int := w64 (x.1.2.2.2.2.2.2.2.2.1 + (1 : Int));
 let x49 : Bool := decide (x.1.2.2.2.2.2.2.2.2.2.1 < x.1.2.2.2.1);
 br x49
 (ck (0 ≤ x.1.2.2.2.2.2.2.2.2.2.1 ∧ x.1.2.2.2.2.2.2.2.2.2.1.toNat < x.1.2.2.1.size)
 (let x50 : Bool := x6 != (61 : Int);
 br x50
 (some (.inr (.inl ((false, ()), (), ()))))
 (let x51 : Bool := x.1.2.2.2.2.2.2.2.2.2.1 == x.1.2.2.2.1;
 br x51
 (let x52 : Int := w64 (x.1.2.2.2.2.2.2.2.1 + x48);
 let x53 : Bool := x52 == (0 : Int);
 br x53
 (let x54 : Int := w64 (x.1.2.2.2.2.1 + x.1.2.2.2.2.2.1);
 let x55 : Bool := decide (x54 > (0 : Int));
 br x55
 (some (.inr (.inl ((false, ()), (), ()))))
 (let x56 : Int := w64 (x.1.2.2.2.2.2.2.2.2.2.1 + (1 : Int));
 some (.inl (((), (), x.1.2.2.1, x.1.2.2.2.1, x.1.2.2.2.2.1, x.1.2.2.2.2.2.1, x.1.2.2.2.2.2.2.1, x.1.2.2.2.2.2.2.2.1, x48, x56, ()), (), (x.2.2.1, x.2.2.2.1, ())))))
 (let x57 : Int := w64 (x.1.2.2.2.2.2.2.2.2.2.1 + (1 : Int));
 some (.inl (((), (), x.1.2.2.1, x.1.2.2.2.1, x.1.2.2.2.2.1, x.1.2.2.2.2.2.1, x.1.2.2.2.2.2.2.1, x.1.2.2.2.2.2.2.2.1, x48, x57, ()), (), (x.2.2.1, x.2.2.2.1, ())))))
 (let x58 : Int := w64 (x.1.2.2.2.2.2.2.2.2.2.1 + (1 : Int));
 some (.inl (((), (), x.1.2.2.1, x.1.2.2.2.1, x.1.2.2.2.2.1, x.1.2.2.2.2.2.1, x.1.2.2.2.2.2.2.1, x.1.2.2.2.2.2.2.2.1, x48, x58, ()), (), (x.2.2.1, x.2.2.2.1, ())))))))
 (let x59 : Bool := x.1.2.2.2.2.2.2.2.2.2.1 == x.1.2.2.2.1;
 br x59
 (let x60 : Int := w64 (x.1.2.2.2.2.2.2.2.1 + x48);
 let x61 : Bool := x60 == (0 : Int);
 br x61
 (let x62 : Int := w64 (x.1.2.2.2.2.1 + x.1.2.2.2.2.2.1);
 let x63 : Bool := decide (x62 > (0 : Int));
 br x63
 (some (.inr (.inl ((false, ()), (), ()))))
 (let x64 : Int := w64 (x.1.2.2.2.2.2.2.2.2.2.1 + (1 : Int));
 some (.inl (((), (), x.1.2.2.1, x.1.2.2.2.1, x.1.2.2.2.2.1, x.1.2.2.2.2.2.1, x.1.2.2.2.2.2.2.1, x.1.2.2.2.2.2.2.2.1, x48, x64, ()), (), (x.2.2.1, x.2.2.2.1, ())))))
 (let x65 : Int := w64 (x.1.2.2.2.2.2.2.2.2.2.1 + (1 : Int));
 some (.inl (((), (), x.1.2.2.1, x.1.2.2.2.1, x.1.2.2.2.2.1, x.1.2.2.2.2.2.1, x.1.2.2.2.2.2.2.1, x.1.2.2.2.2.2.2.2.1, x48, x65, ()), (), (x.2.2.1, x.2.2.2.1, ())))))
 (let x66 : Int := w64 (x.1.2.2.2.2.2.2.2.2.2.1 + (1 : Int));
 some (.inl (((), (), x.1.2.2.1, x.1.2.2.2.1, x.1.2.2.2.2.1, x.1.2.2.2.2.2.1, x.1.2.2.2.2.2.2.1, x.1.2.2.2.2.2.2.2.1, x48, x66, ()), (), (x.2.2.1, x.2.2.2.1, ()))))))
 (let x67 : Bool := decide (x.1.2.2.2.2.2.2.2.2.2.1 < x.1.2.2.2.1);
 br x67
 (ck (0 ≤ x.1.2.2.2.2.2.2.2.2.2.1 ∧ x.1.2.2.2.2.2.2.2.2.2.1.toNat < x.1.2.2.1.size)
 (let x68 : Bool := x6 != (61 : Int);
 br x68
 (some (.inr (.inl ((false, ()), (), ()))))
 (let x69 : Bool := x.1.2.2.2.2.2.2.2.2.2.1 == x.1.2.2.2.1;
 br x69
 (let x70 : Int := w64 (x.1.2.2.2.2.2.2.2.1 + x.1.2.2.2.2.2.2.2.2.1);
 let x71 : Bool := x70 == (0 : Int);
 br x71
 (let x72 : Int := w64 (x.1.2.2.2.2.1 + x.1.2.2.2.2.2.1);
 let x73 : Bool := decide (x72 > (0 : Int));
 br x73
 (some (.inr (.inl ((false, ()), (), ()))))
 (let x74 : Int := w64 (x.1.2.2.2.2.2.2.2.2.2.1 + (1 : Int));
 some (.inl (((), (), x.1.2.2.1, x.1.2.2.2.1, x.1.2.2.2.2.1, x.1.2.2.2.2.2.1, x.1.2.2.2.2.2.2.1, x.1.2.2.2.2.2.2.2.1, x.1.2.2.2.2.2.2.2.2.1, x74, ()), (), (x.2.2.1, x.2.2.2.1, ())))))
 (let x75 : Int := w64 (x.1.2.2.2.2.2.2.2.2.2.1 + (1 : Int));
 some (.inl (((), (), x.1.2.2.1, x.1.2.2.2.1, x.1.2.2.2.2.1, x.1.2.2.2.2.2.1, x.1.2.2.2.2.2.2.1, x.1.2.2.2.2.2.2.2.1, x.1.2.2.2.2.2.2.2.2.1, x75, ()), (), (x.2.2.1, x.2.2.2.1, ())))))
 (let x76 : Int := w64 (x.1.2.2.2.2.2.2.2.2.2.1 + (1 : Int));
 some (.inl (((), (), x.1.2.2.1, x.1.2.2.2.1, x.1.2.2.2.2.1, x.1.2.2.2.2.2.1, x.1.2.2.2.2.2.2.1, x.1.2.2.2.2.2.2.2.1, x.1.2.2.2.2.2.2.2.2.1, x76, ()), (), (x.2.2.1, x.2.2.2.1, ())))))))
 (let x77 : Bool := x.1.2.2.2.2.2.2.2.2.2.1 == x.1.2.2.2.1;
 br x77
 (let x78 : Int := w64 (x.1.2.2.2.2.2.2.2.1 + x.1.2.2.2.2.2.2.2.2.1);
 let x79 : Bool := x78 == (0 : Int);
 br x79
 (let x80 : Int := w64 (x.1.2.2.2.2.1 + x.1.2.2.2.2.2.1);
 let x81 : Bool := decide (x80 > (0 : Int));
 br x81
 (some (.inr (.inl ((false, ()), (), ()))))
 (let x82 : Int := w64 (x.1.2.2.2.2.2.2.2.2.2.1 + (1 : Int));
 some (.inl (((), (), x.1.2.2.1, x.1.2.2.2.1, x.1.2.2.2.2.1, x.1.2.2.2.2.2.1, x.1.2.2.2.2.2.2.1, x.1.2.2.2.2.2.2.2.1, x.1.2.2.2.2.2.2.2.2.1, x82, ()), (), (x.2.2.1, x.2.2.2.1, ())))))
 (let x83 : Int := w64 (x.1.2.2.2.2.2.2.2.2.2.1 + (1 : Int));
 some (.inl (((), (), x.1.2.2.1, x.1.2.2.2.1, x.1.2.2.2.2.1, x.1.2.2.2.2.2.1, x.1.2.2.2.2.2.2.1, x.1.2.2.2.2.2.2.2.1, x.1.2.2.2.2.2.2.2.2.1, x83, ()), (), (x.2.2.1, x.2.2.2.1, ())))))
 (let x84 : Int := w64 (x.1.2.2.2.2.2.2.2.2.2.1 + (1 : Int));
 some (.inl (((), (), x.1.2.2.1, x.1.2.2.2.1, x.1.2.2.2.2.1, x.1.2.2.2.2.2.1, x.1.2.2.2.2.2.2.1, x.1.2.2.2.2.2.2.2.1, x.1.2.2.2.2.2.2.2.2.1, x84, ()), (), (x.2.2.1, x.2.2.2.1, ()))))))))))
 (some (.inr (.inr (((), (), x.1.2.2.1, x.1.2.2.2.2.1, x.1.2.2.2.2.2.1, x.1.2.2.2.2.2.2.1, x.1.2.2.2.2.2.2.2.1, x.1.2.2.2.2.2.2.2.2.1, ()), (), (x.2.2.1, x.2.2.2.1, ())))))
def laws_FnMarks_h0 : Sh := ⟨[(3, .c (.own 0)), (4, .c (.own 1)), (5, .c (.str)), (6, .c (.int .i64)), (7, .c (.int .i64)), (8, .c (.int .i64)), (9, .c (.int .i64)), (10, .c (.int .i64)), (11, .c (.int .i64)), (12, .c (.int .i64))], [], [(0, .str), (1, .str)]⟩
def laws_FnMarks_r0 : List Sh := [⟨[(2, .c (.bool))], [], []⟩, ⟨[(3, .c (.own 0)), (4, .c (.own 1)), (5, .c (.str)), (7, .c (.int .i64)), (8, .c (.int .i64)), (9, .c (.int .i64)), (10, .c (.int .i64)), (11, .c (.int .i64))], [], [(0, .str), (1, .str)]⟩]
noncomputable def laws_FnMarks_L0 : Lp := ⟨0, [], laws_FnMarks_h0, [], [(.ret, []), (.exit 0, [])], laws_FnMarks_r0, loopC laws_FnMarks_s0⟩
noncomputable def laws_FnMarks (a0 : List Int) : Option ((Bool × Unit) × Unit × Unit) :=
 let x1 : Bool := decide ((a0.length : Int) > (1048576 : Int));
 br x1
 (some ((true, ()), (), ()))
 ((spec_DrawMarksOf a0).bind fun r2 =>
 (impl_MarksOf r2.2.2.1 r2.2.2.2.1).bind fun r3 =>
 (impl_ResetOf r2.2.2.1 r2.2.2.2.1).bind fun r4 =>
 (loopC laws_FnMarks_s0 (((), (), r3.1.1, r4.1.1, r4.1.2.1, r4.1.2.2.1, (0 : Int), (0 : Int), (0 : Int), (0 : Int), ()), (), (r2.2.2.1, r2.2.2.2.1, ()))).bind fun r85 =>
 sumK r85 (fun y88 =>
 some ((y88.1.1, ()), (), ())) (fun y89 =>
 let x90 : Int := w64 ((y89.2.2.1.length : Int) - y89.1.2.2.2.1);
 let x91 : Bool := y89.1.2.2.2.2.2.1 == x90;
 br x91
 (let x92 : Bool := y89.1.2.2.2.2.2.2.1 == y89.1.2.2.2.1;
 br x92
 (let x93 : Bool := y89.1.2.2.2.2.2.2.2.1 == y89.1.2.2.2.2.1;
 br x93
 (let x94 : Int := w64 (y89.1.2.2.2.2.2.1 + y89.1.2.2.2.2.2.2.1);
 let x95 : Int := w64 (x94 + y89.1.2.2.2.2.2.2.2.1);
 let x96 : Bool := (y89.1.2.2.1.size : Int) == x95;
 br x96
 (let x97 : Int := w64 (y89.1.2.2.2.2.2.1 + y89.1.2.2.2.2.1);
 let x98 : Bool := x97 == (y89.2.2.2.1.length : Int);
 some ((x98, ()), (), ()))
 (some ((false, ()), (), ())))
 (some ((false, ()), (), ())))
 (some ((false, ()), (), ())))
 (some ((false, ()), (), ()))))
noncomputable def laws_FnMarks_C : Ctr := ⟨7, laws_FnMarks_arg, laws_FnMarks_res, fun x => laws_FnMarks x.1.1, none⟩
def laws_FnMarks_H : Hint := ⟨[], [], [], fun _ => []⟩
noncomputable def laws_FnMarks_T : List Ctr := [spec_DrawMarksOf_C, impl_MarksOf_C, impl_ResetOf_C]
noncomputable def laws_FnMarks_Ls : List Lp := [laws_FnMarks_L0]
theorem laws_FnMarks_l0 : ∀ x, laws_FnMarks_s0 x = stepW E0 laws_FnMarks_T laws_FnMarks_Ls laws_FnMarks_H (loopAt (bodyOf Try.f7) 0) 0 laws_FnMarks_h0 [] [(.ret, []), (.exit 0, [])] laws_FnMarks_r0 x := fun x => by kernel_rfl
theorem laws_FnMarks_e : ∀ x, laws_FnMarks_C.F x = runBodyW E0 laws_FnMarks_T laws_FnMarks_Ls laws_FnMarks_H 7 Try.f7.results.toList (bodyOf Try.f7) [] (laws_FnMarks_arg.mk' x) laws_FnMarks_res := fun x => by kernel_rfl
theorem laws_FnMarks_ok : laws_FnMarks_C.Ok E0 := fn_ok (T := laws_FnMarks_T) (h := laws_FnMarks_H) (Ls := laws_FnMarks_Ls) E0_mixed (T_cons spec_DrawMarksOf_ok (T_cons impl_MarksOf_ok (T_cons impl_ResetOf_ok T_nil))) Try.func7 (bodyOf_some (by kernel_rfl)) (by kernel_rfl) (loops_of (ks := [0]) (by kernel_rfl) ⟨(loop_one (h := laws_FnMarks_H) (own := []) (head := laws_FnMarks_h0) (back := []) (exs := [(.ret, []), (.exit 0, [])]) (res := laws_FnMarks_r0) (step := laws_FnMarks_s0) (by kernel_rfl) laws_FnMarks_l0), trivial⟩) laws_FnMarks_e
end Go.Tree
