/- What each function that the law FnExactFormatNumbers reaches computes, as a plain function, and the proof that the program's code computes it. No condition but the function's own answer. -/
import Derived.Test.YtfgeijlcmepdlaaDoorK8
import Derived.Shelf.Strconv.Itoa3
import Derived.Shelf.Strings.OnBuilder
import Derived.Lib.Join
import Derived.Test.YtfgeijlcmepdlaaDoorProg
import Derived.KernelRfl
namespace Go.Tree
open Go Go.Proofs
set_option linter.unusedVariables false
set_option maxRecDepth 100000
noncomputable def E0 : Env := { P := Tryd.prog, hint := fun _ => ⟨[], [], [], fun _ => []⟩, mode := fun f => ([0, 0, 0, 0, 0, 0, 0, 0, 0, 0, 0, 0, 0, 0, 2, 0, 0, 0, 0, 0, 0, 0, 0, 0, 2, 0, 0, 0, 0, 0, 0, 0, 0, 0, 0, 0, 0, 0, 0, 1, 1, 1, 1, 0, 0, 0, 0, 0, 0, 0, 0, 0, 0, 0, 0, 0, 0, 0, 0, 0, 0, 1, 0, 0, 0, 0, 0, 0, 0, 0, 0, 0, 0, 0, 0, 0, 0, 0, 0, 0, 0, 0, 0, 0, 0, 0, 0, 0, 0, 0, 0, 0, 0, 0, 0, 0, 0, 0, 0, 0, 0, 0, 0, 0, 0, 0, 0, 0, 0, 0, 0, 0, 0, 0, 0, 0, 0, 0, 0, 0, 0, 0, 0, 0, 0, 0, 0, 0, 0, 0, 0, 0, 0, 0, 0, 0, 0, 0, 0, 0, 0, 0, 0, 0, 0, 0, 0, 0, 0, 0, 0, 0, 0, 0, 0, 0, 0, 0, 0, 0, 0, 0, 0, 0] : List Nat).getD f 0, nres := fun f => ([0, 0, 0, 1, 1, 1, 1, 1, 1, 1, 1, 1, 2, 2, 1, 1, 1, 1, 1, 1, 2, 1, 2, 1, 1, 1, 1, 1, 1, 1, 1, 1, 1, 1, 1, 2, 1, 2, 1, 1, 1, 1, 1, 1, 1, 1, 1, 1, 1, 1, 2, 1, 1, 1, 1, 0, 2, 1, 1, 2, 1, 1, 1, 1, 1, 1, 1, 1, 1, 1, 1, 1, 1, 0, 0, 1, 1, 1, 2, 1, 1, 1, 1, 1, 1, 1, 1, 1, 1, 1, 1, 1, 2, 1, 1, 1, 3, 1, 1, 1, 1, 0, 2, 1, 1, 1, 2, 1, 1, 2, 1, 1, 1, 1, 1, 1, 1, 1, 1, 1, 1, 1, 1, 2, 1, 1, 1, 1, 1, 1, 1, 1, 1, 2, 1, 0, 1, 0, 1, 0, 1, 0, 1, 0, 1, 0, 1, 1, 0, 0, 1, 1, 1, 1, 0, 0, 0, 0, 0, 0, 0, 0, 0, 0] : List Nat).getD f 0, pk := fun w => (Lib.TabIs Tryd.prog w "internal/strconv.uint64pow10" .u64 Lib.pow10Tab) ∧ True }
theorem E0_mixed : E0.P.follows .mixedOrders = true := by kernel_rfl
def laws_toIntS_arg : Sh := ⟨[(0, .c (.rd [] .i64))], [], []⟩
def laws_toIntS_res : List Sh := [⟨[(0, .c (.own 0))], [], [(0, .i64)]⟩]
noncomputable def laws_toIntS_s0 (x : (List Int × Unit × Int × Unit) × Unit × (List Int × Unit)) : Option (((List Int × Unit × Int × Unit) × Unit × (List Int × Unit)) ⊕ ((Unit × Unit) × Unit × (List Int × Unit))) :=
 let x2 : Bool := decide (x.1.2.2.1 < (x.1.1.length : Int));
 br x2
 (ck (0 ≤ x.1.2.2.1)
 (ck (x.1.2.2.1.toNat < x.1.1.length)
 (let x3 : Int := x.1.1.getD x.1.2.2.1.toNat 0;
 ck (0 ≤ x.1.2.2.1)
 (ck (x.1.2.2.1.toNat < x.2.2.1.length)
 (ck (x.1.2.2.1.toNat < x.2.2.1.length)
 (let x4 : List Int := x.2.2.1.set x.1.2.2.1.toNat x3;
 let x5 : Int := w64 (x.1.2.2.1 + (1 : Int));
 some (.inl ((x.1.1, (), x5, ()), (), (x4, ())))))))))
 (some (.inr (((), ()), (), (x.2.2.1, ()))))
def laws_toIntS_h0 : Sh := ⟨[(0, .c (.rd [] .i64)), (3, .c (.own 0)), (4, .c (.int .i64))], [], [(0, .i64)]⟩
def laws_toIntS_r0 : List Sh := [⟨[(3, .c (.own 0))], [], [(0, .i64)]⟩]
noncomputable def laws_toIntS_L0 : Lp := ⟨0, [], laws_toIntS_h0, [], [(.exit 0, [])], laws_toIntS_r0, loopC laws_toIntS_s0⟩
noncomputable def laws_toIntS (a0 : List Int) : Option ((Unit × Unit) × Unit × (List Int × Unit)) :=
 ck (0 ≤ (a0.length : Int))
 (ck (0 ≤ (a0.length : Int))
 (ck ((a0.length : Int).toNat = (a0.length : Int).toNat ∧ (a0.length : Int).toNat * 8 ≤ 140737488355328 ∧ (a0.length : Int).toNat ≤ 9223372036854775807)
 (let x1 : List Int := List.replicate ((a0.length : Int).toNat) 0;
 (loopC laws_toIntS_s0 ((a0, (), (0 : Int), ()), (), (x1, ()))).bind fun r6 =>
 some (((), ()), (), (r6.2.2.1, ())))))
noncomputable def laws_toIntS_C : Ctr := ⟨9, laws_toIntS_arg, laws_toIntS_res, fun x => laws_toIntS x.1.1, none⟩
def laws_toIntS_H : Hint := ⟨[], [], [], fun _ => []⟩
noncomputable def laws_toIntS_T : List Ctr := []
noncomputable def laws_toIntS_Ls : List Lp := [laws_toIntS_L0]
theorem laws_toIntS_l0 : ∀ x, laws_toIntS_s0 x = stepW E0 laws_toIntS_T laws_toIntS_Ls laws_toIntS_H (loopAt (bodyOf Tryd.f9) 0) 0 laws_toIntS_h0 [] [(.exit 0, [])] laws_toIntS_r0 x := fun x => by kernel_rfl
theorem laws_toIntS_e : ∀ x, laws_toIntS_C.F x = runBodyW E0 laws_toIntS_T laws_toIntS_Ls laws_toIntS_H 9 Tryd.f9.results.toList (bodyOf Tryd.f9) [] (laws_toIntS_arg.mk' x) laws_toIntS_res := fun x => by kernel_rfl
theorem laws_toIntS_ok : laws_toIntS_C.Ok E0 := fn_ok (T := laws_toIntS_T) (h := laws_toIntS_H) (Ls := laws_toIntS_Ls) E0_mixed T_nil Tryd.func9 (bodyOf_some (by kernel_rfl)) (by kernel_rfl) (loops_of (ks := [0]) (by kernel_rfl) ⟨(loop_one (h := laws_toIntS_H) (own := []) (head := laws_toIntS_h0) (back := []) (exs := [(.exit 0, [])]) (res := laws_toIntS_r0) (step := laws_toIntS_s0) (by kernel_rfl) laws_toIntS_l0), trivial⟩) laws_toIntS_e
def spec_l7Number_r20_arg : Sh := ⟨[(0, .c (.int .i64))], [], []⟩
def spec_l7Number_r20_res : List Sh := [⟨[(0, .c (.str))], [], []⟩]
def spec_l7Number_r20 (a0 : Int) : Option ((ByteArray × Unit) × Unit × Unit) := none
noncomputable def spec_l7Number_r20_C : Ctr := ⟨31, spec_l7Number_r20_arg, spec_l7Number_r20_res, fun x => spec_l7Number_r20 x.1.1, some 1⟩
theorem spec_l7Number_r20_ok : spec_l7Number_r20_C.Ok E0 := fun x y h => by cases h
def spec_l7Number_r19_arg : Sh := ⟨[(0, .c (.int .i64))], [], []⟩
def spec_l7Number_r19_res : List Sh := [⟨[(0, .c (.str))], [], []⟩]
noncomputable def spec_l7Number_r19_s0 (x : (Int × ByteArray × Unit) × Unit × Unit) : Option (((Int × ByteArray × Unit) × Unit × Unit) ⊕ ((Int × ByteArray × Unit) × Unit × Unit)) :=
 let x14 : Bool := decide (x.1.1 > (9 : Int));
 br x14
 (let x15 : Int := x.1.1.tmod (10 : Int);
 let x16 : Int := w64 ((48 : Int) + x15);
 let x17 : Int := IntKind.u8.wrap x16;
 let x18 : ByteArray := ofBytes [x17];
 ck (((x18.size + x.1.2.1.size : Nat) : Int) ≤ IntKind.i64.max)
 (let x19 : ByteArray := x18 ++ x.1.2.1;
 let x20 : Int := w64 (x.1.1.tdiv (10 : Int));
 some (.inl ((x20, x19, ()), (), ()))))
 (some (.inr ((x.1.1, x.1.2.1, ()), (), ())))
def spec_l7Number_r19_h0 : Sh := ⟨[(0, .c (.int .i64)), (3, .c (.str))], [], []⟩
def spec_l7Number_r19_r0 : List Sh := [⟨[(0, .c (.int .i64)), (3, .c (.str))], [], []⟩]
noncomputable def spec_l7Number_r19_L0 : Lp := ⟨0, [], spec_l7Number_r19_h0, [], [(.exit 0, [])], spec_l7Number_r19_r0, loopC spec_l7Number_r19_s0⟩
noncomputable def spec_l7Number_r19 (a0 : Int) : Option ((ByteArray × Unit) × Unit × Unit) :=
 let x1 : Bool := decide (a0 < (0 : Int));
 br x1
 (let x2 : Bool := decide (a0 > (-10 : Int));
 br x2
 (let x3 : Int := w64 ((48 : Int) - a0);
 let x4 : Int := IntKind.u8.wrap x3;
 let x5 : ByteArray := ofBytes [x4];
 ck ((((ByteArray.mk #[45]).size + x5.size : Nat) : Int) ≤ IntKind.i64.max)
 (let x6 : ByteArray := (ByteArray.mk #[45]) ++ x5;
 some ((x6, ()), (), ())))
 (let x7 : Int := w64 (a0.tdiv (10 : Int));
 let x8 : Int := a0.tmod (10 : Int);
 let x9 : Int := w64 ((48 : Int) - x8);
 let x10 : Int := IntKind.u8.wrap x9;
 both ((spec_l7Number_r20 x7).bind fun r11 =>
 let x12 : ByteArray := ofBytes [x10];
 ck (((r11.1.1.size + x12.size : Nat) : Int) ≤ IntKind.i64.max)
 (let x13 : ByteArray := r11.1.1 ++ x12;
 some ((x13, ()), (), ())))
 ((both ((spec_l7Number_r20 x7).bind fun r11 =>
 let x12 : ByteArray := ofBytes [x10];
 ck (((r11.1.1.size + x12.size : Nat) : Int) ≤ IntKind.i64.max)
 (let x13 : ByteArray := r11.1.1 ++ x12;
 some ((x13, ()), (), ())))
 ((let x11 : ByteArray := ofBytes [x10];
 (spec_l7Number_r20 x7).bind fun r12 =>
 ck (((r12.1.1.size + x11.size : Nat) : Int) ≤ IntKind.i64.max)
 (let x13 : ByteArray := r12.1.1 ++ x11;
 some ((x13, ()), (), ()))))))))
 ((loopC spec_l7Number_r19_s0 ((a0, ByteArray.empty, ()), (), ())).bind fun r21 =>
 let x22 : Int := w64 ((48 : Int) + r21.1.1);
 let x23 : Int := IntKind.u8.wrap x22;
 let x24 : ByteArray := ofBytes [x23];
 ck (((x24.size + r21.1.2.1.size : Nat) : Int) ≤ IntKind.i64.max)
 (let x25 : ByteArray := x24 ++ r21.1.2.1;
 some ((x25, ()), (), ())))
noncomputable def spec_l7Number_r19_C : Ctr := ⟨31, spec_l7Number_r19_arg, spec_l7Number_r19_res, fun x => spec_l7Number_r19 x.1.1, none⟩
def spec_l7Number_r19_H : Hint := ⟨[], [], [], fun _ => []⟩
noncomputable def spec_l7Number_r19_T : List Ctr := [spec_l7Number_r20_C]
noncomputable def spec_l7Number_r19_Ls : List Lp := [spec_l7Number_r19_L0]
theorem spec_l7Number_r19_l0 : ∀ x, spec_l7Number_r19_s0 x = stepW E0 spec_l7Number_r19_T spec_l7Number_r19_Ls spec_l7Number_r19_H (loopAt (bodyOf Tryd.f31) 0) 0 spec_l7Number_r19_h0 [] [(.exit 0, [])] spec_l7Number_r19_r0 x := fun x => by kernel_rfl
theorem spec_l7Number_r19_e : ∀ x, spec_l7Number_r19_C.F x = runBodyW E0 spec_l7Number_r19_T spec_l7Number_r19_Ls spec_l7Number_r19_H 31 Tryd.f31.results.toList (bodyOf Tryd.f31) [] (spec_l7Number_r19_arg.mk' x) spec_l7Number_r19_res := fun x => by kernel_rfl
theorem spec_l7Number_r19_ok : spec_l7Number_r19_C.Ok E0 := fn_ok (T := spec_l7Number_r19_T) (h := spec_l7Number_r19_H) (Ls := spec_l7Number_r19_Ls) E0_mixed (T_cons spec_l7Number_r20_ok T_nil) Tryd.func31 (bodyOf_some (by kernel_rfl)) (by kernel_rfl) (loops_of (ks := [0]) (by kernel_rfl) ⟨(loop_one (h := spec_l7Number_r19_H) (own := []) (head := spec_l7Number_r19_h0) (back := []) (exs := [(.exit 0, [])]) (res := spec_l7Number_r19_r0) (step := spec_l7Number_r19_s0) (by kernel_rfl) spec_l7Number_r19_l0), trivial⟩) spec_l7Number_r19_e
def spec_l7Number_r18_arg : Sh := ⟨[(0, .c (.int .i64))], [], []⟩
def spec_l7Number_r18_res : List Sh := [⟨[(0, .c (.str))], [], []⟩]
noncomputable def spec_l7Number_r18_s0 (x : (Int × ByteArray × Unit) × Unit × Unit) : Option (((Int × ByteArray × Unit) × Unit × Unit) ⊕ ((Int × ByteArray × Unit) × Unit × Unit)) :=
 let x14 : Bool := decide (x.1.1 > (9 : Int));
 br x14
 (let x15 : Int := x.1.1.tmod (10 : Int);
 let x16 : Int := w64 ((48 : Int) + x15);
 let x17 : Int := IntKind.u8.wrap x16;
 let x18 : ByteArray := ofBytes [x17];
 ck (((x18.size + x.1.2.1.size : Nat) : Int) ≤ IntKind.i64.max)
 (let x19 : ByteArray := x18 ++ x.1.2.1;
 let x20 : Int := w64 (x.1.1.tdiv (10 : Int));
 some (.inl ((x20, x19, ()), (), ()))))
 (some (.inr ((x.1.1, x.1.2.1, ()), (), ())))
def spec_l7Number_r18_h0 : Sh := ⟨[(0, .c (.int .i64)), (3, .c (.str))], [], []⟩
def spec_l7Number_r18_r0 : List Sh := [⟨[(0, .c (.int .i64)), (3, .c (.str))], [], []⟩]
noncomputable def spec_l7Number_r18_L0 : Lp := ⟨0, [], spec_l7Number_r18_h0, [], [(.exit 0, [])], spec_l7Number_r18_r0, loopC spec_l7Number_r18_s0⟩
noncomputable def spec_l7Number_r18 (a0 : Int) : Option ((ByteArray × Unit) × Unit × Unit) :=
 let x1 : Bool := decide (a0 < (0 : Int));
 br x1
 (let x2 : Bool := decide (a0 > (-10 : Int));
 br x2
 (let x3 : Int := w64 ((48 : Int) - a0);
 let x4 : Int := IntKind.u8.wrap x3;
 let x5 : ByteArray := ofBytes [x4];
 ck ((((ByteArray.mk #[45]).size + x5.size : Nat) : Int) ≤ IntKind.i64.max)
 (let x6 : ByteArray := (ByteArray.mk #[45]) ++ x5;
 some ((x6, ()), (), ())))
 (let x7 : Int := w64 (a0.tdiv (10 : Int));
 let x8 : Int := a0.tmod (10 : Int);
 let x9 : Int := w64 ((48 : Int) - x8);
 let x10 : Int := IntKind.u8.wrap x9;
 both ((spec_l7Number_r19 x7).bind fun r11 =>
 let x12 : ByteArray := ofBytes [x10];
 ck (((r11.1.1.size + x12.size : Nat) : Int) ≤ IntKind.i64.max)
 (let x13 : ByteArray := r11.1.1 ++ x12;
 some ((x13, ()), (), ())))
 ((both ((spec_l7Number_r19 x7).bind fun r11 =>
 let x12 : ByteArray := ofBytes [x10];
 ck (((r11.1.1.size + x12.size : Nat) : Int) ≤ IntKind.i64.max)
 (let x13 : ByteArray := r11.1.1 ++ x12;
 some ((x13, ()), (), ())))
 ((let x11 : ByteArray := ofBytes [x10];
 (spec_l7Number_r19 x7).bind fun r12 =>
 ck (((r12.1.1.size + x11.size : Nat) : Int) ≤ IntKind.i64.max)
 (let x13 : ByteArray := r12.1.1 ++ x11;
 some ((x13, ()), (), ()))))))))
 ((loopC spec_l7Number_r18_s0 ((a0, ByteArray.empty, ()), (), ())).bind fun r21 =>
 let x22 : Int := w64 ((48 : Int) + r21.1.1);
 let x23 : Int := IntKind.u8.wrap x22;
 let x24 : ByteArray := ofBytes [x23];
 ck (((x24.size + r21.1.2.1.size : Nat) : Int) ≤ IntKind.i64.max)
 (let x25 : ByteArray := x24 ++ r21.1.2.1;
 some ((x25, ()), (), ())))
noncomputable def spec_l7Number_r18_C : Ctr := ⟨31, spec_l7Number_r18_arg, spec_l7Number_r18_res, fun x => spec_l7Number_r18 x.1.1, none⟩
def spec_l7Number_r18_H : Hint := ⟨[], [], [], fun _ => []⟩
noncomputable def spec_l7Number_r18_T : List Ctr := [spec_l7Number_r19_C]
noncomputable def spec_l7Number_r18_Ls : List Lp := [spec_l7Number_r18_L0]
theorem spec_l7Number_r18_l0 : ∀ x, spec_l7Number_r18_s0 x = stepW E0 spec_l7Number_r18_T spec_l7Number_r18_Ls spec_l7Number_r18_H (loopAt (bodyOf Tryd.f31) 0) 0 spec_l7Number_r18_h0 [] [(.exit 0, [])] spec_l7Number_r18_r0 x := fun x => by kernel_rfl
theorem spec_l7Number_r18_e : ∀ x, spec_l7Number_r18_C.F x = runBodyW E0 spec_l7Number_r18_T spec_l7Number_r18_Ls spec_l7Number_r18_H 31 Tryd.f31.results.toList (bodyOf Tryd.f31) [] (spec_l7Number_r18_arg.mk' x) spec_l7Number_r18_res := fun x => by kernel_rfl
theorem spec_l7Number_r18_ok : spec_l7Number_r18_C.Ok E0 := fn_ok (T := spec_l7Number_r18_T) (h := spec_l7Number_r18_H) (Ls := spec_l7Number_r18_Ls) E0_mixed (T_cons spec_l7Number_r19_ok T_nil) Tryd.func31 (bodyOf_some (by kernel_rfl)) (by kernel_rfl) (loops_of (ks := [0]) (by kernel_rfl) ⟨(loop_one (h := spec_l7Number_r18_H) (own := []) (head := spec_l7Number_r18_h0) (back := []) (exs := [(.exit 0, [])]) (res := spec_l7Number_r18_r0) (step := spec_l7Number_r18_s0) (by kernel_rfl) spec_l7Number_r18_l0), trivial⟩) spec_l7Number_r18_e
def spec_l7Number_r17_arg : Sh := ⟨[(0, .c (.int .i64))], [], []⟩
def spec_l7Number_r17_res : List Sh := [⟨[(0, .c (.str))], [], []⟩]
noncomputable def spec_l7Number_r17_s0 (x : (Int × ByteArray × Unit) × Unit × Unit) : Option (((Int × ByteArray × Unit) × Unit × Unit) ⊕ ((Int × ByteArray × Unit) × Unit × Unit)) :=
 let x14 : Bool := decide (x.1.1 > (9 : Int));
 br x14
 (let x15 : Int := x.1.1.tmod (10 : Int);
 let x16 : Int := w64 ((48 : Int) + x15);
 let x17 : Int := IntKind.u8.wrap x16;
 let x18 : ByteArray := ofBytes [x17];
 ck (((x18.size + x.1.2.1.size : Nat) : Int) ≤ IntKind.i64.max)
 (let x19 : ByteArray := x18 ++ x.1.2.1;
 let x20 : Int := w64 (x.1.1.tdiv (10 : Int));
 some (.inl ((x20, x19, ()), (), ()))))
 (some (.inr ((x.1.1, x.1.2.1, ()), (), ())))
def spec_l7Number_r17_h0 : Sh := ⟨[(0, .c (.int .i64)), (3, .c (.str))], [], []⟩
def spec_l7Number_r17_r0 : List Sh := [⟨[(0, .c (.int .i64)), (3, .c (.str))], [], []⟩]
noncomputable def spec_l7Number_r17_L0 : Lp := ⟨0, [], spec_l7Number_r17_h0, [], [(.exit 0, [])], spec_l7Number_r17_r0, loopC spec_l7Number_r17_s0⟩
noncomputable def spec_l7Number_r17 (a0 : Int) : Option ((ByteArray × Unit) × Unit × Unit) :=
 let x1 : Bool := decide (a0 < (0 : Int));
 br x1
 (let x2 : Bool := decide (a0 > (-10 : Int));
 br x2
 (let x3 : Int := w64 ((48 : Int) - a0);
 let x4 : Int := IntKind.u8.wrap x3;
 let x5 : ByteArray := ofBytes [x4];
 ck ((((ByteArray.mk #[45]).size + x5.size : Nat) : Int) ≤ IntKind.i64.max)
 (let x6 : ByteArray := (ByteArray.mk #[45]) ++ x5;
 some ((x6, ()), (), ())))
 (let x7 : Int := w64 (a0.tdiv (10 : Int));
 let x8 : Int := a0.tmod (10 : Int);
 let x9 : Int := w64 ((48 : Int) - x8);
 let x10 : Int := IntKind.u8.wrap x9;
 both ((spec_l7Number_r18 x7).bind fun r11 =>
 let x12 : ByteArray := ofBytes [x10];
 ck (((r11.1.1.size + x12.size : Nat) : Int) ≤ IntKind.i64.max)
 (let x13 : ByteArray := r11.1.1 ++ x12;
 some ((x13, ()), (), ())))
 ((both ((spec_l7Number_r18 x7).bind fun r11 =>
 let x12 : ByteArray := ofBytes [x10];
 ck (((r11.1.1.size + x12.size : Nat) : Int) ≤ IntKind.i64.max)
 (let x13 : ByteArray := r11.1.1 ++ x12;
 some ((x13, ()), (), ())))
 ((let x11 : ByteArray := ofBytes [x10];
 (spec_l7Number_r18 x7).bind fun r12 =>
 ck (((r12.1.1.size + x11.size : Nat) : Int) ≤ IntKind.i64.max)
 (let x13 : ByteArray := r12.1.1 ++ x11;
 some ((x13, ()), (), ()))))))))
 ((loopC spec_l7Number_r17_s0 ((a0, ByteArray.empty, ()), (), ())).bind fun r21 =>
 let x22 : Int := w64 ((48 : Int) + r21.1.1);
 let x23 : Int := IntKind.u8.wrap x22;
 let x24 : ByteArray := ofBytes [x23];
 ck (((x24.size + r21.1.2.1.size : Nat) : Int) ≤ IntKind.i64.max)
 (let x25 : ByteArray := x24 ++ r21.1.2.1;
 some ((x25, ()), (), ())))
noncomputable def spec_l7Number_r17_C : Ctr := ⟨31, spec_l7Number_r17_arg, spec_l7Number_r17_res, fun x => spec_l7Number_r17 x.1.1, none⟩
def spec_l7Number_r17_H : Hint := ⟨[], [], [], fun _ => []⟩
noncomputable def spec_l7Number_r17_T : List Ctr := [spec_l7Number_r18_C]
noncomputable def spec_l7Number_r17_Ls : List Lp := [spec_l7Number_r17_L0]
theorem spec_l7Number_r17_l0 : ∀ x, spec_l7Number_r17_s0 x = stepW E0 spec_l7Number_r17_T spec_l7Number_r17_Ls spec_l7Number_r17_H (loopAt (bodyOf Tryd.f31) 0) 0 spec_l7Number_r17_h0 [] [(.exit 0, [])] spec_l7Number_r17_r0 x := fun x => by kernel_rfl
theorem spec_l7Number_r17_e : ∀ x, spec_l7Number_r17_C.F x = runBodyW E0 spec_l7Number_r17_T spec_l7Number_r17_Ls spec_l7Number_r17_H 31 Tryd.f31.results.toList (bodyOf Tryd.f31) [] (spec_l7Number_r17_arg.mk' x) spec_l7Number_r17_res := fun x => by kernel_rfl
theorem spec_l7Number_r17_ok : spec_l7Number_r17_C.Ok E0 := fn_ok (T := spec_l7Number_r17_T) (h := spec_l7Number_r17_H) (Ls := spec_l7Number_r17_Ls) E0_mixed (T_cons spec_l7Number_r18_ok T_nil) Tryd.func31 (bodyOf_some (by kernel_rfl)) (by kernel_rfl) (loops_of (ks := [0]) (by kernel_rfl) ⟨(loop_one (h := spec_l7Number_r17_H) (own := []) (head := spec_l7Number_r17_h0) (back := []) (exs := [(.exit 0, [])]) (res := spec_l7Number_r17_r0) (step := spec_l7Number_r17_s0) (by kernel_rfl) spec_l7Number_r17_l0), trivial⟩) spec_l7Number_r17_e
def spec_l7Number_r16_arg : Sh := ⟨[(0, .c (.int .i64))], [], []⟩
def spec_l7Number_r16_res : List Sh := [⟨[(0, .c (.str))], [], []⟩]
noncomputable def spec_l7Number_r16_s0 (x : (Int × ByteArray × Unit) × Unit × Unit) : Option (((Int × ByteArray × Unit) × Unit × Unit) ⊕ ((Int × ByteArray × Unit) × Unit × Unit)) :=
 let x14 : Bool := decide (x.1.1 > (9 : Int));
 br x14
 (let x15 : Int := x.1.1.tmod (10 : Int);
 let x16 : Int := w64 ((48 : Int) + x15);
 let x17 : Int := IntKind.u8.wrap x16;
 let x18 : ByteArray := ofBytes [x17];
 ck (((x18.size + x.1.2.1.size : Nat) : Int) ≤ IntKind.i64.max)
 (let x19 : ByteArray := x18 ++ x.1.2.1;
 let x20 : Int := w64 (x.1.1.tdiv (10 : Int));
 some (.inl ((x20, x19, ()), (), ()))))
 (some (.inr ((x.1.1, x.1.2.1, ()), (), ())))
def spec_l7Number_r16_h0 : Sh := ⟨[(0, .c (.int .i64)), (3, .c (.str))], [], []⟩
def spec_l7Number_r16_r0 : List Sh := [⟨[(0, .c (.int .i64)), (3, .c (.str))], [], []⟩]
noncomputable def spec_l7Number_r16_L0 : Lp := ⟨0, [], spec_l7Number_r16_h0, [], [(.exit 0, [])], spec_l7Number_r16_r0, loopC spec_l7Number_r16_s0⟩
noncomputable def spec_l7Number_r16 (a0 : Int) : Option ((ByteArray × Unit) × Unit × Unit) :=
 let x1 : Bool := decide (a0 < (0 : Int));
 br x1
 (let x2 : Bool := decide (a0 > (-10 : Int));
 br x2
 (let x3 : Int := w64 ((48 : Int) - a0);
 let x4 : Int := IntKind.u8.wrap x3;
 let x5 : ByteArray := ofBytes [x4];
 ck ((((ByteArray.mk #[45]).size + x5.size : Nat) : Int) ≤ IntKind.i64.max)
 (let x6 : ByteArray := (ByteArray.mk #[45]) ++ x5;
 some ((x6, ()), (), ())))
 (let x7 : Int := w64 (a0.tdiv (10 : Int));
 let x8 : Int := a0.tmod (10 : Int);
 let x9 : Int := w64 ((48 : Int) - x8);
 let x10 : Int := IntKind.u8.wrap x9;
 both ((spec_l7Number_r17 x7).bind fun r11 =>
 let x12 : ByteArray := ofBytes [x10];
 ck (((r11.1.1.size + x12.size : Nat) : Int) ≤ IntKind.i64.max)
 (let x13 : ByteArray := r11.1.1 ++ x12;
 some ((x13, ()), (), ())))
 ((both ((spec_l7Number_r17 x7).bind fun r11 =>
 let x12 : ByteArray := ofBytes [x10];
 ck (((r11.1.1.size + x12.size : Nat) : Int) ≤ IntKind.i64.max)
 (let x13 : ByteArray := r11.1.1 ++ x12;
 some ((x13, ()), (), ())))
 ((let x11 : ByteArray := ofBytes [x10];
 (spec_l7Number_r17 x7).bind fun r12 =>
 ck (((r12.1.1.size + x11.size : Nat) : Int) ≤ IntKind.i64.max)
 (let x13 : ByteArray := r12.1.1 ++ x11;
 some ((x13, ()), (), ()))))))))
 ((loopC spec_l7Number_r16_s0 ((a0, ByteArray.empty, ()), (), ())).bind fun r21 =>
 let x22 : Int := w64 ((48 : Int) + r21.1.1);
 let x23 : Int := IntKind.u8.wrap x22;
 let x24 : ByteArray := ofBytes [x23];
 ck (((x24.size + r21.1.2.1.size : Nat) : Int) ≤ IntKind.i64.max)
 (let x25 : ByteArray := x24 ++ r21.1.2.1;
 some ((x25, ()), (), ())))
noncomputable def spec_l7Number_r16_C : Ctr := ⟨31, spec_l7Number_r16_arg, spec_l7Number_r16_res, fun x => spec_l7Number_r16 x.1.1, none⟩
def spec_l7Number_r16_H : Hint := ⟨[], [], [], fun _ => []⟩
noncomputable def spec_l7Number_r16_T : List Ctr := [spec_l7Number_r17_C]
noncomputable def spec_l7Number_r16_Ls : List Lp := [spec_l7Number_r16_L0]
theorem spec_l7Number_r16_l0 : ∀ x, spec_l7Number_r16_s0 x = stepW E0 spec_l7Number_r16_T spec_l7Number_r16_Ls spec_l7Number_r16_H (loopAt (bodyOf Tryd.f31) 0) 0 spec_l7Number_r16_h0 [] [(.exit 0, [])] spec_l7Number_r16_r0 x := fun x => by kernel_rfl
theorem spec_l7Number_r16_e : ∀ x, spec_l7Number_r16_C.F x = runBodyW E0 spec_l7Number_r16_T spec_l7Number_r16_Ls spec_l7Number_r16_H 31 Tryd.f31.results.toList (bodyOf Tryd.f31) [] (spec_l7Number_r16_arg.mk' x) spec_l7Number_r16_res := fun x => by kernel_rfl
theorem spec_l7Number_r16_ok : spec_l7Number_r16_C.Ok E0 := fn_ok (T := spec_l7Number_r16_T) (h := spec_l7Number_r16_H) (Ls := spec_l7Number_r16_Ls) E0_mixed (T_cons spec_l7Number_r17_ok T_nil) Tryd.func31 (bodyOf_some (by kernel_rfl)) (by kernel_rfl) (loops_of (ks := [0]) (by kernel_rfl) ⟨(loop_one (h := spec_l7Number_r16_H) (own := []) (head := spec_l7Number_r16_h0) (back := []) (exs := [(.exit 0, [])]) (res := spec_l7Number_r16_r0) (step := spec_l7Number_r16_s0) (by kernel_rfl) spec_l7Number_r16_l0), trivial⟩) spec_l7Number_r16_e
def spec_l7Number_r15_arg : Sh := ⟨[(0, .c (.int .i64))], [], []⟩
def spec_l7Number_r15_res : List Sh := [⟨[(0, .c (.str))], [], []⟩]
noncomputable def spec_l7Number_r15_s0 (x : (Int × ByteArray × Unit) × Unit × Unit) : Option (((Int × ByteArray × Unit) × Unit × Unit) ⊕ ((Int × ByteArray × Unit) × Unit × Unit)) :=
 let x14 : Bool := decide (x.1.1 > (9 : Int));
 br x14
 (let x15 : Int := x.1.1.tmod (10 : Int);
 let x16 : Int := w64 ((48 : Int) + x15);
 let x17 : Int := IntKind.u8.wrap x16;
 let x18 : ByteArray := ofBytes [x17];
 ck (((x18.size + x.1.2.1.size : Nat) : Int) ≤ IntKind.i64.max)
 (let x19 : ByteArray := x18 ++ x.1.2.1;
 let x20 : Int := w64 (x.1.1.tdiv (10 : Int));
 some (.inl ((x20, x19, ()), (), ()))))
 (some (.inr ((x.1.1, x.1.2.1, ()), (), ())))
def spec_l7Number_r15_h0 : Sh := ⟨[(0, .c (.int .i64)), (3, .c (.str))], [], []⟩
def spec_l7Number_r15_r0 : List Sh := [⟨[(0, .c (.int .i64)), (3, .c (.str))], [], []⟩]
noncomputable def spec_l7Number_r15_L0 : Lp := ⟨0, [], spec_l7Number_r15_h0, [], [(.exit 0, [])], spec_l7Number_r15_r0, loopC spec_l7Number_r15_s0⟩
noncomputable def spec_l7Number_r15 (a0 : Int) : Option ((ByteArray × Unit) × Unit × Unit) :=
 let x1 : Bool := decide (a0 < (0 : Int));
 br x1
 (let x2 : Bool := decide (a0 > (-10 : Int));
 br x2
 (let x3 : Int := w64 ((48 : Int) - a0);
 let x4 : Int := IntKind.u8.wrap x3;
 let x5 : ByteArray := ofBytes [x4];
 ck ((((ByteArray.mk #[45]).size + x5.size : Nat) : Int) ≤ IntKind.i64.max)
 (let x6 : ByteArray := (ByteArray.mk #[45]) ++ x5;
 some ((x6, ()), (), ())))
 (let x7 : Int := w64 (a0.tdiv (10 : Int));
 let x8 : Int := a0.tmod (10 : Int);
 let x9 : Int := w64 ((48 : Int) - x8);
 let x10 : Int := IntKind.u8.wrap x9;
 both ((spec_l7Number_r16 x7).bind fun r11 =>
 let x12 : ByteArray := ofBytes [x10];
 ck (((r11.1.1.size + x12.size : Nat) : Int) ≤ IntKind.i64.max)
 (let x13 : ByteArray := r11.1.1 ++ x12;
 some ((x13, ()), (), ())))
 ((both ((spec_l7Number_r16 x7).bind fun r11 =>
 let x12 : ByteArray := ofBytes [x10];
 ck (((r11.1.1.size + x12.size : Nat) : Int) ≤ IntKind.i64.max)
 (let x13 : ByteArray := r11.1.1 ++ x12;
 some ((x13, ()), (), ())))
 ((let x11 : ByteArray := ofBytes [x10];
 (spec_l7Number_r16 x7).bind fun r12 =>
 ck (((r12.1.1.size + x11.size : Nat) : Int) ≤ IntKind.i64.max)
 (let x13 : ByteArray := r12.1.1 ++ x11;
 some ((x13, ()), (), ()))))))))
 ((loopC spec_l7Number_r15_s0 ((a0, ByteArray.empty, ()), (), ())).bind fun r21 =>
 let x22 : Int := w64 ((48 : Int) + r21.1.1);
 let x23 : Int := IntKind.u8.wrap x22;
 let x24 : ByteArray := ofBytes [x23];
 ck (((x24.size + r21.1.2.1.size : Nat) : Int) ≤ IntKind.i64.max)
 (let x25 : ByteArray := x24 ++ r21.1.2.1;
 some ((x25, ()), (), ())))
noncomputable def spec_l7Number_r15_C : Ctr := ⟨31, spec_l7Number_r15_arg, spec_l7Number_r15_res, fun x => spec_l7Number_r15 x.1.1, none⟩
def spec_l7Number_r15_H : Hint := ⟨[], [], [], fun _ => []⟩
noncomputable def spec_l7Number_r15_T : List Ctr := [spec_l7Number_r16_C]
noncomputable def spec_l7Number_r15_Ls : List Lp := [spec_l7Number_r15_L0]
theorem spec_l7Number_r15_l0 : ∀ x, spec_l7Number_r15_s0 x = stepW E0 spec_l7Number_r15_T spec_l7Number_r15_Ls spec_l7Number_r15_H (loopAt (bodyOf Tryd.f31) 0) 0 spec_l7Number_r15_h0 [] [(.exit 0, [])] spec_l7Number_r15_r0 x := fun x => by kernel_rfl
theorem spec_l7Number_r15_e : ∀ x, spec_l7Number_r15_C.F x = runBodyW E0 spec_l7Number_r15_T spec_l7Number_r15_Ls spec_l7Number_r15_H 31 Tryd.f31.results.toList (bodyOf Tryd.f31) [] (spec_l7Number_r15_arg.mk' x) spec_l7Number_r15_res := fun x => by kernel_rfl
theorem spec_l7Number_r15_ok : spec_l7Number_r15_C.Ok E0 := fn_ok (T := spec_l7Number_r15_T) (h := spec_l7Number_r15_H) (Ls := spec_l7Number_r15_Ls) E0_mixed (T_cons spec_l7Number_r16_ok T_nil) Tryd.func31 (bodyOf_some (by kernel_rfl)) (by kernel_rfl) (loops_of (ks := [0]) (by kernel_rfl) ⟨(loop_one (h := spec_l7Number_r15_H) (own := []) (head := spec_l7Number_r15_h0) (back := []) (exs := [(.exit 0, [])]) (res := spec_l7Number_r15_r0) (step := spec_l7Number_r15_s0) (by kernel_rfl) spec_l7Number_r15_l0), trivial⟩) spec_l7Number_r15_e
def spec_l7Number_r14_arg : Sh := ⟨[(0, .c (.int .i64))], [], []⟩
def spec_l7Number_r14_res : List Sh := [⟨[(0, .c (.str))], [], []⟩]
noncomputable def spec_l7Number_r14_s0 (x : (Int × ByteArray × Unit) × Unit × Unit) : Option (((Int × ByteArray × Unit) × Unit × Unit) ⊕ ((Int × ByteArray × Unit) × Unit × Unit)) :=
 let x14 : Bool := decide (x.1.1 > (9 : Int));
 br x14
 (let x15 : Int := x.1.1.tmod (10 : Int);
 let x16 : Int := w64 ((48 : Int) + x15);
 let x17 : Int := IntKind.u8.wrap x16;
 let x18 : ByteArray := ofBytes [x17];
 ck (((x18.size + x.1.2.1.size : Nat) : Int) ≤ IntKind.i64.max)
 (let x19 : ByteArray := x18 ++ x.1.2.1;
 let x20 : Int := w64 (x.1.1.tdiv (10 : Int));
 some (.inl ((x20, x19, ()), (), ()))))
 (some (.inr ((x.1.1, x.1.2.1, ()), (), ())))
def spec_l7Number_r14_h0 : Sh := ⟨[(0, .c (.int .i64)), (3, .c (.str))], [], []⟩
def spec_l7Number_r14_r0 : List Sh := [⟨[(0, .c (.int .i64)), (3, .c (.str))], [], []⟩]
noncomputable def spec_l7Number_r14_L0 : Lp := ⟨0, [], spec_l7Number_r14_h0, [], [(.exit 0, [])], spec_l7Number_r14_r0, loopC spec_l7Number_r14_s0⟩
noncomputable def spec_l7Number_r14 (a0 : Int) : Option ((ByteArray × Unit) × Unit × Unit) :=
 let x1 : Bool := decide (a0 < (0 : Int));
 br x1
 (let x2 : Bool := decide (a0 > (-10 : Int));
 br x2
 (let x3 : Int := w64 ((48 : Int) - a0);
 let x4 : Int := IntKind.u8.wrap x3;
 let x5 : ByteArray := ofBytes [x4];
 ck ((((ByteArray.mk #[45]).size + x5.size : Nat) : Int) ≤ IntKind.i64.max)
 (let x6 : ByteArray := (ByteArray.mk #[45]) ++ x5;
 some ((x6, ()), (), ())))
 (let x7 : Int := w64 (a0.tdiv (10 : Int));
 let x8 : Int := a0.tmod (10 : Int);
 let x9 : Int := w64 ((48 : Int) - x8);
 let x10 : Int := IntKind.u8.wrap x9;
 both ((spec_l7Number_r15 x7).bind fun r11 =>
 let x12 : ByteArray := ofBytes [x10];
 ck (((r11.1.1.size + x12.size : Nat) : Int) ≤ IntKind.i64.max)
 (let x13 : ByteArray := r11.1.1 ++ x12;
 some ((x13, ()), (), ())))
 ((both ((spec_l7Number_r15 x7).bind fun r11 =>
 let x12 : ByteArray := ofBytes [x10];
 ck (((r11.1.1.size + x12.size : Nat) : Int) ≤ IntKind.i64.max)
 (let x13 : ByteArray := r11.1.1 ++ x12;
 some ((x13, ()), (), ())))
 ((let x11 : ByteArray := ofBytes [x10];
 (spec_l7Number_r15 x7).bind fun r12 =>
 ck (((r12.1.1.size + x11.size : Nat) : Int) ≤ IntKind.i64.max)
 (let x13 : ByteArray := r12.1.1 ++ x11;
 some ((x13, ()), (), ()))))))))
 ((loopC spec_l7Number_r14_s0 ((a0, ByteArray.empty, ()), (), ())).bind fun r21 =>
 let x22 : Int := w64 ((48 : Int) + r21.1.1);
 let x23 : Int := IntKind.u8.wrap x22;
 let x24 : ByteArray := ofBytes [x23];
 ck (((x24.size + r21.1.2.1.size : Nat) : Int) ≤ IntKind.i64.max)
 (let x25 : ByteArray := x24 ++ r21.1.2.1;
 some ((x25, ()), (), ())))
noncomputable def spec_l7Number_r14_C : Ctr := ⟨31, spec_l7Number_r14_arg, spec_l7Number_r14_res, fun x => spec_l7Number_r14 x.1.1, none⟩
def spec_l7Number_r14_H : Hint := ⟨[], [], [], fun _ => []⟩
noncomputable def spec_l7Number_r14_T : List Ctr := [spec_l7Number_r15_C]
noncomputable def spec_l7Number_r14_Ls : List Lp := [spec_l7Number_r14_L0]
theorem spec_l7Number_r14_l0 : ∀ x, spec_l7Number_r14_s0 x = stepW E0 spec_l7Number_r14_T spec_l7Number_r14_Ls spec_l7Number_r14_H (loopAt (bodyOf Tryd.f31) 0) 0 spec_l7Number_r14_h0 [] [(.exit 0, [])] spec_l7Number_r14_r0 x := fun x => by kernel_rfl
theorem spec_l7Number_r14_e : ∀ x, spec_l7Number_r14_C.F x = runBodyW E0 spec_l7Number_r14_T spec_l7Number_r14_Ls spec_l7Number_r14_H 31 Tryd.f31.results.toList (bodyOf Tryd.f31) [] (spec_l7Number_r14_arg.mk' x) spec_l7Number_r14_res := fun x => by kernel_rfl
theorem spec_l7Number_r14_ok : spec_l7Number_r14_C.Ok E0 := fn_ok (T := spec_l7Number_r14_T) (h := spec_l7Number_r14_H) (Ls := spec_l7Number_r14_Ls) E0_mixed (T_cons spec_l7Number_r15_ok T_nil) Tryd.func31 (bodyOf_some (by kernel_rfl)) (by kernel_rfl) (loops_of (ks := [0]) (by kernel_rfl) ⟨(loop_one (h := spec_l7Number_r14_H) (own := []) (head := spec_l7Number_r14_h0) (back := []) (exs := [(.exit 0, [])]) (res := spec_l7Number_r14_r0) (step := spec_l7Number_r14_s0) (by kernel_rfl) spec_l7Number_r14_l0), trivial⟩) spec_l7Number_r14_e
def spec_l7Number_r13_arg : Sh := ⟨[(0, .c (.int .i64))], [], []⟩
def spec_l7Number_r13_res : List Sh := [⟨[(0, .c (.str))], [], []⟩]
noncomputable def spec_l7Number_r13_s0 (x : (Int × ByteArray × Unit) × Unit × Unit) : Option (((Int × ByteArray × Unit) × Unit × Unit) ⊕ ((Int × ByteArray × Unit) × Unit × Unit)) :=
 let x14 : Bool := decide (x.1.1 > (9 : Int));
 br x14
 (let x15 : Int := x.1.1.tmod (10 : Int);
 let x16 : Int := w64 ((48 : Int) + x15);
 let x17 : Int := IntKind.u8.wrap x16;
 let x18 : ByteArray := ofBytes [x17];
 ck (((x18.size + x.1.2.1.size : Nat) : Int) ≤ IntKind.i64.max)
 (let x19 : ByteArray := x18 ++ x.1.2.1;
 let x20 : Int := w64 (x.1.1.tdiv (10 : Int));
 some (.inl ((x20, x19, ()), (), ()))))
 (some (.inr ((x.1.1, x.1.2.1, ()), (), ())))
def spec_l7Number_r13_h0 : Sh := ⟨[(0, .c (.int .i64)), (3, .c (.str))], [], []⟩
def spec_l7Number_r13_r0 : List Sh := [⟨[(0, .c (.int .i64)), (3, .c (.str))], [], []⟩]
noncomputable def spec_l7Number_r13_L0 : Lp := ⟨0, [], spec_l7Number_r13_h0, [], [(.exit 0, [])], spec_l7Number_r13_r0, loopC spec_l7Number_r13_s0⟩
noncomputable def spec_l7Number_r13 (a0 : Int) : Option ((ByteArray × Unit) × Unit × Unit) :=
 let x1 : Bool := decide (a0 < (0 : Int));
 br x1
 (let x2 : Bool := decide (a0 > (-10 : Int));
 br x2
 (let x3 : Int := w64 ((48 : Int) - a0);
 let x4 : Int := IntKind.u8.wrap x3;
 let x5 : ByteArray := ofBytes [x4];
 ck ((((ByteArray.mk #[45]).size + x5.size : Nat) : Int) ≤ IntKind.i64.max)
 (let x6 : ByteArray := (ByteArray.mk #[45]) ++ x5;
 some ((x6, ()), (), ())))
 (let x7 : Int := w64 (a0.tdiv (10 : Int));
 let x8 : Int := a0.tmod (10 : Int);
 let x9 : Int := w64 ((48 : Int) - x8);
 let x10 : Int := IntKind.u8.wrap x9;
 both ((spec_l7Number_r14 x7).bind fun r11 =>
 let x12 : ByteArray := ofBytes [x10];
 ck (((r11.1.1.size + x12.size : Nat) : Int) ≤ IntKind.i64.max)
 (let x13 : ByteArray := r11.1.1 ++ x12;
 some ((x13, ()), (), ())))
 ((both ((spec_l7Number_r14 x7).bind fun r11 =>
 let x12 : ByteArray := ofBytes [x10];
 ck (((r11.1.1.size + x12.size : Nat) : Int) ≤ IntKind.i64.max)
 (let x13 : ByteArray := r11.1.1 ++ x12;
 some ((x13, ()), (), ())))
 ((let x11 : ByteArray := ofBytes [x10];
 (spec_l7Number_r14 x7).bind fun r12 =>
 ck (((r12.1.1.size + x11.size : Nat) : Int) ≤ IntKind.i64.max)
 (let x13 : ByteArray := r12.1.1 ++ x11;
 some ((x13, ()), (), ()))))))))
 ((loopC spec_l7Number_r13_s0 ((a0, ByteArray.empty, ()), (), ())).bind fun r21 =>
 let x22 : Int := w64 ((48 : Int) + r21.1.1);
 let x23 : Int := IntKind.u8.wrap x22;
 let x24 : ByteArray := ofBytes [x23];
 ck (((x24.size + r21.1.2.1.size : Nat) : Int) ≤ IntKind.i64.max)
 (let x25 : ByteArray := x24 ++ r21.1.2.1;
 some ((x25, ()), (), ())))
noncomputable def spec_l7Number_r13_C : Ctr := ⟨31, spec_l7Number_r13_arg, spec_l7Number_r13_res, fun x => spec_l7Number_r13 x.1.1, none⟩
def spec_l7Number_r13_H : Hint := ⟨[], [], [], fun _ => []⟩
noncomputable def spec_l7Number_r13_T : List Ctr := [spec_l7Number_r14_C]
noncomputable def spec_l7Number_r13_Ls : List Lp := [spec_l7Number_r13_L0]
theorem spec_l7Number_r13_l0 : ∀ x, spec_l7Number_r13_s0 x = stepW E0 spec_l7Number_r13_T spec_l7Number_r13_Ls spec_l7Number_r13_H (loopAt (bodyOf Tryd.f31) 0) 0 spec_l7Number_r13_h0 [] [(.exit 0, [])] spec_l7Number_r13_r0 x := fun x => by kernel_rfl
theorem spec_l7Number_r13_e : ∀ x, spec_l7Number_r13_C.F x = runBodyW E0 spec_l7Number_r13_T spec_l7Number_r13_Ls spec_l7Number_r13_H 31 Tryd.f31.results.toList (bodyOf Tryd.f31) [] (spec_l7Number_r13_arg.mk' x) spec_l7Number_r13_res := fun x => by kernel_rfl
theorem spec_l7Number_r13_ok : spec_l7Number_r13_C.Ok E0 := fn_ok (T := spec_l7Number_r13_T) (h := spec_l7Number_r13_H) (Ls := spec_l7Number_r13_Ls) E0_mixed (T_cons spec_l7Number_r14_ok T_nil) Tryd.func31 (bodyOf_some (by kernel_rfl)) (by kernel_rfl) (loops_of (ks := [0]) (by kernel_rfl) ⟨(loop_one (h := spec_l7Number_r13_H) (own := []) (head := spec_l7Number_r13_h0) (back := []) (exs := [(.exit 0, [])]) (res := spec_l7Number_r13_r0) (step := spec_l7Number_r13_s0) (by kernel_rfl) spec_l7Number_r13_l0), trivial⟩) spec_l7Number_r13_e
def spec_l7Number_r12_arg : Sh := ⟨[(0, .c (.int .i64))], [], []⟩
def spec_l7Number_r12_res : List Sh := [⟨[(0, .c (.str))], [], []⟩]
noncomputable def spec_l7Number_r12_s0 (x : (Int × ByteArray × Unit) × Unit × Unit) : Option (((Int × ByteArray × Unit) × Unit × Unit) ⊕ ((Int × ByteArray × Unit) × Unit × Unit)) :=
 let x14 : Bool := decide (x.1.1 > (9 : Int));
 br x14
 (let x15 : Int := x.1.1.tmod (10 : Int);
 let x16 : Int := w64 ((48 : Int) + x15);
 let x17 : Int := IntKind.u8.wrap x16;
 let x18 : ByteArray := ofBytes [x17];
 ck (((x18.size + x.1.2.1.size : Nat) : Int) ≤ IntKind.i64.max)
 (let x19 : ByteArray := x18 ++ x.1.2.1;
 let x20 : Int := w64 (x.1.1.tdiv (10 : Int));
 some (.inl ((x20, x19, ()), (), ()))))
 (some (.inr ((x.1.1, x.1.2.1, ()), (), ())))
def spec_l7Number_r12_h0 : Sh := ⟨[(0, .c (.int .i64)), (3, .c (.str))], [], []⟩
def spec_l7Number_r12_r0 : List Sh := [⟨[(0, .c (.int .i64)), (3, .c (.str))], [], []⟩]
noncomputable def spec_l7Number_r12_L0 : Lp := ⟨0, [], spec_l7Number_r12_h0, [], [(.exit 0, [])], spec_l7Number_r12_r0, loopC spec_l7Number_r12_s0⟩
noncomputable def spec_l7Number_r12 (a0 : Int) : Option ((ByteArray × Unit) × Unit × Unit) :=
 let x1 : Bool := decide (a0 < (0 : Int));
 br x1
 (let x2 : Bool := decide (a0 > (-10 : Int));
 br x2
 (let x3 : Int := w64 ((48 : Int) - a0);
 let x4 : Int := IntKind.u8.wrap x3;
 let x5 : ByteArray := ofBytes [x4];
 ck ((((ByteArray.mk #[45]).size + x5.size : Nat) : Int) ≤ IntKind.i64.max)
 (let x6 : ByteArray := (ByteArray.mk #[45]) ++ x5;
 some ((x6, ()), (), ())))
 (let x7 : Int := w64 (a0.tdiv (10 : Int));
 let x8 : Int := a0.tmod (10 : Int);
 let x9 : Int := w64 ((48 : Int) - x8);
 let x10 : Int := IntKind.u8.wrap x9;
 both ((spec_l7Number_r13 x7).bind fun r11 =>
 let x12 : ByteArray := ofBytes [x10];
 ck (((r11.1.1.size + x12.size : Nat) : Int) ≤ IntKind.i64.max)
 (let x13 : ByteArray := r11.1.1 ++ x12;
 some ((x13, ()), (), ())))
 ((both ((spec_l7Number_r13 x7).bind fun r11 =>
 let x12 : ByteArray := ofBytes [x10];
 ck (((r11.1.1.size + x12.size : Nat) : Int) ≤ IntKind.i64.max)
 (let x13 : ByteArray := r11.1.1 ++ x12;
 some ((x13, ()), (), ())))
 ((let x11 : ByteArray := ofBytes [x10];
 (spec_l7Number_r13 x7).bind fun r12 =>
 ck (((r12.1.1.size + x11.size : Nat) : Int) ≤ IntKind.i64.max)
 (let x13 : ByteArray := r12.1.1 ++ x11;
 some ((x13, ()), (), ()))))))))
 ((loopC spec_l7Number_r12_s0 ((a0, ByteArray.empty, ()), (), ())).bind fun r21 =>
 let x22 : Int := w64 ((48 : Int) + r21.1.1);
 let x23 : Int := IntKind.u8.wrap x22;
 let x24 : ByteArray := ofBytes [x23];
 ck (((x24.size + r21.1.2.1.size : Nat) : Int) ≤ IntKind.i64.max)
 (let x25 : ByteArray := x24 ++ r21.1.2.1;
 some ((x25, ()), (), ())))
noncomputable def spec_l7Number_r12_C : Ctr := ⟨31, spec_l7Number_r12_arg, spec_l7Number_r12_res, fun x => spec_l7Number_r12 x.1.1, none⟩
def spec_l7Number_r12_H : Hint := ⟨[], [], [], fun _ => []⟩
noncomputable def spec_l7Number_r12_T : List Ctr := [spec_l7Number_r13_C]
noncomputable def spec_l7Number_r12_Ls : List Lp := [spec_l7Number_r12_L0]
theorem spec_l7Number_r12_l0 : ∀ x, spec_l7Number_r12_s0 x = stepW E0 spec_l7Number_r12_T spec_l7Number_r12_Ls spec_l7Number_r12_H (loopAt (bodyOf Tryd.f31) 0) 0 spec_l7Number_r12_h0 [] [(.exit 0, [])] spec_l7Number_r12_r0 x := fun x => by kernel_rfl
theorem spec_l7Number_r12_e : ∀ x, spec_l7Number_r12_C.F x = runBodyW E0 spec_l7Number_r12_T spec_l7Number_r12_Ls spec_l7Number_r12_H 31 Tryd.f31.results.toList (bodyOf Tryd.f31) [] (spec_l7Number_r12_arg.mk' x) spec_l7Number_r12_res := fun x => by kernel_rfl
theorem spec_l7Number_r12_ok : spec_l7Number_r12_C.Ok E0 := fn_ok (T := spec_l7Number_r12_T) (h := spec_l7Number_r12_H) (Ls := spec_l7Number_r12_Ls) E0_mixed (T_cons spec_l7Number_r13_ok T_nil) Tryd.func31 (bodyOf_some (by kernel_rfl)) (by kernel_rfl) (loops_of (ks := [0]) (by kernel_rfl) ⟨(loop_one (h := spec_l7Number_r12_H) (own := []) (head := spec_l7Number_r12_h0) (back := []) (exs := [(.exit 0, [])]) (res := spec_l7Number_r12_r0) (step := spec_l7Number_r12_s0) (by kernel_rfl) spec_l7Number_r12_l0), trivial⟩) spec_l7Number_r12_e
def spec_l7Number_r11_arg : Sh := ⟨[(0, .c (.int .i64))], [], []⟩
def spec_l7Number_r11_res : List Sh := [⟨[(0, .c (.str))], [], []⟩]
noncomputable def spec_l7Number_r11_s0 (x : (Int × ByteArray × Unit) × Unit × Unit) : Option (((Int × ByteArray × Unit) × Unit × Unit) ⊕ ((Int × ByteArray × Unit) × Unit × Unit)) :=
 let x14 : Bool := decide (x.1.1 > (9 : Int));
 br x14
 (let x15 : Int := x.1.1.tmod (10 : Int);
 let x16 : Int := w64 ((48 : Int) + x15);
 let x17 : Int := IntKind.u8.wrap x16;
 let x18 : ByteArray := ofBytes [x17];
 ck (((x18.size + x.1.2.1.size : Nat) : Int) ≤ IntKind.i64.max)
 (let x19 : ByteArray := x18 ++ x.1.2.1;
 let x20 : Int := w64 (x.1.1.tdiv (10 : Int));
 some (.inl ((x20, x19, ()), (), ()))))
 (some (.inr ((x.1.1, x.1.2.1, ()), (), ())))
def spec_l7Number_r11_h0 : Sh := ⟨[(0, .c (.int .i64)), (3, .c (.str))], [], []⟩
def spec_l7Number_r11_r0 : List Sh := [⟨[(0, .c (.int .i64)), (3, .c (.str))], [], []⟩]
noncomputable def spec_l7Number_r11_L0 : Lp := ⟨0, [], spec_l7Number_r11_h0, [], [(.exit 0, [])], spec_l7Number_r11_r0, loopC spec_l7Number_r11_s0⟩
noncomputable def spec_l7Number_r11 (a0 : Int) : Option ((ByteArray × Unit) × Unit × Unit) :=
 let x1 : Bool := decide (a0 < (0 : Int));
 br x1
 (let x2 : Bool := decide (a0 > (-10 : Int));
 br x2
 (let x3 : Int := w64 ((48 : Int) - a0);
 let x4 : Int := IntKind.u8.wrap x3;
 let x5 : ByteArray := ofBytes [x4];
 ck ((((ByteArray.mk #[45]).size + x5.size : Nat) : Int) ≤ IntKind.i64.max)
 (let x6 : ByteArray := (ByteArray.mk #[45]) ++ x5;
 some ((x6, ()), (), ())))
 (let x7 : Int := w64 (a0.tdiv (10 : Int));
 let x8 : Int := a0.tmod (10 : Int);
 let x9 : Int := w64 ((48 : Int) - x8);
 let x10 : Int := IntKind.u8.wrap x9;
 both ((spec_l7Number_r12 x7).bind fun r11 =>
 let x12 : ByteArray := ofBytes [x10];
 ck (((r11.1.1.size + x12.size : Nat) : Int) ≤ IntKind.i64.max)
 (let x13 : ByteArray := r11.1.1 ++ x12;
 some ((x13, ()), (), ())))
 ((both ((spec_l7Number_r12 x7).bind fun r11 =>
 let x12 : ByteArray := ofBytes [x10];
 ck (((r11.1.1.size + x12.size : Nat) : Int) ≤ IntKind.i64.max)
 (let x13 : ByteArray := r11.1.1 ++ x12;
 some ((x13, ()), (), ())))
 ((let x11 : ByteArray := ofBytes [x10];
 (spec_l7Number_r12 x7).bind fun r12 =>
 ck (((r12.1.1.size + x11.size : Nat) : Int) ≤ IntKind.i64.max)
 (let x13 : ByteArray := r12.1.1 ++ x11;
 some ((x13, ()), (), ()))))))))
 ((loopC spec_l7Number_r11_s0 ((a0, ByteArray.empty, ()), (), ())).bind fun r21 =>
 let x22 : Int := w64 ((48 : Int) + r21.1.1);
 let x23 : Int := IntKind.u8.wrap x22;
 let x24 : ByteArray := ofBytes [x23];
 ck (((x24.size + r21.1.2.1.size : Nat) : Int) ≤ IntKind.i64.max)
 (let x25 : ByteArray := x24 ++ r21.1.2.1;
 some ((x25, ()), (), ())))
noncomputable def spec_l7Number_r11_C : Ctr := ⟨31, spec_l7Number_r11_arg, spec_l7Number_r11_res, fun x => spec_l7Number_r11 x.1.1, none⟩
def spec_l7Number_r11_H : Hint := ⟨[], [], [], fun _ => []⟩
noncomputable def spec_l7Number_r11_T : List Ctr := [spec_l7Number_r12_C]
noncomputable def spec_l7Number_r11_Ls : List Lp := [spec_l7Number_r11_L0]
theorem spec_l7Number_r11_l0 : ∀ x, spec_l7Number_r11_s0 x = stepW E0 spec_l7Number_r11_T spec_l7Number_r11_Ls spec_l7Number_r11_H (loopAt (bodyOf Tryd.f31) 0) 0 spec_l7Number_r11_h0 [] [(.exit 0, [])] spec_l7Number_r11_r0 x := fun x => by kernel_rfl
theorem spec_l7Number_r11_e : ∀ x, spec_l7Number_r11_C.F x = runBodyW E0 spec_l7Number_r11_T spec_l7Number_r11_Ls spec_l7Number_r11_H 31 Tryd.f31.results.toList (bodyOf Tryd.f31) [] (spec_l7Number_r11_arg.mk' x) spec_l7Number_r11_res := fun x => by kernel_rfl
theorem spec_l7Number_r11_ok : spec_l7Number_r11_C.Ok E0 := fn_ok (T := spec_l7Number_r11_T) (h := spec_l7Number_r11_H) (Ls := spec_l7Number_r11_Ls) E0_mixed (T_cons spec_l7Number_r12_ok T_nil) Tryd.func31 (bodyOf_some (by kernel_rfl)) (by kernel_rfl) (loops_of (ks := [0]) (by kernel_rfl) ⟨(loop_one (h := spec_l7Number_r11_H) (own := []) (head := spec_l7Number_r11_h0) (back := []) (exs := [(.exit 0, [])]) (res := spec_l7Number_r11_r0) (step := spec_l7Number_r11_s0) (by kernel_rfl) spec_l7Number_r11_l0), trivial⟩) spec_l7Number_r11_e
def spec_l7Number_r10_arg : Sh := ⟨[(0, .c (.int .i64))], [], []⟩
def spec_l7Number_r10_res : List Sh := [⟨[(0, .c (.str))], [], []⟩]
noncomputable def spec_l7Number_r10_s0 (x : (Int × ByteArray × Unit) × Unit × Unit) : Option (((Int × ByteArray × Unit) × Unit × Unit) ⊕ ((Int × ByteArray × Unit) × Unit × Unit)) :=
 let x14 : Bool := decide (x.1.1 > (9 : Int));
 br x14
 (let x15 : Int := x.1.1.tmod (10 : Int);
 let x16 : Int := w64 ((48 : Int) + x15);
 let x17 : Int := IntKind.u8.wrap x16;
 let x18 : ByteArray := ofBytes [x17];
 ck (((x18.size + x.1.2.1.size : Nat) : Int) ≤ IntKind.i64.max)
 (let x19 : ByteArray := x18 ++ x.1.2.1;
 let x20 : Int := w64 (x.1.1.tdiv (10 : Int));
 some (.inl ((x20, x19, ()), (), ()))))
 (some (.inr ((x.1.1, x.1.2.1, ()), (), ())))
def spec_l7Number_r10_h0 : Sh := ⟨[(0, .c (.int .i64)), (3, .c (.str))], [], []⟩
def spec_l7Number_r10_r0 : List Sh := [⟨[(0, .c (.int .i64)), (3, .c (.str))], [], []⟩]
noncomputable def spec_l7Number_r10_L0 : Lp := ⟨0, [], spec_l7Number_r10_h0, [], [(.exit 0, [])], spec_l7Number_r10_r0, loopC spec_l7Number_r10_s0⟩
noncomputable def spec_l7Number_r10 (a0 : Int) : Option ((ByteArray × Unit) × Unit × Unit) :=
 let x1 : Bool := decide (a0 < (0 : Int));
 br x1
 (let x2 : Bool := decide (a0 > (-10 : Int));
 br x2
 (let x3 : Int := w64 ((48 : Int) - a0);
 let x4 : Int := IntKind.u8.wrap x3;
 let x5 : ByteArray := ofBytes [x4];
 ck ((((ByteArray.mk #[45]).size + x5.size : Nat) : Int) ≤ IntKind.i64.max)
 (let x6 : ByteArray := (ByteArray.mk #[45]) ++ x5;
 some ((x6, ()), (), ())))
 (let x7 : Int := w64 (a0.tdiv (10 : Int));
 let x8 : Int := a0.tmod (10 : Int);
 let x9 : Int := w64 ((48 : Int) - x8);
 let x10 : Int := IntKind.u8.wrap x9;
 both ((spec_l7Number_r11 x7).bind fun r11 =>
 let x12 : ByteArray := ofBytes [x10];
 ck (((r11.1.1.size + x12.size : Nat) : Int) ≤ IntKind.i64.max)
 (let x13 : ByteArray := r11.1.1 ++ x12;
 some ((x13, ()), (), ())))
 ((both ((spec_l7Number_r11 x7).bind fun r11 =>
 let x12 : ByteArray := ofBytes [x10];
 ck (((r11.1.1.size + x12.size : Nat) : Int) ≤ IntKind.i64.max)
 (let x13 : ByteArray := r11.1.1 ++ x12;
 some ((x13, ()), (), ())))
 ((let x11 : ByteArray := ofBytes [x10];
 (spec_l7Number_r11 x7).bind fun r12 =>
 ck (((r12.1.1.size + x11.size : Nat) : Int) ≤ IntKind.i64.max)
 (let x13 : ByteArray := r12.1.1 ++ x11;
 some ((x13, ()), (), ()))))))))
 ((loopC spec_l7Number_r10_s0 ((a0, ByteArray.empty, ()), (), ())).bind fun r21 =>
 let x22 : Int := w64 ((48 : Int) + r21.1.1);
 let x23 : Int := IntKind.u8.wrap x22;
 let x24 : ByteArray := ofBytes [x23];
 ck (((x24.size + r21.1.2.1.size : Nat) : Int) ≤ IntKind.i64.max)
 (let x25 : ByteArray := x24 ++ r21.1.2.1;
 some ((x25, ()), (), ())))
noncomputable def spec_l7Number_r10_C : Ctr := ⟨31, spec_l7Number_r10_arg, spec_l7Number_r10_res, fun x => spec_l7Number_r10 x.1.1, none⟩
def spec_l7Number_r10_H : Hint := ⟨[], [], [], fun _ => []⟩
noncomputable def spec_l7Number_r10_T : List Ctr := [spec_l7Number_r11_C]
noncomputable def spec_l7Number_r10_Ls : List Lp := [spec_l7Number_r10_L0]
theorem spec_l7Number_r10_l0 : ∀ x, spec_l7Number_r10_s0 x = stepW E0 spec_l7Number_r10_T spec_l7Number_r10_Ls spec_l7Number_r10_H (loopAt (bodyOf Tryd.f31) 0) 0 spec_l7Number_r10_h0 [] [(.exit 0, [])] spec_l7Number_r10_r0 x := fun x => by kernel_rfl
theorem spec_l7Number_r10_e : ∀ x, spec_l7Number_r10_C.F x = runBodyW E0 spec_l7Number_r10_T spec_l7Number_r10_Ls spec_l7Number_r10_H 31 Tryd.f31.results.toList (bodyOf Tryd.f31) [] (spec_l7Number_r10_arg.mk' x) spec_l7Number_r10_res := fun x => by kernel_rfl
theorem spec_l7Number_r10_ok : spec_l7Number_r10_C.Ok E0 := fn_ok (T := spec_l7Number_r10_T) (h := spec_l7Number_r10_H) (Ls := spec_l7Number_r10_Ls) E0_mixed (T_cons spec_l7Number_r11_ok T_nil) Tryd.func31 (bodyOf_some (by kernel_rfl)) (by kernel_rfl) (loops_of (ks := [0]) (by kernel_rfl) ⟨(loop_one (h := spec_l7Number_r10_H) (own := []) (head := spec_l7Number_r10_h0) (back := []) (exs := [(.exit 0, [])]) (res := spec_l7Number_r10_r0) (step := spec_l7Number_r10_s0) (by kernel_rfl) spec_l7Number_r10_l0), trivial⟩) spec_l7Number_r10_e
def spec_l7Number_r9_arg : Sh := ⟨[(0, .c (.int .i64))], [], []⟩
def spec_l7Number_r9_res : List Sh := [⟨[(0, .c (.str))], [], []⟩]
noncomputable def spec_l7Number_r9_s0 (x : (Int × ByteArray × Unit) × Unit × Unit) : Option (((Int × ByteArray × Unit) × Unit × Unit) ⊕ ((Int × ByteArray × Unit) × Unit × Unit)) :=
 let x14 : Bool := decide (x.1.1 > (9 : Int));
 br x14
 (let x15 : Int := x.1.1.tmod (10 : Int);
 let x16 : Int := w64 ((48 : Int) + x15);
 let x17 : Int := IntKind.u8.wrap x16;
 let x18 : ByteArray := ofBytes [x17];
 ck (((x18.size + x.1.2.1.size : Nat) : Int) ≤ IntKind.i64.max)
 (let x19 : ByteArray := x18 ++ x.1.2.1;
 let x20 : Int := w64 (x.1.1.tdiv (10 : Int));
 some (.inl ((x20, x19, ()), (), ()))))
 (some (.inr ((x.1.1, x.1.2.1, ()), (), ())))
def spec_l7Number_r9_h0 : Sh := ⟨[(0, .c (.int .i64)), (3, .c (.str))], [], []⟩
def spec_l7Number_r9_r0 : List Sh := [⟨[(0, .c (.int .i64)), (3, .c (.str))], [], []⟩]
noncomputable def spec_l7Number_r9_L0 : Lp := ⟨0, [], spec_l7Number_r9_h0, [], [(.exit 0, [])], spec_l7Number_r9_r0, loopC spec_l7Number_r9_s0⟩
noncomputable def spec_l7Number_r9 (a0 : Int) : Option ((ByteArray × Unit) × Unit × Unit) :=
 let x1 : Bool := decide (a0 < (0 : Int));
 br x1
 (let x2 : Bool := decide (a0 > (-10 : Int));
 br x2
 (let x3 : Int := w64 ((48 : Int) - a0);
 let x4 : Int := IntKind.u8.wrap x3;
 let x5 : ByteArray := ofBytes [x4];
 ck ((((ByteArray.mk #[45]).size + x5.size : Nat) : Int) ≤ IntKind.i64.max)
 (let x6 : ByteArray := (ByteArray.mk #[45]) ++ x5;
 some ((x6, ()), (), ())))
 (let x7 : Int := w64 (a0.tdiv (10 : Int));
 let x8 : Int := a0.tmod (10 : Int);
 let x9 : Int := w64 ((48 : Int) - x8);
 let x10 : Int := IntKind.u8.wrap x9;
 both ((spec_l7Number_r10 x7).bind fun r11 =>
 let x12 : ByteArray := ofBytes [x10];
 ck (((r11.1.1.size + x12.size : Nat) : Int) ≤ IntKind.i64.max)
 (let x13 : ByteArray := r11.1.1 ++ x12;
 some ((x13, ()), (), ())))
 ((both ((spec_l7Number_r10 x7).bind fun r11 =>
 let x12 : ByteArray := ofBytes [x10];
 ck (((r11.1.1.size + x12.size : Nat) : Int) ≤ IntKind.i64.max)
 (let x13 : ByteArray := r11.1.1 ++ x12;
 some ((x13, ()), (), ())))
 ((let x11 : ByteArray := ofBytes [x10];
 (spec_l7Number_r10 x7).bind fun r12 =>
 ck (((r12.1.1.size + x11.size : Nat) : Int) ≤ IntKind.i64.max)
 (let x13 : ByteArray := r12.1.1 ++ x11;
 some ((x13, ()), (), ()))))))))
 ((loopC spec_l7Number_r9_s0 ((a0, ByteArray.empty, ()), (), ())).bind fun r21 =>
 let x22 : Int := w64 ((48 : Int) + r21.1.1);
 let x23 : Int := IntKind.u8.wrap x22;
 let x24 : ByteArray := ofBytes [x23];
 ck (((x24.size + r21.1.2.1.size : Nat) : Int) ≤ IntKind.i64.max)
 (let x25 : ByteArray := x24 ++ r21.1.2.1;
 some ((x25, ()), (), ())))
noncomputable def spec_l7Number_r9_C : Ctr := ⟨31, spec_l7Number_r9_arg, spec_l7Number_r9_res, fun x => spec_l7Number_r9 x.1.1, none⟩
def spec_l7Number_r9_H : Hint := ⟨[], [], [], fun _ => []⟩
noncomputable def spec_l7Number_r9_T : List Ctr := [spec_l7Number_r10_C]
noncomputable def spec_l7Number_r9_Ls : List Lp := [spec_l7Number_r9_L0]
theorem spec_l7Number_r9_l0 : ∀ x, spec_l7Number_r9_s0 x = stepW E0 spec_l7Number_r9_T spec_l7Number_r9_Ls spec_l7Number_r9_H (loopAt (bodyOf Tryd.f31) 0) 0 spec_l7Number_r9_h0 [] [(.exit 0, [])] spec_l7Number_r9_r0 x := fun x => by kernel_rfl
theorem spec_l7Number_r9_e : ∀ x, spec_l7Number_r9_C.F x = runBodyW E0 spec_l7Number_r9_T spec_l7Number_r9_Ls spec_l7Number_r9_H 31 Tryd.f31.results.toList (bodyOf Tryd.f31) [] (spec_l7Number_r9_arg.mk' x) spec_l7Number_r9_res := fun x => by kernel_rfl
theorem spec_l7Number_r9_ok : spec_l7Number_r9_C.Ok E0 := fn_ok (T := spec_l7Number_r9_T) (h := spec_l7Number_r9_H) (Ls := spec_l7Number_r9_Ls) E0_mixed (T_cons spec_l7Number_r10_ok T_nil) Tryd.func31 (bodyOf_some (by kernel_rfl)) (by kernel_rfl) (loops_of (ks := [0]) (by kernel_rfl) ⟨(loop_one (h := spec_l7Number_r9_H) (own := []) (head := spec_l7Number_r9_h0) (back := []) (exs := [(.exit 0, [])]) (res := spec_l7Number_r9_r0) (step := spec_l7Number_r9_s0) (by kernel_rfl) spec_l7Number_r9_l0), trivial⟩) spec_l7Number_r9_e
def spec_l7Number_r8_arg : Sh := ⟨[(0, .c (.int .i64))], [], []⟩
def spec_l7Number_r8_res : List Sh := [⟨[(0, .c (.str))], [], []⟩]
noncomputable def spec_l7Number_r8_s0 (x : (Int × ByteArray × Unit) × Unit × Unit) : Option (((Int × ByteArray × Unit) × Unit × Unit) ⊕ ((Int × ByteArray × Unit) × Unit × Unit)) :=
 let x14 : Bool := decide (x.1.1 > (9 : Int));
 br x14
 (let x15 : Int := x.1.1.tmod (10 : Int);
 let x16 : Int := w64 ((48 : Int) + x15);
 let x17 : Int := IntKind.u8.wrap x16;
 let x18 : ByteArray := ofBytes [x17];
 ck (((x18.size + x.1.2.1.size : Nat) : Int) ≤ IntKind.i64.max)
 (let x19 : ByteArray := x18 ++ x.1.2.1;
 let x20 : Int := w64 (x.1.1.tdiv (10 : Int));
 some (.inl ((x20, x19, ()), (), ()))))
 (some (.inr ((x.1.1, x.1.2.1, ()), (), ())))
def spec_l7Number_r8_h0 : Sh := ⟨[(0, .c (.int .i64)), (3, .c (.str))], [], []⟩
def spec_l7Number_r8_r0 : List Sh := [⟨[(0, .c (.int .i64)), (3, .c (.str))], [], []⟩]
noncomputable def spec_l7Number_r8_L0 : Lp := ⟨0, [], spec_l7Number_r8_h0, [], [(.exit 0, [])], spec_l7Number_r8_r0, loopC spec_l7Number_r8_s0⟩
noncomputable def spec_l7Number_r8 (a0 : Int) : Option ((ByteArray × Unit) × Unit × Unit) :=
 let x1 : Bool := decide (a0 < (0 : Int));
 br x1
 (let x2 : Bool := decide (a0 > (-10 : Int));
 br x2
 (let x3 : Int := w64 ((48 : Int) - a0);
 let x4 : Int := IntKind.u8.wrap x3;
 let x5 : ByteArray := ofBytes [x4];
 ck ((((ByteArray.mk #[45]).size + x5.size : Nat) : Int) ≤ IntKind.i64.max)
 (let x6 : ByteArray := (ByteArray.mk #[45]) ++ x5;
 some ((x6, ()), (), ())))
 (let x7 : Int := w64 (a0.tdiv (10 : Int));
 let x8 : Int := a0.tmod (10 : Int);
 let x9 : Int := w64 ((48 : Int) - x8);
 let x10 : Int := IntKind.u8.wrap x9;
 both ((spec_l7Number_r9 x7).bind fun r11 =>
 let x12 : ByteArray := ofBytes [x10];
 ck (((r11.1.1.size + x12.size : Nat) : Int) ≤ IntKind.i64.max)
 (let x13 : ByteArray := r11.1.1 ++ x12;
 some ((x13, ()), (), ())))
 ((both ((spec_l7Number_r9 x7).bind fun r11 =>
 let x12 : ByteArray := ofBytes [x10];
 ck (((r11.1.1.size + x12.size : Nat) : Int) ≤ IntKind.i64.max)
 (let x13 : ByteArray := r11.1.1 ++ x12;
 some ((x13, ()), (), ())))
 ((let x11 : ByteArray := ofBytes [x10];
 (spec_l7Number_r9 x7).bind fun r12 =>
 ck (((r12.1.1.size + x11.size : Nat) : Int) ≤ IntKind.i64.max)
 (let x13 : ByteArray := r12.1.1 ++ x11;
 some ((x13, ()), (), ()))))))))
 ((loopC spec_l7Number_r8_s0 ((a0, ByteArray.empty, ()), (), ())).bind fun r21 =>
 let x22 : Int := w64 ((48 : Int) + r21.1.1);
 let x23 : Int := IntKind.u8.wrap x22;
 let x24 : ByteArray := ofBytes [x23];
 ck (((x24.size + r21.1.2.1.size : Nat) : Int) ≤ IntKind.i64.max)
 (let x25 : ByteArray := x24 ++ r21.1.2.1;
 some ((x25, ()), (), ())))
noncomputable def spec_l7Number_r8_C : Ctr := ⟨31, spec_l7Number_r8_arg, spec_l7Number_r8_res, fun x => spec_l7Number_r8 x.1.1, none⟩
def spec_l7Number_r8_H : Hint := ⟨[], [], [], fun _ => []⟩
noncomputable def spec_l7Number_r8_T : List Ctr := [spec_l7Number_r9_C]
noncomputable def spec_l7Number_r8_Ls : List Lp := [spec_l7Number_r8_L0]
theorem spec_l7Number_r8_l0 : ∀ x, spec_l7Number_r8_s0 x = stepW E0 spec_l7Number_r8_T spec_l7Number_r8_Ls spec_l7Number_r8_H (loopAt (bodyOf Tryd.f31) 0) 0 spec_l7Number_r8_h0 [] [(.exit 0, [])] spec_l7Number_r8_r0 x := fun x => by kernel_rfl
theorem spec_l7Number_r8_e : ∀ x, spec_l7Number_r8_C.F x = runBodyW E0 spec_l7Number_r8_T spec_l7Number_r8_Ls spec_l7Number_r8_H 31 Tryd.f31.results.toList (bodyOf Tryd.f31) [] (spec_l7Number_r8_arg.mk' x) spec_l7Number_r8_res := fun x => by kernel_rfl
theorem spec_l7Number_r8_ok : spec_l7Number_r8_C.Ok E0 := fn_ok (T := spec_l7Number_r8_T) (h := spec_l7Number_r8_H) (Ls := spec_l7Number_r8_Ls) E0_mixed (T_cons spec_l7Number_r9_ok T_nil) Tryd.func31 (bodyOf_some (by kernel_rfl)) (by kernel_rfl) (loops_of (ks := [0]) (by kernel_rfl) ⟨(loop_one (h := spec_l7Number_r8_H) (own := []) (head := spec_l7Number_r8_h0) (back := []) (exs := [(.exit 0, [])]) (res := spec_l7Number_r8_r0) (step := spec_l7Number_r8_s0) (by kernel_rfl) spec_l7Number_r8_l0), trivial⟩) spec_l7Number_r8_e
def spec_l7Number_r7_arg : Sh := ⟨[(0, .c (.int .i64))], [], []⟩
def spec_l7Number_r7_res : List Sh := [⟨[(0, .c (.str))], [], []⟩]
noncomputable def spec_l7Number_r7_s0 (x : (Int × ByteArray × Unit) × Unit × Unit) : Option (((Int × ByteArray × Unit) × Unit × Unit) ⊕ ((Int × ByteArray × Unit) × Unit × Unit)) :=
 let x14 : Bool := decide (x.1.1 > (9 : Int));
 br x14
 (let x15 : Int := x.1.1.tmod (10 : Int);
 let x16 : Int := w64 ((48 : Int) + x15);
 let x17 : Int := IntKind.u8.wrap x16;
 let x18 : ByteArray := ofBytes [x17];
 ck (((x18.size + x.1.2.1.size : Nat) : Int) ≤ IntKind.i64.max)
 (let x19 : ByteArray := x18 ++ x.1.2.1;
 let x20 : Int := w64 (x.1.1.tdiv (10 : Int));
 some (.inl ((x20, x19, ()), (), ()))))
 (some (.inr ((x.1.1, x.1.2.1, ()), (), ())))
def spec_l7Number_r7_h0 : Sh := ⟨[(0, .c (.int .i64)), (3, .c (.str))], [], []⟩
def spec_l7Number_r7_r0 : List Sh := [⟨[(0, .c (.int .i64)), (3, .c (.str))], [], []⟩]
noncomputable def spec_l7Number_r7_L0 : Lp := ⟨0, [], spec_l7Number_r7_h0, [], [(.exit 0, [])], spec_l7Number_r7_r0, loopC spec_l7Number_r7_s0⟩
noncomputable def spec_l7Number_r7 (a0 : Int) : Option ((ByteArray × Unit) × Unit × Unit) :=
 let x1 : Bool := decide (a0 < (0 : Int));
 br x1
 (let x2 : Bool := decide (a0 > (-10 : Int));
 br x2
 (let x3 : Int := w64 ((48 : Int) - a0);
 let x4 : Int := IntKind.u8.wrap x3;
 let x5 : ByteArray := ofBytes [x4];
 ck ((((ByteArray.mk #[45]).size + x5.size : Nat) : Int) ≤ IntKind.i64.max)
 (let x6 : ByteArray := (ByteArray.mk #[45]) ++ x5;
 some ((x6, ()), (), ())))
 (let x7 : Int := w64 (a0.tdiv (10 : Int));
 let x8 : Int := a0.tmod (10 : Int);
 let x9 : Int := w64 ((48 : Int) - x8);
 let x10 : Int := IntKind.u8.wrap x9;
 both ((spec_l7Number_r8 x7).bind fun r11 =>
 let x12 : ByteArray := ofBytes [x10];
 ck (((r11.1.1.size + x12.size : Nat) : Int) ≤ IntKind.i64.max)
 (let x13 : ByteArray := r11.1.1 ++ x12;
 some ((x13, ()), (), ())))
 ((both ((spec_l7Number_r8 x7).bind fun r11 =>
 let x12 : ByteArray := ofBytes [x10];
 ck (((r11.1.1.size + x12.size : Nat) : Int) ≤ IntKind.i64.max)
 (let x13 : ByteArray := r11.1.1 ++ x12;
 some ((x13, ()), (), ())))
 ((let x11 : ByteArray := ofBytes [x10];
 (spec_l7Number_r8 x7).bind fun r12 =>
 ck (((r12.1.1.size + x11.size : Nat) : Int) ≤ IntKind.i64.max)
 (let x13 : ByteArray := r12.1.1 ++ x11;
 some ((x13, ()), (), ()))))))))
 ((loopC spec_l7Number_r7_s0 ((a0, ByteArray.empty, ()), (), ())).bind fun r21 =>
 let x22 : Int := w64 ((48 : Int) + r21.1.1);
 let x23 : Int := IntKind.u8.wrap x22;
 let x24 : ByteArray := ofBytes [x23];
 ck (((x24.size + r21.1.2.1.size : Nat) : Int) ≤ IntKind.i64.max)
 (let x25 : ByteArray := x24 ++ r21.1.2.1;
 some ((x25, ()), (), ())))
noncomputable def spec_l7Number_r7_C : Ctr := ⟨31, spec_l7Number_r7_arg, spec_l7Number_r7_res, fun x => spec_l7Number_r7 x.1.1, none⟩
def spec_l7Number_r7_H : Hint := ⟨[], [], [], fun _ => []⟩
noncomputable def spec_l7Number_r7_T : List Ctr := [spec_l7Number_r8_C]
noncomputable def spec_l7Number_r7_Ls : List Lp := [spec_l7Number_r7_L0]
theorem spec_l7Number_r7_l0 : ∀ x, spec_l7Number_r7_s0 x = stepW E0 spec_l7Number_r7_T spec_l7Number_r7_Ls spec_l7Number_r7_H (loopAt (bodyOf Tryd.f31) 0) 0 spec_l7Number_r7_h0 [] [(.exit 0, [])] spec_l7Number_r7_r0 x := fun x => by kernel_rfl
theorem spec_l7Number_r7_e : ∀ x, spec_l7Number_r7_C.F x = runBodyW E0 spec_l7Number_r7_T spec_l7Number_r7_Ls spec_l7Number_r7_H 31 Tryd.f31.results.toList (bodyOf Tryd.f31) [] (spec_l7Number_r7_arg.mk' x) spec_l7Number_r7_res := fun x => by kernel_rfl
theorem spec_l7Number_r7_ok : spec_l7Number_r7_C.Ok E0 := fn_ok (T := spec_l7Number_r7_T) (h := spec_l7Number_r7_H) (Ls := spec_l7Number_r7_Ls) E0_mixed (T_cons spec_l7Number_r8_ok T_nil) Tryd.func31 (bodyOf_some (by kernel_rfl)) (by kernel_rfl) (loops_of (ks := [0]) (by kernel_rfl) ⟨(loop_one (h := spec_l7Number_r7_H) (own := []) (head := spec_l7Number_r7_h0) (back := []) (exs := [(.exit 0, [])]) (res := spec_l7Number_r7_r0) (step := spec_l7Number_r7_s0) (by kernel_rfl) spec_l7Number_r7_l0), trivial⟩) spec_l7Number_r7_e
def spec_l7Number_r6_arg : Sh := ⟨[(0, .c (.int .i64))], [], []⟩
def spec_l7Number_r6_res : List Sh := [⟨[(0, .c (.str))], [], []⟩]
noncomputable def spec_l7Number_r6_s0 (x : (Int × ByteArray × Unit) × Unit × Unit) : Option (((Int × ByteArray × Unit) × Unit × Unit) ⊕ ((Int × ByteArray × Unit) × Unit × Unit)) :=
 let x14 : Bool := decide (x.1.1 > (9 : Int));
 br x14
 (let x15 : Int := x.1.1.tmod (10 : Int);
 let x16 : Int := w64 ((48 : Int) + x15);
 let x17 : Int := IntKind.u8.wrap x16;
 let x18 : ByteArray := ofBytes [x17];
 ck (((x18.size + x.1.2.1.size : Nat) : Int) ≤ IntKind.i64.max)
 (let x19 : ByteArray := x18 ++ x.1.2.1;
 let x20 : Int := w64 (x.1.1.tdiv (10 : Int));
 some (.inl ((x20, x19, ()), (), ()))))
 (some (.inr ((x.1.1, x.1.2.1, ()), (), ())))
def spec_l7Number_r6_h0 : Sh := ⟨[(0, .c (.int .i64)), (3, .c (.str))], [], []⟩
def spec_l7Number_r6_r0 : List Sh := [⟨[(0, .c (.int .i64)), (3, .c (.str))], [], []⟩]
noncomputable def spec_l7Number_r6_L0 : Lp := ⟨0, [], spec_l7Number_r6_h0, [], [(.exit 0, [])], spec_l7Number_r6_r0, loopC spec_l7Number_r6_s0⟩
noncomputable def spec_l7Number_r6 (a0 : Int) : Option ((ByteArray × Unit) × Unit × Unit) :=
 let x1 : Bool := decide (a0 < (0 : Int));
 br x1
 (let x2 : Bool := decide (a0 > (-10 : Int));
 br x2
 (let x3 : Int := w64 ((48 : Int) - a0);
 let x4 : Int := IntKind.u8.wrap x3;
 let x5 : ByteArray := ofBytes [x4];
 ck ((((ByteArray.mk #[45]).size + x5.size : Nat) : Int) ≤ IntKind.i64.max)
 (let x6 : ByteArray := (ByteArray.mk #[45]) ++ x5;
 some ((x6, ()), (), ())))
 (let x7 : Int := w64 (a0.tdiv (10 : Int));
 let x8 : Int := a0.tmod (10 : Int);
 let x9 : Int := w64 ((48 : Int) - x8);
 let x10 : Int := IntKind.u8.wrap x9;
 both ((spec_l7Number_r7 x7).bind fun r11 =>
 let x12 : ByteArray := ofBytes [x10];
 ck (((r11.1.1.size + x12.size : Nat) : Int) ≤ IntKind.i64.max)
 (let x13 : ByteArray := r11.1.1 ++ x12;
 some ((x13, ()), (), ())))
 ((both ((spec_l7Number_r7 x7).bind fun r11 =>
 let x12 : ByteArray := ofBytes [x10];
 ck (((r11.1.1.size + x12.size : Nat) : Int) ≤ IntKind.i64.max)
 (let x13 : ByteArray := r11.1.1 ++ x12;
 some ((x13, ()), (), ())))
 ((let x11 : ByteArray := ofBytes [x10];
 (spec_l7Number_r7 x7).bind fun r12 =>
 ck (((r12.1.1.size + x11.size : Nat) : Int) ≤ IntKind.i64.max)
 (let x13 : ByteArray := r12.1.1 ++ x11;
 some ((x13, ()), (), ()))))))))
 ((loopC spec_l7Number_r6_s0 ((a0, ByteArray.empty, ()), (), ())).bind fun r21 =>
 let x22 : Int := w64 ((48 : Int) + r21.1.1);
 let x23 : Int := IntKind.u8.wrap x22;
 let x24 : ByteArray := ofBytes [x23];
 ck (((x24.size + r21.1.2.1.size : Nat) : Int) ≤ IntKind.i64.max)
 (let x25 : ByteArray := x24 ++ r21.1.2.1;
 some ((x25, ()), (), ())))
noncomputable def spec_l7Number_r6_C : Ctr := ⟨31, spec_l7Number_r6_arg, spec_l7Number_r6_res, fun x => spec_l7Number_r6 x.1.1, none⟩
def spec_l7Number_r6_H : Hint := ⟨[], [], [], fun _ => []⟩
noncomputable def spec_l7Number_r6_T : List Ctr := [spec_l7Number_r7_C]
noncomputable def spec_l7Number_r6_Ls : List Lp := [spec_l7Number_r6_L0]
theorem spec_l7Number_r6_l0 : ∀ x, spec_l7Number_r6_s0 x = stepW E0 spec_l7Number_r6_T spec_l7Number_r6_Ls spec_l7Number_r6_H (loopAt (bodyOf Tryd.f31) 0) 0 spec_l7Number_r6_h0 [] [(.exit 0, [])] spec_l7Number_r6_r0 x := fun x => by kernel_rfl
theorem spec_l7Number_r6_e : ∀ x, spec_l7Number_r6_C.F x = runBodyW E0 spec_l7Number_r6_T spec_l7Number_r6_Ls spec_l7Number_r6_H 31 Tryd.f31.results.toList (bodyOf Tryd.f31) [] (spec_l7Number_r6_arg.mk' x) spec_l7Number_r6_res := fun x => by kernel_rfl
theorem spec_l7Number_r6_ok : spec_l7Number_r6_C.Ok E0 := fn_ok (T := spec_l7Number_r6_T) (h := spec_l7Number_r6_H) (Ls := spec_l7Number_r6_Ls) E0_mixed (T_cons spec_l7Number_r7_ok T_nil) Tryd.func31 (bodyOf_some (by kernel_rfl)) (by kernel_rfl) (loops_of (ks := [0]) (by kernel_rfl) ⟨(loop_one (h := spec_l7Number_r6_H) (own := []) (head := spec_l7Number_r6_h0) (back := []) (exs := [(.exit 0, [])]) (res := spec_l7Number_r6_r0) (step := spec_l7Number_r6_s0) (by kernel_rfl) spec_l7Number_r6_l0), trivial⟩) spec_l7Number_r6_e
def spec_l7Number_r5_arg : Sh := ⟨[(0, .c (.int .i64))], [], []⟩
def spec_l7Number_r5_res : List Sh := [⟨[(0, .c (.str))], [], []⟩]
noncomputable def spec_l7Number_r5_s0 (x : (Int × ByteArray × Unit) × Unit × Unit) : Option (((Int × ByteArray × Unit) × Unit × Unit) ⊕ ((Int × ByteArray × Unit) × Unit × Unit)) :=
 let x14 : Bool := decide (x.1.1 > (9 : Int));
 br x14
 (let x15 : Int := x.1.1.tmod (10 : Int);
 let x16 : Int := w64 ((48 : Int) + x15);
 let x17 : Int := IntKind.u8.wrap x16;
 let x18 : ByteArray := ofBytes [x17];
 ck (((x18.size + x.1.2.1.size : Nat) : Int) ≤ IntKind.i64.max)
 (let x19 : ByteArray := x18 ++ x.1.2.1;
 let x20 : Int := w64 (x.1.1.tdiv (10 : Int));
 some (.inl ((x20, x19, ()), (), ()))))
 (some (.inr ((x.1.1, x.1.2.1, ()), (), ())))
def spec_l7Number_r5_h0 : Sh := ⟨[(0, .c (.int .i64)), (3, .c (.str))], [], []⟩
def spec_l7Number_r5_r0 : List Sh := [⟨[(0, .c (.int .i64)), (3, .c (.str))], [], []⟩]
noncomputable def spec_l7Number_r5_L0 : Lp := ⟨0, [], spec_l7Number_r5_h0, [], [(.exit 0, [])], spec_l7Number_r5_r0, loopC spec_l7Number_r5_s0⟩
noncomputable def spec_l7Number_r5 (a0 : Int) : Option ((ByteArray × Unit) × Unit × Unit) :=
 let x1 : Bool := decide (a0 < (0 : Int));
 br x1
 (let x2 : Bool := decide (a0 > (-10 : Int));
 br x2
 (let x3 : Int := w64 ((48 : Int) - a0);
 let x4 : Int := IntKind.u8.wrap x3;
 let x5 : ByteArray := ofBytes [x4];
 ck ((((ByteArray.mk #[45]).size + x5.size : Nat) : Int) ≤ IntKind.i64.max)
 (let x6 : ByteArray := (ByteArray.mk #[45]) ++ x5;
 some ((x6, ()), (), ())))
 (let x7 : Int := w64 (a0.tdiv (10 : Int));
 let x8 : Int := a0.tmod (10 : Int);
 let x9 : Int := w64 ((48 : Int) - x8);
 let x10 : Int := IntKind.u8.wrap x9;
 both ((spec_l7Number_r6 x7).bind fun r11 =>
 let x12 : ByteArray := ofBytes [x10];
 ck (((r11.1.1.size + x12.size : Nat) : Int) ≤ IntKind.i64.max)
 (let x13 : ByteArray := r11.1.1 ++ x12;
 some ((x13, ()), (), ())))
 ((both ((spec_l7Number_r6 x7).bind fun r11 =>
 let x12 : ByteArray := ofBytes [x10];
 ck (((r11.1.1.size + x12.size : Nat) : Int) ≤ IntKind.i64.max)
 (let x13 : ByteArray := r11.1.1 ++ x12;
 some ((x13, ()), (), ())))
 ((let x11 : ByteArray := ofBytes [x10];
 (spec_l7Number_r6 x7).bind fun r12 =>
 ck (((r12.1.1.size + x11.size : Nat) : Int) ≤ IntKind.i64.max)
 (let x13 : ByteArray := r12.1.1 ++ x11;
 some ((x13, ()), (), ()))))))))
 ((loopC spec_l7Number_r5_s0 ((a0, ByteArray.empty, ()), (), ())).bind fun r21 =>
 let x22 : Int := w64 ((48 : Int) + r21.1.1);
 let x23 : Int := IntKind.u8.wrap x22;
 let x24 : ByteArray := ofBytes [x23];
 ck (((x24.size + r21.1.2.1.size : Nat) : Int) ≤ IntKind.i64.max)
 (let x25 : ByteArray := x24 ++ r21.1.2.1;
 some ((x25, ()), (), ())))
noncomputable def spec_l7Number_r5_C : Ctr := ⟨31, spec_l7Number_r5_arg, spec_l7Number_r5_res, fun x => spec_l7Number_r5 x.1.1, none⟩
def spec_l7Number_r5_H : Hint := ⟨[], [], [], fun _ => []⟩
noncomputable def spec_l7Number_r5_T : List Ctr := [spec_l7Number_r6_C]
noncomputable def spec_l7Number_r5_Ls : List Lp := [spec_l7Number_r5_L0]
theorem spec_l7Number_r5_l0 : ∀ x, spec_l7Number_r5_s0 x = stepW E0 spec_l7Number_r5_T spec_l7Number_r5_Ls spec_l7Number_r5_H (loopAt (bodyOf Tryd.f31) 0) 0 spec_l7Number_r5_h0 [] [(.exit 0, [])] spec_l7Number_r5_r0 x := fun x => by kernel_rfl
theorem spec_l7Number_r5_e : ∀ x, spec_l7Number_r5_C.F x = runBodyW E0 spec_l7Number_r5_T spec_l7Number_r5_Ls spec_l7Number_r5_H 31 Tryd.f31.results.toList (bodyOf Tryd.f31) [] (spec_l7Number_r5_arg.mk' x) spec_l7Number_r5_res := fun x => by kernel_rfl
theorem spec_l7Number_r5_ok : spec_l7Number_r5_C.Ok E0 := fn_ok (T := spec_l7Number_r5_T) (h := spec_l7Number_r5_H) (Ls := spec_l7Number_r5_Ls) E0_mixed (T_cons spec_l7Number_r6_ok T_nil) Tryd.func31 (bodyOf_some (by kernel_rfl)) (by kernel_rfl) (loops_of (ks := [0]) (by kernel_rfl) ⟨(loop_one (h := spec_l7Number_r5_H) (own := []) (head := spec_l7Number_r5_h0) (back := []) (exs := [(.exit 0, [])]) (res := spec_l7Number_r5_r0) (step := spec_l7Number_r5_s0) (by kernel_rfl) spec_l7Number_r5_l0), trivial⟩) spec_l7Number_r5_e
def spec_l7Number_r4_arg : Sh := ⟨[(0, .c (.int .i64))], [], []⟩
def spec_l7Number_r4_res : List Sh := [⟨[(0, .c (.str))], [], []⟩]
noncomputable def spec_l7Number_r4_s0 (x : (Int × ByteArray × Unit) × Unit × Unit) : Option (((Int × ByteArray × Unit) × Unit × Unit) ⊕ ((Int × ByteArray × Unit) × Unit × Unit)) :=
 let x14 : Bool := decide (x.1.1 > (9 : Int));
 br x14
 (let x15 : Int := x.1.1.tmod (10 : Int);
 let x16 : Int := w64 ((48 : Int) + x15);
 let x17 : Int := IntKind.u8.wrap x16;
 let x18 : ByteArray := ofBytes [x17];
 ck (((x18.size + x.1.2.1.size : Nat) : Int) ≤ IntKind.i64.max)
 (let x19 : ByteArray := x18 ++ x.1.2.1;
 let x20 : Int := w64 (x.1.1.tdiv (10 : Int));
 some (.inl ((x20, x19, ()), (), ()))))
 (some (.inr ((x.1.1, x.1.2.1, ()), (), ())))
def spec_l7Number_r4_h0 : Sh := ⟨[(0, .c (.int .i64)), (3, .c (.str))], [], []⟩
def spec_l7Number_r4_r0 : List Sh := [⟨[(0, .c (.int .i64)), (3, .c (.str))], [], []⟩]
noncomputable def spec_l7Number_r4_L0 : Lp := ⟨0, [], spec_l7Number_r4_h0, [], [(.exit 0, [])], spec_l7Number_r4_r0, loopC spec_l7Number_r4_s0⟩
noncomputable def spec_l7Number_r4 (a0 : Int) : Option ((ByteArray × Unit) × Unit × Unit) :=
 let x1 : Bool := decide (a0 < (0 : Int));
 br x1
 (let x2 : Bool := decide (a0 > (-10 : Int));
 br x2
 (let x3 : Int := w64 ((48 : Int) - a0);
 let x4 : Int := IntKind.u8.wrap x3;
 let x5 : ByteArray := ofBytes [x4];
 ck ((((ByteArray.mk #[45]).size + x5.size : Nat) : Int) ≤ IntKind.i64.max)
 (let x6 : ByteArray := (ByteArray.mk #[45]) ++ x5;
 some ((x6, ()), (), ())))
 (let x7 : Int := w64 (a0.tdiv (10 : Int));
 let x8 : Int := a0.tmod (10 : Int);
 let x9 : Int := w64 ((48 : Int) - x8);
 let x10 : Int := IntKind.u8.wrap x9;
 both ((spec_l7Number_r5 x7).bind fun r11 =>
 let x12 : ByteArray := ofBytes [x10];
 ck (((r11.1.1.size + x12.size : Nat) : Int) ≤ IntKind.i64.max)
 (let x13 : ByteArray := r11.1.1 ++ x12;
 some ((x13, ()), (), ())))
 ((both ((spec_l7Number_r5 x7).bind fun r11 =>
 let x12 : ByteArray := ofBytes [x10];
 ck (((r11.1.1.size + x12.size : Nat) : Int) ≤ IntKind.i64.max)
 (let x13 : ByteArray := r11.1.1 ++ x12;
 some ((x13, ()), (), ())))
 ((let x11 : ByteArray := ofBytes [x10];
 (spec_l7Number_r5 x7).bind fun r12 =>
 ck (((r12.1.1.size + x11.size : Nat) : Int) ≤ IntKind.i64.max)
 (let x13 : ByteArray := r12.1.1 ++ x11;
 some ((x13, ()), (), ()))))))))
 ((loopC spec_l7Number_r4_s0 ((a0, ByteArray.empty, ()), (), ())).bind fun r21 =>
 let x22 : Int := w64 ((48 : Int) + r21.1.1);
 let x23 : Int := IntKind.u8.wrap x22;
 let x24 : ByteArray := ofBytes [x23];
 ck (((x24.size + r21.1.2.1.size : Nat) : Int) ≤ IntKind.i64.max)
 (let x25 : ByteArray := x24 ++ r21.1.2.1;
 some ((x25, ()), (), ())))
noncomputable def spec_l7Number_r4_C : Ctr := ⟨31, spec_l7Number_r4_arg, spec_l7Number_r4_res, fun x => spec_l7Number_r4 x.1.1, none⟩
def spec_l7Number_r4_H : Hint := ⟨[], [], [], fun _ => []⟩
noncomputable def spec_l7Number_r4_T : List Ctr := [spec_l7Number_r5_C]
noncomputable def spec_l7Number_r4_Ls : List Lp := [spec_l7Number_r4_L0]
theorem spec_l7Number_r4_l0 : ∀ x, spec_l7Number_r4_s0 x = stepW E0 spec_l7Number_r4_T spec_l7Number_r4_Ls spec_l7Number_r4_H (loopAt (bodyOf Tryd.f31) 0) 0 spec_l7Number_r4_h0 [] [(.exit 0, [])] spec_l7Number_r4_r0 x := fun x => by kernel_rfl
theorem spec_l7Number_r4_e : ∀ x, spec_l7Number_r4_C.F x = runBodyW E0 spec_l7Number_r4_T spec_l7Number_r4_Ls spec_l7Number_r4_H 31 Tryd.f31.results.toList (bodyOf Tryd.f31) [] (spec_l7Number_r4_arg.mk' x) spec_l7Number_r4_res := fun x => by kernel_rfl
theorem spec_l7Number_r4_ok : spec_l7Number_r4_C.Ok E0 := fn_ok (T := spec_l7Number_r4_T) (h := spec_l7Number_r4_H) (Ls := spec_l7Number_r4_Ls) E0_mixed (T_cons spec_l7Number_r5_ok T_nil) Tryd.func31 (bodyOf_some (by kernel_rfl)) (by kernel_rfl) (loops_of (ks := [0]) (by kernel_rfl) ⟨(loop_one (h := spec_l7Number_r4_H) (own := []) (head := spec_l7Number_r4_h0) (back := []) (exs := [(.exit 0, [])]) (res := spec_l7Number_r4_r0) (step := spec_l7Number_r4_s0) (by kernel_rfl) spec_l7Number_r4_l0), trivial⟩) spec_l7Number_r4_e
def spec_l7Number_r3_arg : Sh := ⟨[(0, .c (.int .i64))], [], []⟩
def spec_l7Number_r3_res : List Sh := [⟨[(0, .c (.str))], [], []⟩]
noncomputable def spec_l7Number_r3_s0 (x : (Int × ByteArray × Unit) × Unit × Unit) : Option (((Int × ByteArray × Unit) × Unit × Unit) ⊕ ((Int × ByteArray × Unit) × Unit × Unit)) :=
 let x14 : Bool := decide (x.1.1 > (9 : Int));
 br x14
 (let x15 : Int := x.1.1.tmod (10 : Int);
 let x16 : Int := w64 ((48 : Int) + x15);
 let x17 : Int := IntKind.u8.wrap x16;
 let x18 : ByteArray := ofBytes [x17];
 ck (((x18.size + x.1.2.1.size : Nat) : Int) ≤ IntKind.i64.max)
 (let x19 : ByteArray := x18 ++ x.1.2.1;
 let x20 : Int := w64 (x.1.1.tdiv (10 : Int));
 some (.inl ((x20, x19, ()), (), ()))))
 (some (.inr ((x.1.1, x.1.2.1, ()), (), ())))
def spec_l7Number_r3_h0 : Sh := ⟨[(0, .c (.int .i64)), (3, .c (.str))], [], []⟩
def spec_l7Number_r3_r0 : List Sh := [⟨[(0, .c (.int .i64)), (3, .c (.str))], [], []⟩]
noncomputable def spec_l7Number_r3_L0 : Lp := ⟨0, [], spec_l7Number_r3_h0, [], [(.exit 0, [])], spec_l7Number_r3_r0, loopC spec_l7Number_r3_s0⟩
noncomputable def spec_l7Number_r3 (a0 : Int) : Option ((ByteArray × Unit) × Unit × Unit) :=
 let x1 : Bool := decide (a0 < (0 : Int));
 br x1
 (let x2 : Bool := decide (a0 > (-10 : Int));
 br x2
 (let x3 : Int := w64 ((48 : Int) - a0);
 let x4 : Int := IntKind.u8.wrap x3;
 let x5 : ByteArray := ofBytes [x4];
 ck ((((ByteArray.mk #[45]).size + x5.size : Nat) : Int) ≤ IntKind.i64.max)
 (let x6 : ByteArray := (ByteArray.mk #[45]) ++ x5;
 some ((x6, ()), (), ())))
 (let x7 : Int := w64 (a0.tdiv (10 : Int));
 let x8 : Int := a0.tmod (10 : Int);
 let x9 : Int := w64 ((48 : Int) - x8);
 let x10 : Int := IntKind.u8.wrap x9;
 both ((spec_l7Number_r4 x7).bind fun r11 =>
 let x12 : ByteArray := ofBytes [x10];
 ck (((r11.1.1.size + x12.size : Nat) : Int) ≤ IntKind.i64.max)
 (let x13 : ByteArray := r11.1.1 ++ x12;
 some ((x13, ()), (), ())))
 ((both ((spec_l7Number_r4 x7).bind fun r11 =>
 let x12 : ByteArray := ofBytes [x10];
 ck (((r11.1.1.size + x12.size : Nat) : Int) ≤ IntKind.i64.max)
 (let x13 : ByteArray := r11.1.1 ++ x12;
 some ((x13, ()), (), ())))
 ((let x11 : ByteArray := ofBytes [x10];
 (spec_l7Number_r4 x7).bind fun r12 =>
 ck (((r12.1.1.size + x11.size : Nat) : Int) ≤ IntKind.i64.max)
 (let x13 : ByteArray := r12.1.1 ++ x11;
 some ((x13, ()), (), ()))))))))
 ((loopC spec_l7Number_r3_s0 ((a0, ByteArray.empty, ()), (), ())).bind fun r21 =>
 let x22 : Int := w64 ((48 : Int) + r21.1.1);
 let x23 : Int := IntKind.u8.wrap x22;
 let x24 : ByteArray := ofBytes [x23];
 ck (((x24.size + r21.1.2.1.size : Nat) : Int) ≤ IntKind.i64.max)
 (let x25 : ByteArray := x24 ++ r21.1.2.1;
 some ((x25, ()), (), ())))
noncomputable def spec_l7Number_r3_C : Ctr := ⟨31, spec_l7Number_r3_arg, spec_l7Number_r3_res, fun x => spec_l7Number_r3 x.1.1, none⟩
def spec_l7Number_r3_H : Hint := ⟨[], [], [], fun _ => []⟩
noncomputable def spec_l7Number_r3_T : List Ctr := [spec_l7Number_r4_C]
noncomputable def spec_l7Number_r3_Ls : List Lp := [spec_l7Number_r3_L0]
theorem spec_l7Number_r3_l0 : ∀ x, spec_l7Number_r3_s0 x = stepW E0 spec_l7Number_r3_T spec_l7Number_r3_Ls spec_l7Number_r3_H (loopAt (bodyOf Tryd.f31) 0) 0 spec_l7Number_r3_h0 [] [(.exit 0, [])] spec_l7Number_r3_r0 x := fun x => by kernel_rfl
theorem spec_l7Number_r3_e : ∀ x, spec_l7Number_r3_C.F x = runBodyW E0 spec_l7Number_r3_T spec_l7Number_r3_Ls spec_l7Number_r3_H 31 Tryd.f31.results.toList (bodyOf Tryd.f31) [] (spec_l7Number_r3_arg.mk' x) spec_l7Number_r3_res := fun x => by kernel_rfl
theorem spec_l7Number_r3_ok : spec_l7Number_r3_C.Ok E0 := fn_ok (T := spec_l7Number_r3_T) (h := spec_l7Number_r3_H) (Ls := spec_l7Number_r3_Ls) E0_mixed (T_cons spec_l7Number_r4_ok T_nil) Tryd.func31 (bodyOf_some (by kernel_rfl)) (by kernel_rfl) (loops_of (ks := [0]) (by kernel_rfl) ⟨(loop_one (h := spec_l7Number_r3_H) (own := []) (head := spec_l7Number_r3_h0) (back := []) (exs := [(.exit 0, [])]) (res := spec_l7Number_r3_r0) (step := spec_l7Number_r3_s0) (by kernel_rfl) spec_l7Number_r3_l0), trivial⟩) spec_l7Number_r3_e
def spec_l7Number_r2_arg : Sh := ⟨[(0, .c (.int .i64))], [], []⟩
def spec_l7Number_r2_res : List Sh := [⟨[(0, .c (.str))], [], []⟩]
noncomputable def spec_l7Number_r2_s0 (x : (Int × ByteArray × Unit) × Unit × Unit) : Option (((Int × ByteArray × Unit) × Unit × Unit) ⊕ ((Int × ByteArray × Unit) × Unit × Unit)) :=
 let x14 : Bool := decide (x.1.1 > (9 : Int));
 br x14
 (let x15 : Int := x.1.1.tmod (10 : Int);
 let x16 : Int := w64 ((48 : Int) + x15);
 let x17 : Int := IntKind.u8.wrap x16;
 let x18 : ByteArray := ofBytes [x17];
 ck (((x18.size + x.1.2.1.size : Nat) : Int) ≤ IntKind.i64.max)
 (let x19 : ByteArray := x18 ++ x.1.2.1;
 let x20 : Int := w64 (x.1.1.tdiv (10 : Int));
 some (.inl ((x20, x19, ()), (), ()))))
 (some (.inr ((x.1.1, x.1.2.1, ()), (), ())))
def spec_l7Number_r2_h0 : Sh := ⟨[(0, .c (.int .i64)), (3, .c (.str))], [], []⟩
def spec_l7Number_r2_r0 : List Sh := [⟨[(0, .c (.int .i64)), (3, .c (.str))], [], []⟩]
noncomputable def spec_l7Number_r2_L0 : Lp := ⟨0, [], spec_l7Number_r2_h0, [], [(.exit 0, [])], spec_l7Number_r2_r0, loopC spec_l7Number_r2_s0⟩
noncomputable def spec_l7Number_r2 (a0 : Int) : Option ((ByteArray × Unit) × Unit × Unit) :=
 let x1 : Bool := decide (a0 < (0 : Int));
 br x1
 (let x2 : Bool := decide (a0 > (-10 : Int));
 br x2
 (let x3 : Int := w64 ((48 : Int) - a0);
 let x4 : Int := IntKind.u8.wrap x3;
 let x5 : ByteArray := ofBytes [x4];
 ck ((((ByteArray.mk #[45]).size + x5.size : Nat) : Int) ≤ IntKind.i64.max)
 (let x6 : ByteArray := (ByteArray.mk #[45]) ++ x5;
 some ((x6, ()), (), ())))
 (let x7 : Int := w64 (a0.tdiv (10 : Int));
 let x8 : Int := a0.tmod (10 : Int);
 let x9 : Int := w64 ((48 : Int) - x8);
 let x10 : Int := IntKind.u8.wrap x9;
 both ((spec_l7Number_r3 x7).bind fun r11 =>
 let x12 : ByteArray := ofBytes [x10];
 ck (((r11.1.1.size + x12.size : Nat) : Int) ≤ IntKind.i64.max)
 (let x13 : ByteArray := r11.1.1 ++ x12;
 some ((x13, ()), (), ())))
 ((both ((spec_l7Number_r3 x7).bind fun r11 =>
 let x12 : ByteArray := ofBytes [x10];
 ck (((r11.1.1.size + x12.size : Nat) : Int) ≤ IntKind.i64.max)
 (let x13 : ByteArray := r11.1.1 ++ x12;
 some ((x13, ()), (), ())))
 ((let x11 : ByteArray := ofBytes [x10];
 (spec_l7Number_r3 x7).bind fun r12 =>
 ck (((r12.1.1.size + x11.size : Nat) : Int) ≤ IntKind.i64.max)
 (let x13 : ByteArray := r12.1.1 ++ x11;
 some ((x13, ()), (), ()))))))))
 ((loopC spec_l7Number_r2_s0 ((a0, ByteArray.empty, ()), (), ())).bind fun r21 =>
 let x22 : Int := w64 ((48 : Int) + r21.1.1);
 let x23 : Int := IntKind.u8.wrap x22;
 let x24 : ByteArray := ofBytes [x23];
 ck (((x24.size + r21.1.2.1.size : Nat) : Int) ≤ IntKind.i64.max)
 (let x25 : ByteArray := x24 ++ r21.1.2.1;
 some ((x25, ()), (), ())))
noncomputable def spec_l7Number_r2_C : Ctr := ⟨31, spec_l7Number_r2_arg, spec_l7Number_r2_res, fun x => spec_l7Number_r2 x.1.1, none⟩
def spec_l7Number_r2_H : Hint := ⟨[], [], [], fun _ => []⟩
noncomputable def spec_l7Number_r2_T : List Ctr := [spec_l7Number_r3_C]
noncomputable def spec_l7Number_r2_Ls : List Lp := [spec_l7Number_r2_L0]
theorem spec_l7Number_r2_l0 : ∀ x, spec_l7Number_r2_s0 x = stepW E0 spec_l7Number_r2_T spec_l7Number_r2_Ls spec_l7Number_r2_H (loopAt (bodyOf Tryd.f31) 0) 0 spec_l7Number_r2_h0 [] [(.exit 0, [])] spec_l7Number_r2_r0 x := fun x => by kernel_rfl
theorem spec_l7Number_r2_e : ∀ x, spec_l7Number_r2_C.F x = runBodyW E0 spec_l7Number_r2_T spec_l7Number_r2_Ls spec_l7Number_r2_H 31 Tryd.f31.results.toList (bodyOf Tryd.f31) [] (spec_l7Number_r2_arg.mk' x) spec_l7Number_r2_res := fun x => by kernel_rfl
theorem spec_l7Number_r2_ok : spec_l7Number_r2_C.Ok E0 := fn_ok (T := spec_l7Number_r2_T) (h := spec_l7Number_r2_H) (Ls := spec_l7Number_r2_Ls) E0_mixed (T_cons spec_l7Number_r3_ok T_nil) Tryd.func31 (bodyOf_some (by kernel_rfl)) (by kernel_rfl) (loops_of (ks := [0]) (by kernel_rfl) ⟨(loop_one (h := spec_l7Number_r2_H) (own := []) (head := spec_l7Number_r2_h0) (back := []) (exs := [(.exit 0, [])]) (res := spec_l7Number_r2_r0) (step := spec_l7Number_r2_s0) (by kernel_rfl) spec_l7Number_r2_l0), trivial⟩) spec_l7Number_r2_e
def spec_l7Number_r1_arg : Sh := ⟨[(0, .c (.int .i64))], [], []⟩
def spec_l7Number_r1_res : List Sh := [⟨[(0, .c (.str))], [], []⟩]
noncomputable def spec_l7Number_r1_s0 (x : (Int × ByteArray × Unit) × Unit × Unit) : Option (((Int × ByteArray × Unit) × Unit × Unit) ⊕ ((Int × ByteArray × Unit) × Unit × Unit)) :=
 let x14 : Bool := decide (x.1.1 > (9 : Int));
 br x14
 (let x15 : Int := x.1.1.tmod (10 : Int);
 let x16 : Int := w64 ((48 : Int) + x15);
 let x17 : Int := IntKind.u8.wrap x16;
 let x18 : ByteArray := ofBytes [x17];
 ck (((x18.size + x.1.2.1.size : Nat) : Int) ≤ IntKind.i64.max)
 (let x19 : ByteArray := x18 ++ x.1.2.1;
 let x20 : Int := w64 (x.1.1.tdiv (10 : Int));
 some (.inl ((x20, x19, ()), (), ()))))
 (some (.inr ((x.1.1, x.1.2.1, ()), (), ())))
def spec_l7Number_r1_h0 : Sh := ⟨[(0, .c (.int .i64)), (3, .c (.str))], [], []⟩
def spec_l7Number_r1_r0 : List Sh := [⟨[(0, .c (.int .i64)), (3, .c (.str))], [], []⟩]
noncomputable def spec_l7Number_r1_L0 : Lp := ⟨0, [], spec_l7Number_r1_h0, [], [(.exit 0, [])], spec_l7Number_r1_r0, loopC spec_l7Number_r1_s0⟩
noncomputable def spec_l7Number_r1 (a0 : Int) : Option ((ByteArray × Unit) × Unit × Unit) :=
 let x1 : Bool := decide (a0 < (0 : Int));
 br x1
 (let x2 : Bool := decide (a0 > (-10 : Int));
 br x2
 (let x3 : Int := w64 ((48 : Int) - a0);
 let x4 : Int := IntKind.u8.wrap x3;
 let x5 : ByteArray := ofBytes [x4];
 ck ((((ByteArray.mk #[45]).size + x5.size : Nat) : Int) ≤ IntKind.i64.max)
 (let x6 : ByteArray := (ByteArray.mk #[45]) ++ x5;
 some ((x6, ()), (), ())))
 (let x7 : Int := w64 (a0.tdiv (10 : Int));
 let x8 : Int := a0.tmod (10 : Int);
 let x9 : Int := w64 ((48 : Int) - x8);
 let x10 : Int := IntKind.u8.wrap x9;
 both ((spec_l7Number_r2 x7).bind fun r11 =>
 let x12 : ByteArray := ofBytes [x10];
 ck (((r11.1.1.size + x12.size : Nat) : Int) ≤ IntKind.i64.max)
 (let x13 : ByteArray := r11.1.1 ++ x12;
 some ((x13, ()), (), ())))
 ((both ((spec_l7Number_r2 x7).bind fun r11 =>
 let x12 : ByteArray := ofBytes [x10];
 ck (((r11.1.1.size + x12.size : Nat) : Int) ≤ IntKind.i64.max)
 (let x13 : ByteArray := r11.1.1 ++ x12;
 some ((x13, ()), (), ())))
 ((let x11 : ByteArray := ofBytes [x10];
 (spec_l7Number_r2 x7).bind fun r12 =>
 ck (((r12.1.1.size + x11.size : Nat) : Int) ≤ IntKind.i64.max)
 (let x13 : ByteArray := r12.1.1 ++ x11;
 some ((x13, ()), (), ()))))))))
 ((loopC spec_l7Number_r1_s0 ((a0, ByteArray.empty, ()), (), ())).bind fun r21 =>
 let x22 : Int := w64 ((48 : Int) + r21.1.1);
 let x23 : Int := IntKind.u8.wrap x22;
 let x24 : ByteArray := ofBytes [x23];
 ck (((x24.size + r21.1.2.1.size : Nat) : Int) ≤ IntKind.i64.max)
 (let x25 : ByteArray := x24 ++ r21.1.2.1;
 some ((x25, ()), (), ())))
noncomputable def spec_l7Number_r1_C : Ctr := ⟨31, spec_l7Number_r1_arg, spec_l7Number_r1_res, fun x => spec_l7Number_r1 x.1.1, none⟩
def spec_l7Number_r1_H : Hint := ⟨[], [], [], fun _ => []⟩
noncomputable def spec_l7Number_r1_T : List Ctr := [spec_l7Number_r2_C]
noncomputable def spec_l7Number_r1_Ls : List Lp := [spec_l7Number_r1_L0]
theorem spec_l7Number_r1_l0 : ∀ x, spec_l7Number_r1_s0 x = stepW E0 spec_l7Number_r1_T spec_l7Number_r1_Ls spec_l7Number_r1_H (loopAt (bodyOf Tryd.f31) 0) 0 spec_l7Number_r1_h0 [] [(.exit 0, [])] spec_l7Number_r1_r0 x := fun x => by kernel_rfl
theorem spec_l7Number_r1_e : ∀ x, spec_l7Number_r1_C.F x = runBodyW E0 spec_l7Number_r1_T spec_l7Number_r1_Ls spec_l7Number_r1_H 31 Tryd.f31.results.toList (bodyOf Tryd.f31) [] (spec_l7Number_r1_arg.mk' x) spec_l7Number_r1_res := fun x => by kernel_rfl
theorem spec_l7Number_r1_ok : spec_l7Number_r1_C.Ok E0 := fn_ok (T := spec_l7Number_r1_T) (h := spec_l7Number_r1_H) (Ls := spec_l7Number_r1_Ls) E0_mixed (T_cons spec_l7Number_r2_ok T_nil) Tryd.func31 (bodyOf_some (by kernel_rfl)) (by kernel_rfl) (loops_of (ks := [0]) (by kernel_rfl) ⟨(loop_one (h := spec_l7Number_r1_H) (own := []) (head := spec_l7Number_r1_h0) (back := []) (exs := [(.exit 0, [])]) (res := spec_l7Number_r1_r0) (step := spec_l7Number_r1_s0) (by kernel_rfl) spec_l7Number_r1_l0), trivial⟩) spec_l7Number_r1_e
def spec_l7Number_arg : Sh := ⟨[(0, .c (.int .i64))], [], []⟩
def spec_l7Number_res : List Sh := [⟨[(0, .c (.str))], [], []⟩]
noncomputable def spec_l7Number_s0 (x : (Int × ByteArray × Unit) × Unit × Unit) : Option (((Int × ByteArray × Unit) × Unit × Unit) ⊕ ((Int × ByteArray × Unit) × Unit × Unit)) :=
 let x14 : Bool := decide (x.1.1 > (9 : Int));
 br x14
 (let x15 : Int := x.1.1.tmod (10 : Int);
 let x16 : Int := w64 ((48 : Int) + x15);
 let x17 : Int := IntKind.u8.wrap x16;
 let x18 : ByteArray := ofBytes [x17];
 ck (((x18.size + x.1.2.1.size : Nat) : Int) ≤ IntKind.i64.max)
 (let x19 : ByteArray := x18 ++ x.1.2.1;
 let x20 : Int := w64 (x.1.1.tdiv (10 : Int));
 some (.inl ((x20, x19, ()), (), ()))))
 (some (.inr ((x.1.1, x.1.2.1, ()), (), ())))
def spec_l7Number_h0 : Sh := ⟨[(0, .c (.int .i64)), (3, .c (.str))], [], []⟩
def spec_l7Number_r0 : List Sh := [⟨[(0, .c (.int .i64)), (3, .c (.str))], [], []⟩]
noncomputable def spec_l7Number_L0 : Lp := ⟨0, [], spec_l7Number_h0, [], [(.exit 0, [])], spec_l7Number_r0, loopC spec_l7Number_s0⟩
noncomputable def spec_l7Number (a0 : Int) : Option ((ByteArray × Unit) × Unit × Unit) :=
 let x1 : Bool := decide (a0 < (0 : Int));
 br x1
 (let x2 : Bool := decide (a0 > (-10 : Int));
 br x2
 (let x3 : Int := w64 ((48 : Int) - a0);
 let x4 : Int := IntKind.u8.wrap x3;
 let x5 : ByteArray := ofBytes [x4];
 ck ((((ByteArray.mk #[45]).size + x5.size : Nat) : Int) ≤ IntKind.i64.max)
 (let x6 : ByteArray := (ByteArray.mk #[45]) ++ x5;
 some ((x6, ()), (), ())))
 (let x7 : Int := w64 (a0.tdiv (10 : Int));
 let x8 : Int := a0.tmod (10 : Int);
 let x9 : Int := w64 ((48 : Int) - x8);
 let x10 : Int := IntKind.u8.wrap x9;
 both ((spec_l7Number_r1 x7).bind fun r11 =>
 let x12 : ByteArray := ofBytes [x10];
 ck (((r11.1.1.size + x12.size : Nat) : Int) ≤ IntKind.i64.max)
 (let x13 : ByteArray := r11.1.1 ++ x12;
 some ((x13, ()), (), ())))
 ((both ((spec_l7Number_r1 x7).bind fun r11 =>
 let x12 : ByteArray := ofBytes [x10];
 ck (((r11.1.1.size + x12.size : Nat) : Int) ≤ IntKind.i64.max)
 (let x13 : ByteArray := r11.1.1 ++ x12;
 some ((x13, ()), (), ())))
 ((let x11 : ByteArray := ofBytes [x10];
 (spec_l7Number_r1 x7).bind fun r12 =>
 ck (((r12.1.1.size + x11.size : Nat) : Int) ≤ IntKind.i64.max)
 (let x13 : ByteArray := r12.1.1 ++ x11;
 some ((x13, ()), (), ()))))))))
 ((loopC spec_l7Number_s0 ((a0, ByteArray.empty, ()), (), ())).bind fun r21 =>
 let x22 : Int := w64 ((48 : Int) + r21.1.1);
 let x23 : Int := IntKind.u8.wrap x22;
 let x24 : ByteArray := ofBytes [x23];
 ck (((x24.size + r21.1.2.1.size : Nat) : Int) ≤ IntKind.i64.max)
 (let x25 : ByteArray := x24 ++ r21.1.2.1;
 some ((x25, ()), (), ())))
noncomputable def spec_l7Number_C : Ctr := ⟨31, spec_l7Number_arg, spec_l7Number_res, fun x => spec_l7Number x.1.1, none⟩
def spec_l7Number_H : Hint := ⟨[], [], [], fun _ => []⟩
noncomputable def spec_l7Number_T : List Ctr := [spec_l7Number_r1_C]
noncomputable def spec_l7Number_Ls : List Lp := [spec_l7Number_L0]
theorem spec_l7Number_l0 : ∀ x, spec_l7Number_s0 x = stepW E0 spec_l7Number_T spec_l7Number_Ls spec_l7Number_H (loopAt (bodyOf Tryd.f31) 0) 0 spec_l7Number_h0 [] [(.exit 0, [])] spec_l7Number_r0 x := fun x => by kernel_rfl
theorem spec_l7Number_e : ∀ x, spec_l7Number_C.F x = runBodyW E0 spec_l7Number_T spec_l7Number_Ls spec_l7Number_H 31 Tryd.f31.results.toList (bodyOf Tryd.f31) [] (spec_l7Number_arg.mk' x) spec_l7Number_res := fun x => by kernel_rfl
theorem spec_l7Number_ok : spec_l7Number_C.Ok E0 := fn_ok (T := spec_l7Number_T) (h := spec_l7Number_H) (Ls := spec_l7Number_Ls) E0_mixed (T_cons spec_l7Number_r1_ok T_nil) Tryd.func31 (bodyOf_some (by kernel_rfl)) (by kernel_rfl) (loops_of (ks := [0]) (by kernel_rfl) ⟨(loop_one (h := spec_l7Number_H) (own := []) (head := spec_l7Number_h0) (back := []) (exs := [(.exit 0, [])]) (res := spec_l7Number_r0) (step := spec_l7Number_s0) (by kernel_rfl) spec_l7Number_l0), trivial⟩) spec_l7Number_e
def spec_l6Join_arg : Sh := ⟨[(0, .c (.rd [] .str))], [], []⟩
def spec_l6Join_res : List Sh := [⟨[(0, .c (.str))], [], []⟩]
noncomputable def spec_l6Join_s0 (x : (ByteArray × List ByteArray × Int × Int × Unit) × Unit × Unit) : Option (((ByteArray × List ByteArray × Int × Int × Unit) × Unit × Unit) ⊕ ((ByteArray × Unit) × Unit × Unit)) :=
 let x1 : Bool := decide (x.1.2.2.2.1 < x.1.2.2.1);
 br x1
 (ck (0 ≤ x.1.2.2.2.1)
 (ck (x.1.2.2.2.1.toNat < x.1.2.1.length)
 (let x2 : ByteArray := x.1.2.1.getD x.1.2.2.2.1.toNat ByteArray.empty;
 let x3 : Bool := decide (x.1.2.2.2.1 > (0 : Int));
 br x3
 (ck (((x.1.1.size + (ByteArray.mk #[32]).size : Nat) : Int) ≤ IntKind.i64.max)
 (let x4 : ByteArray := x.1.1 ++ (ByteArray.mk #[32]);
 ck (((x4.size + x2.size : Nat) : Int) ≤ IntKind.i64.max)
 (let x5 : ByteArray := x4 ++ x2;
 let x6 : Int := w64 (x.1.2.2.2.1 + (1 : Int));
 some (.inl ((x5, x.1.2.1, x.1.2.2.1, x6, ()), (), ())))))
 (ck (((x.1.1.size + x2.size : Nat) : Int) ≤ IntKind.i64.max)
 (let x7 : ByteArray := x.1.1 ++ x2;
 let x8 : Int := w64 (x.1.2.2.2.1 + (1 : Int));
 some (.inl ((x7, x.1.2.1, x.1.2.2.1, x8, ()), (), ())))))))
 (some (.inr ((x.1.1, ()), (), ())))
def spec_l6Join_h0 : Sh := ⟨[(3, .c (.str)), (6, .c (.rd [] .str)), (7, .c (.int .i64)), (8, .c (.int .i64))], [], []⟩
def spec_l6Join_r0 : List Sh := [⟨[(3, .c (.str))], [], []⟩]
noncomputable def spec_l6Join_L0 : Lp := ⟨0, [], spec_l6Join_h0, [], [(.exit 0, [])], spec_l6Join_r0, loopC spec_l6Join_s0⟩
noncomputable def spec_l6Join (a0 : List ByteArray) : Option ((ByteArray × Unit) × Unit × Unit) :=
 (loopC spec_l6Join_s0 ((ByteArray.empty, a0, (a0.length : Int), (0 : Int), ()), (), ())).bind fun r9 =>
 some ((r9.1.1, ()), (), ())
noncomputable def spec_l6Join_C : Ctr := ⟨32, spec_l6Join_arg, spec_l6Join_res, fun x => spec_l6Join x.1.1, none⟩
def spec_l6Join_H : Hint := ⟨[], [], [], fun _ => []⟩
noncomputable def spec_l6Join_T : List Ctr := []
noncomputable def spec_l6Join_Ls : List Lp := [spec_l6Join_L0]
theorem spec_l6Join_l0 : ∀ x, spec_l6Join_s0 x = stepW E0 spec_l6Join_T spec_l6Join_Ls spec_l6Join_H (loopAt (bodyOf Tryd.f32) 0) 0 spec_l6Join_h0 [] [(.exit 0, [])] spec_l6Join_r0 x := fun x => by kernel_rfl
theorem spec_l6Join_e : ∀ x, spec_l6Join_C.F x = runBodyW E0 spec_l6Join_T spec_l6Join_Ls spec_l6Join_H 32 Tryd.f32.results.toList (bodyOf Tryd.f32) [] (spec_l6Join_arg.mk' x) spec_l6Join_res := fun x => by kernel_rfl
theorem spec_l6Join_ok : spec_l6Join_C.Ok E0 := fn_ok (T := spec_l6Join_T) (h := spec_l6Join_H) (Ls := spec_l6Join_Ls) E0_mixed T_nil Tryd.func32 (bodyOf_some (by kernel_rfl)) (by kernel_rfl) (loops_of (ks := [0]) (by kernel_rfl) ⟨(loop_one (h := spec_l6Join_H) (own := []) (head := spec_l6Join_h0) (back := []) (exs := [(.exit 0, [])]) (res := spec_l6Join_r0) (step := spec_l6Join_s0) (by kernel_rfl) spec_l6Join_l0), trivial⟩) spec_l6Join_e
def spec_FormatNumbers_arg : Sh := ⟨[(0, .c (.rd [] .i64))], [], []⟩
def spec_FormatNumbers_res : List Sh := [⟨[(0, .c (.str))], [], []⟩]
noncomputable def spec_FormatNumbers_s0 (x : (Unit × List Int × Int × Int × Unit) × Unit × (List ByteArray × Unit)) : Option (((Unit × List Int × Int × Int × Unit) × Unit × (List ByteArray × Unit)) ⊕ ((Unit × Unit) × Unit × (List ByteArray × Unit))) :=
 let x1 : Bool := decide (x.1.2.2.2.1 < x.1.2.2.1);
 br x1
 (ck (0 ≤ x.1.2.2.2.1)
 (ck (x.1.2.2.2.1.toNat < x.1.2.1.length)
 (let x2 : Int := x.1.2.1.getD x.1.2.2.2.1.toNat 0;
 (spec_l7Number x2).bind fun r3 =>
 ck ((x.2.2.1.length + [r3.1.1].length) * 16 ≤ 140737488355328 ∧ (x.2.2.1.length + [r3.1.1].length) ≤ 9223372036854775807)
 (let x4 : List ByteArray := x.2.2.1 ++ [r3.1.1];
 let x5 : Int := w64 (x.1.2.2.2.1 + (1 : Int));
 some (.inl (((), x.1.2.1, x.1.2.2.1, x5, ()), (), (x4, ())))))))
 (some (.inr (((), ()), (), (x.2.2.1, ()))))
def spec_FormatNumbers_h0 : Sh := ⟨[(3, .c (.own 0)), (7, .c (.rd [] .i64)), (8, .c (.int .i64)), (9, .c (.int .i64))], [], [(0, .str)]⟩
def spec_FormatNumbers_r0 : List Sh := [⟨[(3, .c (.own 0))], [], [(0, .str)]⟩]
noncomputable def spec_FormatNumbers_L0 : Lp := ⟨0, [], spec_FormatNumbers_h0, [], [(.exit 0, [])], spec_FormatNumbers_r0, loopC spec_FormatNumbers_s0⟩
noncomputable def spec_FormatNumbers (a0 : List Int) : Option ((ByteArray × Unit) × Unit × Unit) :=
 (loopC spec_FormatNumbers_s0 (((), a0, (a0.length : Int), (0 : Int), ()), (), ([], ()))).bind fun r6 =>
 (spec_l6Join r6.2.2.1).bind fun r7 =>
 some ((r7.1.1, ()), (), ())
noncomputable def spec_FormatNumbers_C : Ctr := ⟨8, spec_FormatNumbers_arg, spec_FormatNumbers_res, fun x => spec_FormatNumbers x.1.1, none⟩
def spec_FormatNumbers_H : Hint := ⟨[], [], [], fun _ => []⟩
noncomputable def spec_FormatNumbers_T : List Ctr := [spec_l7Number_C, spec_l6Join_C]
noncomputable def spec_FormatNumbers_Ls : List Lp := [spec_FormatNumbers_L0]
theorem spec_FormatNumbers_l0 : ∀ x, spec_FormatNumbers_s0 x = stepW E0 spec_FormatNumbers_T spec_FormatNumbers_Ls spec_FormatNumbers_H (loopAt (bodyOf Tryd.f8) 0) 0 spec_FormatNumbers_h0 [] [(.exit 0, [])] spec_FormatNumbers_r0 x := fun x => by kernel_rfl
theorem spec_FormatNumbers_e : ∀ x, spec_FormatNumbers_C.F x = runBodyW E0 spec_FormatNumbers_T spec_FormatNumbers_Ls spec_FormatNumbers_H 8 Tryd.f8.results.toList (bodyOf Tryd.f8) [] (spec_FormatNumbers_arg.mk' x) spec_FormatNumbers_res := fun x => by kernel_rfl
theorem spec_FormatNumbers_ok : spec_FormatNumbers_C.Ok E0 := fn_ok (T := spec_FormatNumbers_T) (h := spec_FormatNumbers_H) (Ls := spec_FormatNumbers_Ls) E0_mixed (T_cons spec_l7Number_ok (T_cons spec_l6Join_ok T_nil)) Tryd.func8 (bodyOf_some (by kernel_rfl)) (by kernel_rfl) (loops_of (ks := [0]) (by kernel_rfl) ⟨(loop_one (h := spec_FormatNumbers_H) (own := []) (head := spec_FormatNumbers_h0) (back := []) (exs := [(.exit 0, [])]) (res := spec_FormatNumbers_r0) (step := spec_FormatNumbers_s0) (by kernel_rfl) spec_FormatNumbers_l0), trivial⟩) spec_FormatNumbers_e
def strconv_Itoa_arg : Sh := ⟨[(0, .c (.int .i64))], [], []⟩
def strconv_Itoa_res : List Sh := [⟨[(0, .c (.str))], [], []⟩]
def strconv_Itoa (n : Int) : Option ((ByteArray × Unit) × Unit × Unit) := itoaF n
noncomputable def strconv_Itoa_C : Ctr := ⟨33, strconv_Itoa_arg, strconv_Itoa_res, fun x => strconv_Itoa x.1.1, some 1⟩
end Go.Tree
namespace Go.Proofs
section
open Go Go.Shelf Go.RowKit Go.Lib Go.Tree Go.Sort
def Tryd.laysM171_ren : Go.Shelf.Ren := ⟨fun | 171 => 33 | 243 => 54 | 246 => 72 | 283 => 99 | 284 => 100 | 285 => 101 | 286 => 102 | 129 => 119 | 317 => 118 | 318 => 120 | 319 => 121 | 320 => 122 | 337 => 130 | 338 => 131 | n => n, fun | 3 => 3 | 9 => 9 | 2 => 2 | 4 => 4 | 171 => 111 | 0 => 0 | 53 => 112 | 37 => 31 | 5 => 5 | 173 => 115 | 212 => 134 | 51 => 135 | 20 => 20 | 213 => 136 | 46 => 100 | 232 => 149 | 233 => 150 | n => n, fun | 17 => 2 | 18 => 6 | 19 => 7 | n => n⟩
theorem Tryd.laysM171 : Go.Proofs.LaysM.n171 Tryd.prog Tryd.laysM171_ren := {
  mixed := by kernel_rfl
  f129 := Tryd.func119.trans (congrArg some (by kernel_rfl))
  f171 := Tryd.func33.trans (congrArg some (by kernel_rfl))
  f243 := Tryd.func54.trans (congrArg some (by kernel_rfl))
  f246 := Tryd.func72.trans (congrArg some (by kernel_rfl))
  f283 := Tryd.func99.trans (congrArg some (by kernel_rfl))
  f284 := Tryd.func100.trans (congrArg some (by kernel_rfl))
  f285 := Tryd.func101.trans (congrArg some (by kernel_rfl))
  f286 := Tryd.func102.trans (congrArg some (by kernel_rfl))
  f317 := Tryd.func118.trans (congrArg some (by kernel_rfl))
  f318 := Tryd.func120.trans (congrArg some (by kernel_rfl))
  f319 := Tryd.func121.trans (congrArg some (by kernel_rfl))
  f320 := Tryd.func122.trans (congrArg some (by kernel_rfl))
  f337 := Tryd.func130.trans (congrArg some (by kernel_rfl))
  f338 := Tryd.func131.trans (congrArg some (by kernel_rfl))
  t0 := Tryd.underlying0
  a0 := Tryd.isAgg0
  z0 := Tryd.sizeOf0
  v0 := Tryd.zeroValue0
  t2 := Tryd.underlying2
  a2 := Tryd.isAgg2
  z2 := Tryd.sizeOf2
  v2 := Tryd.zeroValue2
  t3 := Tryd.underlying3
  a3 := Tryd.isAgg3
  z3 := Tryd.sizeOf3
  v3 := Tryd.zeroValue3
  t4 := Tryd.underlying4
  a4 := Tryd.isAgg4
  z4 := Tryd.sizeOf4
  v4 := Tryd.zeroValue4
  t5 := Tryd.underlying5
  a5 := Tryd.isAgg5
  z5 := Tryd.sizeOf5
  v5 := Tryd.zeroValue5
  t9 := Tryd.underlying9
  a9 := Tryd.isAgg9
  z9 := Tryd.sizeOf9
  v9 := Tryd.zeroValue9
  t20 := Tryd.underlying20
  a20 := Tryd.isAgg20
  z20 := Tryd.sizeOf20
  v20 := Tryd.zeroValue20
  t37 := Tryd.underlying31
  a37 := Tryd.isAgg31
  z37 := Tryd.sizeOf31
  v37 := Tryd.zeroValue31
  t46 := Tryd.underlying100
  a46 := Tryd.isAgg100
  z46 := Tryd.sizeOf100
  v46 := Tryd.zeroValue100
  t51 := Tryd.underlying135
  a51 := Tryd.isAgg135
  z51 := Tryd.sizeOf135
  v51 := Tryd.zeroValue135
  t53 := Tryd.underlying112
  a53 := Tryd.isAgg112
  z53 := Tryd.sizeOf112
  v53 := Tryd.zeroValue112
  t171 := Tryd.underlying111
  a171 := Tryd.isAgg111
  z171 := Tryd.sizeOf111
  v171 := Tryd.zeroValue111
  t173 := Tryd.underlying115
  a173 := Tryd.isAgg115
  z173 := Tryd.sizeOf115
  v173 := Tryd.zeroValue115
  t212 := Tryd.underlying134
  a212 := Tryd.isAgg134
  z212 := Tryd.sizeOf134
  v212 := Tryd.zeroValue134
  t213 := Tryd.underlying136
  a213 := Tryd.isAgg136
  z213 := Tryd.sizeOf136
  t232 := Tryd.underlying149
  a232 := Tryd.isAgg149
  z232 := Tryd.sizeOf149
  v232 := Tryd.zeroValue149
  t233 := Tryd.underlying150
  a233 := Tryd.isAgg150
  z233 := Tryd.sizeOf150
  v233 := Tryd.zeroValue150
  g17 := by kernel_rfl
  g18 := by kernel_rfl
  g19 := by kernel_rfl
  i0 := by kernel_rfl
  i2 := by kernel_rfl
  i3 := by kernel_rfl
  i4 := by kernel_rfl
  i5 := by kernel_rfl
  i9 := by kernel_rfl
  i20 := by kernel_rfl
  i37 := by kernel_rfl
  i46 := by kernel_rfl
  i51 := by kernel_rfl
  i53 := by kernel_rfl
  i171 := by kernel_rfl
  i173 := by kernel_rfl
  i212 := by kernel_rfl
  i232 := by kernel_rfl
  i233 := by kernel_rfl
  m17 := by kernel_rfl
  m18 := by kernel_rfl
  m19 := by kernel_rfl }
theorem Tryd.strconv_Itoa (n : Int) (h0 : -9223372036854775808 ≤ n) (h1 : n ≤ 9223372036854775807) (w : World) (htab : Lib.TabIs Tryd.prog w "internal/strconv.uint64pow10" .u64 Lib.pow10Tab) :
    Calls Tryd.prog 33 #[.int .i64 n] w fun e w' => e = .returned (.string ⟨(Lib.itoa n).toArray⟩) ∧ ∃ k os, w' = grow (w.drewN k) os := Any.strconv_Itoa Tryd.laysM171 n h0 h1 w htab
end
end Go.Proofs
namespace Go.Tree
open Go Go.Proofs
set_option linter.unusedVariables false
set_option maxRecDepth 100000
theorem strconv_Itoa_ok : strconv_Itoa_C.Ok E0 := itoa_ok (E := E0) (by kernel_rfl) (by kernel_rfl) (fun _ h => h.1) Go.Proofs.Tryd.strconv_Itoa
def strings_Join_arg : Sh := ⟨[(0, .c (.rd [] .str)), (1, .c (.str))], [], []⟩
def strings_Join_res : List Sh := [⟨[(0, .c (.str))], [], []⟩]
def strings_Join (l : List ByteArray) (s : ByteArray) : Option ((ByteArray × Unit) × Unit × Unit) := joinF l s
noncomputable def strings_Join_C : Ctr := ⟨34, strings_Join_arg, strings_Join_res, fun x => strings_Join x.1.1 x.1.2.1, some 2⟩
end Go.Tree
namespace Go.Proofs
section
open Go Go.Shelf Go.RowKit Go.Lib Go.Tree Go.Sort
def Tryd.lays156_ren : Go.Shelf.Ren := ⟨fun | 156 => 34 | 165 => 55 | 166 => 56 | 169 => 57 | 240 => 73 | 241 => 74 | 276 => 103 | 277 => 104 | n => n, fun | 31 => 46 | 9 => 9 | 3 => 3 | 4 => 4 | 0 => 0 | 20 => 20 | 72 => 77 | 76 => 62 | 70 => 75 | 37 => 31 | 75 => 61 | 127 => 91 | 164 => 117 | 5 => 5 | 80 => 79 | n => n, fun | n => n⟩
theorem Tryd.lays156 : Go.Proofs.Lays.n156 Tryd.prog Tryd.lays156_ren := {
  mixed := by kernel_rfl
  f156 := Tryd.func34.trans (congrArg some (by kernel_rfl))
  f165 := Tryd.func55.trans (congrArg some (by kernel_rfl))
  f166 := Tryd.func56.trans (congrArg some (by kernel_rfl))
  f169 := Tryd.func57.trans (congrArg some (by kernel_rfl))
  f240 := Tryd.func73.trans (congrArg some (by kernel_rfl))
  f241 := Tryd.func74.trans (congrArg some (by kernel_rfl))
  f276 := Tryd.func103.trans (congrArg some (by kernel_rfl))
  f277 := Tryd.func104.trans (congrArg some (by kernel_rfl))
  t0 := Tryd.underlying0
  a0 := Tryd.isAgg0
  z0 := Tryd.sizeOf0
  v0 := Tryd.zeroValue0
  t3 := Tryd.underlying3
  a3 := Tryd.isAgg3
  z3 := Tryd.sizeOf3
  v3 := Tryd.zeroValue3
  t4 := Tryd.underlying4
  a4 := Tryd.isAgg4
  z4 := Tryd.sizeOf4
  v4 := Tryd.zeroValue4
  t9 := Tryd.underlying9
  a9 := Tryd.isAgg9
  z9 := Tryd.sizeOf9
  v9 := Tryd.zeroValue9
  t20 := Tryd.underlying20
  a20 := Tryd.isAgg20
  z20 := Tryd.sizeOf20
  v20 := Tryd.zeroValue20
  t31 := Tryd.underlying46
  a31 := Tryd.isAgg46
  z31 := Tryd.sizeOf46
  v31 := Tryd.zeroValue46
  t37 := Tryd.underlying31
  a37 := Tryd.isAgg31
  z37 := Tryd.sizeOf31
  v37 := Tryd.zeroValue31
  t70 := Tryd.underlying75
  a70 := Tryd.isAgg75
  z70 := Tryd.sizeOf75
  v70 := Tryd.zeroValue75
  t72 := Tryd.underlying77
  a72 := Tryd.isAgg77
  z72 := Tryd.sizeOf77
  v72 := Tryd.zeroValue77
  t75 := Tryd.underlying61
  a75 := Tryd.isAgg61
  z75 := Tryd.sizeOf61
  v75 := Tryd.zeroValue61
  t76 := Tryd.underlying62
  a76 := Tryd.isAgg62
  z76 := Tryd.sizeOf62
  v76 := Tryd.zeroValue62
  t127 := Tryd.underlying91
  a127 := Tryd.isAgg91
  z127 := Tryd.sizeOf91
  v127 := Tryd.zeroValue91
  t164 := Tryd.underlying117
  a164 := Tryd.isAgg117
  z164 := Tryd.sizeOf117
  v164 := Tryd.zeroValue117 }
theorem Tryd.Builder_Extra_156 : Builder.Extra Tryd.prog Tryd.lays156_ren := {
  sizeBuilder := by kernel_rfl
  liesBuilder := by kernel_rfl
  t5 := Tryd.underlying5
  a5 := Tryd.isAgg5
  z5 := Tryd.sizeOf5
  v5 := Tryd.zeroValue5
  infoByte := by kernel_rfl
  cellsByte := by kernel_rfl
  sizeByte := by kernel_rfl
  neB5 := by decide }
theorem Tryd.strings_Join_none (a : Option Addr) (c : Nat) (sep : ByteArray) (w : World) :
    Calls Tryd.prog 34 #[.slice a 0 c, .string sep] w fun e w' => e = .returned (.string ⟨#[]⟩) ∧ w' = w := Any.strings_Join_none Tryd.lays156 Tryd.Builder_Extra_156 a c sep w
theorem Tryd.strings_Join (bk o c : Nat) (xs : List ByteArray) (sep : ByteArray) (w : World) (hcells : ∀ (j : Nat) x, xs[j]? = some x → w.cell? ⟨bk, o + j, none⟩ = some (.string x)) (hbk : bk < w.heap.size) (hN : xs.length ≤ 140737488355328) (hcap : xs.length ≤ c) (hlen : (Lib.join (xs.map (·.data.toList)) sep.data.toList).length ≤ 140737488355328) :
    Calls Tryd.prog 34 #[.slice (some ⟨bk, o, none⟩) xs.length c, .string sep] w fun e w' => e = .returned (.string ⟨(Lib.join (xs.map (·.data.toList)) sep.data.toList).toArray⟩) ∧ Below w.heap.size w w' := Any.strings_Join Tryd.lays156 Tryd.Builder_Extra_156 bk o c xs sep w hcells hbk hN hcap hlen
end
end Go.Proofs
namespace Go.Tree
open Go Go.Proofs
set_option linter.unusedVariables false
set_option maxRecDepth 100000
theorem strings_Join_ok : strings_Join_C.Ok E0 := join_ok (E := E0) (by kernel_rfl) (by kernel_rfl) Go.Proofs.Tryd.strings_Join_none Go.Proofs.Tryd.strings_Join
def impl_FormatNumbers_arg : Sh := ⟨[(0, .c (.rd [] .i64))], [], []⟩
def impl_FormatNumbers_res : List Sh := [⟨[(0, .c (.str))], [], []⟩]
noncomputable def impl_FormatNumbers_s0 (x : (Unit × List Int × Int × Int × Unit) × Unit × (List ByteArray × Unit)) : Option (((Unit × List Int × Int × Int × Unit) × Unit × (List ByteArray × Unit)) ⊕ ((Unit × Unit) × Unit × (List ByteArray × Unit))) :=
 let x1 : Bool := decide (x.1.2.2.2.1 < x.1.2.2.1);
 br x1
 (ck (0 ≤ x.1.2.2.2.1)
 (ck (x.1.2.2.2.1.toNat < x.1.2.1.length)
 (let x2 : Int := x.1.2.1.getD x.1.2.2.2.1.toNat 0;
 (strconv_Itoa x2).bind fun r3 =>
 ck ((x.2.2.1.length + [r3.1.1].length) * 16 ≤ 140737488355328 ∧ (x.2.2.1.length + [r3.1.1].length) ≤ 9223372036854775807)
 (let x4 : List ByteArray := x.2.2.1 ++ [r3.1.1];
 let x5 : Int := w64 (x.1.2.2.2.1 + (1 : Int));
 some (.inl (((), x.1.2.1, x.1.2.2.1, x5, ()), (), (x4, ())))))))
 (some (.inr (((), ()), (), (x.2.2.1, ()))))
def impl_FormatNumbers_h0 : Sh := ⟨[(3, .c (.own 0)), (7, .c (.rd [] .i64)), (8, .c (.int .i64)), (9, .c (.int .i64))], [], [(0, .str)]⟩
def impl_FormatNumbers_r0 : List Sh := [⟨[(3, .c (.own 0))], [], [(0, .str)]⟩]
noncomputable def impl_FormatNumbers_L0 : Lp := ⟨0, [], impl_FormatNumbers_h0, [], [(.exit 0, [])], impl_FormatNumbers_r0, loopC impl_FormatNumbers_s0⟩
noncomputable def impl_FormatNumbers (a0 : List Int) : Option ((ByteArray × Unit) × Unit × Unit) :=
 (loopC impl_FormatNumbers_s0 (((), a0, (a0.length : Int), (0 : Int), ()), (), ([], ()))).bind fun r6 =>
 (strings_Join r6.2.2.1 (ByteArray.mk #[32])).bind fun r7 =>
 some ((r7.1.1, ()), (), ())
noncomputable def impl_FormatNumbers_C : Ctr := ⟨10, impl_FormatNumbers_arg, impl_FormatNumbers_res, fun x => impl_FormatNumbers x.1.1, none⟩
def impl_FormatNumbers_H : Hint := ⟨[], [], [], fun _ => []⟩
noncomputable def impl_FormatNumbers_T : List Ctr := [strconv_Itoa_C, strings_Join_C]
noncomputable def impl_FormatNumbers_Ls : List Lp := [impl_FormatNumbers_L0]
theorem impl_FormatNumbers_l0 : ∀ x, impl_FormatNumbers_s0 x = stepW E0 impl_FormatNumbers_T impl_FormatNumbers_Ls impl_FormatNumbers_H (loopAt (bodyOf Tryd.f10) 0) 0 impl_FormatNumbers_h0 [] [(.exit 0, [])] impl_FormatNumbers_r0 x := fun x => by kernel_rfl
theorem impl_FormatNumbers_e : ∀ x, impl_FormatNumbers_C.F x = runBodyW E0 impl_FormatNumbers_T impl_FormatNumbers_Ls impl_FormatNumbers_H 10 Tryd.f10.results.toList (bodyOf Tryd.f10) [] (impl_FormatNumbers_arg.mk' x) impl_FormatNumbers_res := fun x => by kernel_rfl
theorem impl_FormatNumbers_ok : impl_FormatNumbers_C.Ok E0 := fn_ok (T := impl_FormatNumbers_T) (h := impl_FormatNumbers_H) (Ls := impl_FormatNumbers_Ls) E0_mixed (T_cons strconv_Itoa_ok (T_cons strings_Join_ok T_nil)) Tryd.func10 (bodyOf_some (by kernel_rfl)) (by kernel_rfl) (loops_of (ks := [0]) (by kernel_rfl) ⟨(loop_one (h := impl_FormatNumbers_H) (own := []) (head := impl_FormatNumbers_h0) (back := []) (exs := [(.exit 0, [])]) (res := impl_FormatNumbers_r0) (step := impl_FormatNumbers_s0) (by kernel_rfl) impl_FormatNumbers_l0), trivial⟩) impl_FormatNumbers_e
def laws_eqIntS_arg : Sh := ⟨[(0, .c (.rd [] .i64)), (1, .c (.rd [] .i64))], [], []⟩
def laws_eqIntS_res : List Sh := [⟨[(0, .c (.bool))], [], []⟩]
noncomputable def laws_eqIntS_s0 (x : (List Int × List Int × Int × Unit) × Unit × Unit) : Option (((List Int × List Int × Int × Unit) × Unit × Unit) ⊕ (((Bool × Unit) × Unit × Unit) ⊕ (Unit × Unit × Unit))) :=
 let x2 : Bool := decide (x.1.2.2.1 < (x.1.1.length : Int));
 br x2
 (ck (0 ≤ x.1.2.2.1)
 (ck (x.1.2.2.1.toNat < x.1.1.length)
 (let x3 : Int := x.1.1.getD x.1.2.2.1.toNat 0;
 ck (0 ≤ x.1.2.2.1)
 (ck (x.1.2.2.1.toNat < x.1.2.1.length)
 (let x4 : Int := x.1.2.1.getD x.1.2.2.1.toNat 0;
 let x5 : Bool := x3 != x4;
 br x5
 (some (.inr (.inl ((false, ()), (), ()))))
 (let x6 : Int := w64 (x.1.2.2.1 + (1 : Int));
 some (.inl ((x.1.1, x.1.2.1, x6, ()), (), ()))))))))
 (some (.inr (.inr ((), (), ()))))
def laws_eqIntS_h0 : Sh := ⟨[(0, .c (.rd [] .i64)), (1, .c (.rd [] .i64)), (5, .c (.int .i64))], [], []⟩
def laws_eqIntS_r0 : List Sh := [⟨[(4, .c (.bool))], [], []⟩, ⟨[], [], []⟩]
noncomputable def laws_eqIntS_L0 : Lp := ⟨0, [], laws_eqIntS_h0, [], [(.ret, []), (.exit 0, [])], laws_eqIntS_r0, loopC laws_eqIntS_s0⟩
noncomputable def laws_eqIntS (a0 : List Int) (a1 : List Int) : Option ((Bool × Unit) × Unit × Unit) :=
 let x1 : Bool := (a0.length : Int) != (a1.length : Int);
 br x1
 (some ((false, ()), (), ()))
 ((loopC laws_eqIntS_s0 ((a0, a1, (0 : Int), ()), (), ())).bind fun r7 =>
 sumK r7 (fun y10 =>
 some ((y10.1.1, ()), (), ())) (fun y11 =>
 some ((true, ()), (), ())))
noncomputable def laws_eqIntS_C : Ctr := ⟨11, laws_eqIntS_arg, laws_eqIntS_res, fun x => laws_eqIntS x.1.1 x.1.2.1, none⟩
def laws_eqIntS_H : Hint := ⟨[], [], [], fun _ => []⟩
noncomputable def laws_eqIntS_T : List Ctr := []
noncomputable def laws_eqIntS_Ls : List Lp := [laws_eqIntS_L0]
theorem laws_eqIntS_l0 : ∀ x, laws_eqIntS_s0 x = stepW E0 laws_eqIntS_T laws_eqIntS_Ls laws_eqIntS_H (loopAt (bodyOf Tryd.f11) 0) 0 laws_eqIntS_h0 [] [(.ret, []), (.exit 0, [])] laws_eqIntS_r0 x := fun x => by kernel_rfl
theorem laws_eqIntS_e : ∀ x, laws_eqIntS_C.F x = runBodyW E0 laws_eqIntS_T laws_eqIntS_Ls laws_eqIntS_H 11 Tryd.f11.results.toList (bodyOf Tryd.f11) [] (laws_eqIntS_arg.mk' x) laws_eqIntS_res := fun x => by kernel_rfl
theorem laws_eqIntS_ok : laws_eqIntS_C.Ok E0 := fn_ok (T := laws_eqIntS_T) (h := laws_eqIntS_H) (Ls := laws_eqIntS_Ls) E0_mixed T_nil Tryd.func11 (bodyOf_some (by kernel_rfl)) (by kernel_rfl) (loops_of (ks := [0]) (by kernel_rfl) ⟨(loop_one (h := laws_eqIntS_H) (own := []) (head := laws_eqIntS_h0) (back := []) (exs := [(.ret, []), (.exit 0, [])]) (res := laws_eqIntS_r0) (step := laws_eqIntS_s0) (by kernel_rfl) laws_eqIntS_l0), trivial⟩) laws_eqIntS_e
def laws_FnExactFormatNumbers_arg : Sh := ⟨[(0, .c (.rd [] .i64))], [], []⟩
def laws_FnExactFormatNumbers_res : List Sh := [⟨[(0, .c (.bool))], [], []⟩]
noncomputable def laws_FnExactFormatNumbers (a0 : List Int) : Option ((Bool × Unit) × Unit × Unit) :=
 let x1 : Bool := decide ((a0.length : Int) > (1048576 : Int));
 br x1
 (some ((true, ()), (), ()))
 ((laws_toIntS a0).bind fun r2 =>
 (spec_FormatNumbers r2.2.2.1).bind fun r3 =>
 (laws_toIntS a0).bind fun r4 =>
 (impl_FormatNumbers r4.2.2.1).bind fun r5 =>
 let x6 : Bool := !strEq r5.1.1 r3.1.1;
 br x6
 (some ((false, ()), (), ()))
 ((laws_toIntS a0).bind fun r7 =>
 (laws_eqIntS r4.2.2.1 r7.2.2.1).bind fun r8 =>
 br (!r8.1.1)
 (some ((false, ()), (), ()))
 (some ((true, ()), (), ()))))
noncomputable def laws_FnExactFormatNumbers_C : Ctr := ⟨3, laws_FnExactFormatNumbers_arg, laws_FnExactFormatNumbers_res, fun x => laws_FnExactFormatNumbers x.1.1, none⟩
def laws_FnExactFormatNumbers_H : Hint := ⟨[], [], [], fun _ => []⟩
noncomputable def laws_FnExactFormatNumbers_T : List Ctr := [laws_toIntS_C, spec_FormatNumbers_C, impl_FormatNumbers_C, laws_eqIntS_C]
noncomputable def laws_FnExactFormatNumbers_Ls : List Lp := []
theorem laws_FnExactFormatNumbers_e : ∀ x, laws_FnExactFormatNumbers_C.F x = runBodyW E0 laws_FnExactFormatNumbers_T laws_FnExactFormatNumbers_Ls laws_FnExactFormatNumbers_H 3 Tryd.f3.results.toList (bodyOf Tryd.f3) [] (laws_FnExactFormatNumbers_arg.mk' x) laws_FnExactFormatNumbers_res := fun x => by kernel_rfl
theorem laws_FnExactFormatNumbers_ok : laws_FnExactFormatNumbers_C.Ok E0 := fn_ok (T := laws_FnExactFormatNumbers_T) (h := laws_FnExactFormatNumbers_H) (Ls := laws_FnExactFormatNumbers_Ls) E0_mixed (T_cons laws_toIntS_ok (T_cons spec_FormatNumbers_ok (T_cons impl_FormatNumbers_ok (T_cons laws_eqIntS_ok T_nil)))) Tryd.func3 (bodyOf_some (by kernel_rfl)) (by kernel_rfl) (loops_of (ks := []) (by kernel_rfl) trivial) laws_FnExactFormatNumbers_e
end Go.Tree
