/- What each function that the law FnExactMarksOf reaches computes, as a plain function, and the proof that the program's code computes it. No condition but the function's own answer. -/
import Derived.Test.YtfgeijlcmepdlaaK8
import Derived.Shelf.Strings.Repeat
import Derived.Test.YtfgeijlcmepdlaaProg
import Derived.KernelRfl
namespace Go.Tree
open Go Go.Proofs
set_option linter.unusedVariables false
set_option maxRecDepth 100000
noncomputable def E0 : Env := { P := Try.prog, hint := fun _ => ⟨[], [], [], fun _ => []⟩, mode := fun f => ([0, 0, 0, 0, 0, 0, 0, 0, 0, 0, 0, 0, 0, 0, 0, 0, 0, 0, 0, 0, 0, 0, 0, 0, 0, 0, 0, 0, 0, 0, 0, 0, 0, 0, 0, 0, 0, 0, 0, 0, 0, 0, 0, 0, 1, 0, 0, 0, 0, 0, 0, 0, 0, 0, 0, 0, 0, 0, 1, 1, 0, 0, 0, 0, 0, 0, 0, 0, 0, 0, 1, 0, 0, 0, 1, 1, 1, 0, 0, 1, 0, 0, 0, 0, 0, 0, 0, 0, 0, 0, 0, 0, 0, 1, 0, 0, 0, 0, 0, 0, 1, 0, 0, 1, 0, 0, 0, 0, 0, 0, 1, 1, 1, 0, 0, 0, 0, 0, 0, 1, 1, 0, 0, 0, 0, 0, 0, 0, 0, 0, 0, 0, 0, 0, 0, 0, 0, 0, 0, 0, 0, 0, 0, 0, 0, 0, 0, 0, 0, 0, 0, 0, 0] : List Nat).getD f 0, nres := fun f => ([0, 0, 0, 1, 1, 1, 1, 1, 1, 1, 1, 2, 1, 2, 4, 2, 1, 1, 1, 2, 1, 1, 1, 3, 2, 1, 1, 2, 3, 1, 2, 1, 3, 1, 1, 1, 1, 4, 1, 1, 1, 1, 3, 1, 1, 1, 2, 1, 1, 1, 1, 1, 1, 1, 1, 1, 1, 1, 1, 1, 1, 1, 1, 1, 1, 1, 1, 1, 1, 1, 1, 1, 1, 1, 1, 1, 2, 1, 3, 2, 1, 1, 1, 1, 2, 3, 1, 1, 2, 1, 1, 1, 1, 1, 1, 1, 1, 2, 1, 1, 1, 1, 1, 1, 2, 1, 0, 2, 1, 1, 1, 1, 1, 1, 1, 1, 1, 1, 1, 1, 1, 2, 1, 2, 2, 1, 0, 0, 1, 1, 1, 1, 1, 1, 1, 1, 1, 0, 1, 0, 1, 0, 1, 0, 1, 0, 1, 0, 1, 1, 0, 0, 1] : List Nat).getD f 0 }
theorem E0_mixed : E0.P.follows .mixedOrders = true := by kernel_rfl
def laws_szStringS_arg : Sh := ⟨[(0, .c (.rd [] .str)), (1, .c (.int .i64))], [], []⟩
def laws_szStringS_res : List Sh := [⟨[(0, .c (.int .i64))], [], []⟩]
noncomputable def laws_szStringS_s0 (x : (List ByteArray × Int × Int × Unit) × Unit × Unit) : Option (((List ByteArray × Int × Int × Unit) × Unit × Unit) ⊕ (((Int × Unit) × Unit × Unit) ⊕ ((Int × Unit) × Unit × Unit))) :=
 let x3 : Bool := decide (x.1.2.2.1 < (x.1.1.length : Int));
 br x3
 (ck (0 ≤ x.1.2.2.1)
 (ck (x.1.2.2.1.toNat < x.1.1.length)
 (let x4 : ByteArray := x.1.1.getD x.1.2.2.1.toNat ByteArray.empty;
 let x5 : Int := w64 (x.1.2.1 - (x4.size : Int));
 let x6 : Bool := decide (x5 < (0 : Int));
 br x6
 (some (.inr (.inl (((-1 : Int), ()), (), ()))))
 (let x7 : Int := w64 (x.1.2.2.1 + (1 : Int));
 some (.inl ((x.1.1, x5, x7, ()), (), ()))))))
 (some (.inr (.inr ((x.1.2.1, ()), (), ()))))
def laws_szStringS_h0 : Sh := ⟨[(0, .c (.rd [] .str)), (1, .c (.int .i64)), (5, .c (.int .i64))], [], []⟩
def laws_szStringS_r0 : List Sh := [⟨[(4, .c (.int .i64))], [], []⟩, ⟨[(1, .c (.int .i64))], [], []⟩]
noncomputable def laws_szStringS_L0 : Lp := ⟨0, [], laws_szStringS_h0, [], [(.ret, []), (.exit 0, [])], laws_szStringS_r0, loopC laws_szStringS_s0⟩
noncomputable def laws_szStringS (a0 : List ByteArray) (a1 : Int) : Option ((Int × Unit) × Unit × Unit) :=
 let x1 : Int := w64 (a1 - (a0.length : Int));
 let x2 : Bool := decide (x1 < (0 : Int));
 br x2
 (some (((-1 : Int), ()), (), ()))
 ((loopC laws_szStringS_s0 ((a0, x1, (0 : Int), ()), (), ())).bind fun r8 =>
 sumK r8 (fun y11 =>
 some ((y11.1.1, ()), (), ())) (fun y12 =>
 some ((y12.1.1, ()), (), ())))
noncomputable def laws_szStringS_C : Ctr := ⟨33, laws_szStringS_arg, laws_szStringS_res, fun x => laws_szStringS x.1.1 x.1.2.1, none⟩
def laws_szStringS_H : Hint := ⟨[], [], [], fun _ => []⟩
noncomputable def laws_szStringS_T : List Ctr := []
noncomputable def laws_szStringS_Ls : List Lp := [laws_szStringS_L0]
theorem laws_szStringS_l0 : ∀ x, laws_szStringS_s0 x = stepW E0 laws_szStringS_T laws_szStringS_Ls laws_szStringS_H (loopAt (bodyOf Try.f33) 0) 0 laws_szStringS_h0 [] [(.ret, []), (.exit 0, [])] laws_szStringS_r0 x := fun x => by kernel_rfl
theorem laws_szStringS_e : ∀ x, laws_szStringS_C.F x = runBodyW E0 laws_szStringS_T laws_szStringS_Ls laws_szStringS_H 33 Try.f33.results.toList (bodyOf Try.f33) [] (laws_szStringS_arg.mk' x) laws_szStringS_res := fun x => by kernel_rfl
theorem laws_szStringS_ok : laws_szStringS_C.Ok E0 := fn_ok (T := laws_szStringS_T) (h := laws_szStringS_H) (Ls := laws_szStringS_Ls) E0_mixed T_nil Try.func33 (bodyOf_some (by kernel_rfl)) (by kernel_rfl) (loops_of (ks := [0]) (by kernel_rfl) ⟨(loop_one (h := laws_szStringS_H) (own := []) (head := laws_szStringS_h0) (back := []) (exs := [(.ret, []), (.exit 0, [])]) (res := laws_szStringS_r0) (step := laws_szStringS_s0) (by kernel_rfl) laws_szStringS_l0), trivial⟩) laws_szStringS_e
def laws_toStringS_arg : Sh := ⟨[(0, .c (.rd [] .str))], [], []⟩
def laws_toStringS_res : List Sh := [⟨[(0, .c (.own 0))], [], [(0, .str)]⟩]
noncomputable def laws_toStringS_s0 (x : (List ByteArray × Unit × Int × Unit) × Unit × (List ByteArray × Unit)) : Option (((List ByteArray × Unit × Int × Unit) × Unit × (List ByteArray × Unit)) ⊕ ((Unit × Unit) × Unit × (List ByteArray × Unit))) :=
 let x2 : Bool := decide (x.1.2.2.1 < (x.1.1.length : Int));
 br x2
 (ck (0 ≤ x.1.2.2.1)
 (ck (x.1.2.2.1.toNat < x.1.1.length)
 (let x3 : ByteArray := x.1.1.getD x.1.2.2.1.toNat ByteArray.empty;
 ck (0 ≤ x.1.2.2.1)
 (ck (x.1.2.2.1.toNat < x.2.2.1.length)
 (ck (x.1.2.2.1.toNat < x.2.2.1.length)
 (let x4 : List ByteArray := x.2.2.1.set x.1.2.2.1.toNat x3;
 let x5 : Int := w64 (x.1.2.2.1 + (1 : Int));
 some (.inl ((x.1.1, (), x5, ()), (), (x4, ())))))))))
 (some (.inr (((), ()), (), (x.2.2.1, ()))))
def laws_toStringS_h0 : Sh := ⟨[(0, .c (.rd [] .str)), (3, .c (.own 0)), (4, .c (.int .i64))], [], [(0, .str)]⟩
def laws_toStringS_r0 : List Sh := [⟨[(3, .c (.own 0))], [], [(0, .str)]⟩]
noncomputable def laws_toStringS_L0 : Lp := ⟨0, [], laws_toStringS_h0, [], [(.exit 0, [])], laws_toStringS_r0, loopC laws_toStringS_s0⟩
noncomputable def laws_toStringS (a0 : List ByteArray) : Option ((Unit × Unit) × Unit × (List ByteArray × Unit)) :=
 ck (0 ≤ (a0.length : Int))
 (ck (0 ≤ (a0.length : Int))
 (ck ((a0.length : Int).toNat = (a0.length : Int).toNat ∧ (a0.length : Int).toNat * 16 ≤ 140737488355328 ∧ (a0.length : Int).toNat ≤ 9223372036854775807)
 (let x1 : List ByteArray := List.replicate ((a0.length : Int).toNat) ByteArray.empty;
 (loopC laws_toStringS_s0 ((a0, (), (0 : Int), ()), (), (x1, ()))).bind fun r6 =>
 some (((), ()), (), (r6.2.2.1, ())))))
noncomputable def laws_toStringS_C : Ctr := ⟨35, laws_toStringS_arg, laws_toStringS_res, fun x => laws_toStringS x.1.1, none⟩
def laws_toStringS_H : Hint := ⟨[], [], [], fun _ => []⟩
noncomputable def laws_toStringS_T : List Ctr := []
noncomputable def laws_toStringS_Ls : List Lp := [laws_toStringS_L0]
theorem laws_toStringS_l0 : ∀ x, laws_toStringS_s0 x = stepW E0 laws_toStringS_T laws_toStringS_Ls laws_toStringS_H (loopAt (bodyOf Try.f35) 0) 0 laws_toStringS_h0 [] [(.exit 0, [])] laws_toStringS_r0 x := fun x => by kernel_rfl
theorem laws_toStringS_e : ∀ x, laws_toStringS_C.F x = runBodyW E0 laws_toStringS_T laws_toStringS_Ls laws_toStringS_H 35 Try.f35.results.toList (bodyOf Try.f35) [] (laws_toStringS_arg.mk' x) laws_toStringS_res := fun x => by kernel_rfl
theorem laws_toStringS_ok : laws_toStringS_C.Ok E0 := fn_ok (T := laws_toStringS_T) (h := laws_toStringS_H) (Ls := laws_toStringS_Ls) E0_mixed T_nil Try.func35 (bodyOf_some (by kernel_rfl)) (by kernel_rfl) (loops_of (ks := [0]) (by kernel_rfl) ⟨(loop_one (h := laws_toStringS_H) (own := []) (head := laws_toStringS_h0) (back := []) (exs := [(.exit 0, [])]) (res := laws_toStringS_r0) (step := laws_toStringS_s0) (by kernel_rfl) laws_toStringS_l0), trivial⟩) laws_toStringS_e
def spec_ResetOf_arg : Sh := ⟨[(0, .c (.rd [] .str)), (1, .c (.rd [] .str))], [], []⟩
def spec_ResetOf_res : List Sh := [⟨[(0, .c (.int .i64)), (1, .c (.int .i64)), (2, .c (.int .i64))], [], []⟩]
noncomputable def spec_ResetOf_s0 (x : (List ByteArray × List ByteArray × Int × Unit) × Unit × Unit) : Option (((List ByteArray × List ByteArray × Int × Unit) × Unit × Unit) ⊕ ((List ByteArray × List ByteArray × Int × Unit) × Unit × Unit)) :=
 let x1 : Bool := decide (x.1.2.2.1 < (x.1.1.length : Int));
 br x1
 (let x2 : Bool := decide (x.1.2.2.1 < (x.1.2.1.length : Int));
 br x2
 (ck (0 ≤ x.1.2.2.1)
 (ck (x.1.2.2.1.toNat < x.1.1.length)
 (let x3 : ByteArray := x.1.1.getD x.1.2.2.1.toNat ByteArray.empty;
 ck (0 ≤ x.1.2.2.1)
 (ck (x.1.2.2.1.toNat < x.1.2.1.length)
 (let x4 : ByteArray := x.1.2.1.getD x.1.2.2.1.toNat ByteArray.empty;
 let x5 : Bool := strEq x3 x4;
 br x5
 (let x6 : Int := w64 (x.1.2.2.1 + (1 : Int));
 some (.inl ((x.1.1, x.1.2.1, x6, ()), (), ())))
 (some (.inr ((x.1.1, x.1.2.1, x.1.2.2.1, ()), (), ()))))))))
 (some (.inr ((x.1.1, x.1.2.1, x.1.2.2.1, ()), (), ()))))
 (some (.inr ((x.1.1, x.1.2.1, x.1.2.2.1, ()), (), ())))
def spec_ResetOf_h0 : Sh := ⟨[(0, .c (.rd [] .str)), (1, .c (.rd [] .str)), (7, .c (.int .i64))], [], []⟩
def spec_ResetOf_r0 : List Sh := [⟨[(0, .c (.rd [] .str)), (1, .c (.rd [] .str)), (7, .c (.int .i64))], [], []⟩]
noncomputable def spec_ResetOf_L0 : Lp := ⟨0, [], spec_ResetOf_h0, [], [(.exit 0, [])], spec_ResetOf_r0, loopC spec_ResetOf_s0⟩
noncomputable def spec_ResetOf_s2 (x : (List ByteArray × List ByteArray × Int × Int × Unit) × Unit × Unit) : Option (((List ByteArray × List ByteArray × Int × Int × Unit) × Unit × Unit) ⊕ ((List ByteArray × List ByteArray × Int × Int × Unit) × Unit × Unit)) :=
 let x8 : Int := w64 (x.1.2.2.1 + x.1.2.2.2.1);
 let x9 : Bool := decide (x8 < (x.1.1.length : Int));
 br x9
 (let x10 : Bool := decide (x8 < (x.1.2.1.length : Int));
 br x10
 (let x11 : Int := w64 ((x.1.1.length : Int) - (1 : Int));
 let x12 : Int := w64 (x11 - x.1.2.2.2.1);
 ck (0 ≤ x12)
 (ck (x12.toNat < x.1.1.length)
 (let x13 : ByteArray := x.1.1.getD x12.toNat ByteArray.empty;
 let x14 : Int := w64 ((x.1.2.1.length : Int) - (1 : Int));
 let x15 : Int := w64 (x14 - x.1.2.2.2.1);
 ck (0 ≤ x15)
 (ck (x15.toNat < x.1.2.1.length)
 (let x16 : ByteArray := x.1.2.1.getD x15.toNat ByteArray.empty;
 let x17 : Bool := strEq x13 x16;
 br x17
 (let x18 : Int := w64 (x.1.2.2.2.1 + (1 : Int));
 some (.inl ((x.1.1, x.1.2.1, x.1.2.2.1, x18, ()), (), ())))
 (some (.inr ((x.1.1, x.1.2.1, x.1.2.2.1, x.1.2.2.2.1, ()), (), ()))))))))
 (some (.inr ((x.1.1, x.1.2.1, x.1.2.2.1, x.1.2.2.2.1, ()), (), ()))))
 (some (.inr ((x.1.1, x.1.2.1, x.1.2.2.1, x.1.2.2.2.1, ()), (), ())))
def spec_ResetOf_h2 : Sh := ⟨[(0, .c (.rd [] .str)), (1, .c (.rd [] .str)), (7, .c (.int .i64)), (8, .c (.int .i64))], [], []⟩
def spec_ResetOf_r2 : List Sh := [⟨[(0, .c (.rd [] .str)), (1, .c (.rd [] .str)), (7, .c (.int .i64)), (8, .c (.int .i64))], [], []⟩]
noncomputable def spec_ResetOf_L2 : Lp := ⟨2, [], spec_ResetOf_h2, [], [(.exit 2, [])], spec_ResetOf_r2, loopC spec_ResetOf_s2⟩
noncomputable def spec_ResetOf (a0 : List ByteArray) (a1 : List ByteArray) : Option ((Int × Int × Int × Unit) × Unit × Unit) :=
 (loopC spec_ResetOf_s0 ((a0, a1, (0 : Int), ()), (), ())).bind fun r7 =>
 (loopC spec_ResetOf_s2 ((r7.1.1, r7.1.2.1, r7.1.2.2.1, (0 : Int), ()), (), ())).bind fun r19 =>
 let x20 : Int := w64 ((r19.1.1.length : Int) - r19.1.2.2.1);
 let x21 : Int := w64 (x20 - r19.1.2.2.2.1);
 let x22 : Int := w64 ((r19.1.2.1.length : Int) - r19.1.2.2.1);
 let x23 : Int := w64 (x22 - r19.1.2.2.2.1);
 some ((r19.1.2.2.1, x21, x23, ()), (), ())
noncomputable def spec_ResetOf_C : Ctr := ⟨78, spec_ResetOf_arg, spec_ResetOf_res, fun x => spec_ResetOf x.1.1 x.1.2.1, none⟩
def spec_ResetOf_H : Hint := ⟨[], [], [], fun _ => []⟩
noncomputable def spec_ResetOf_T : List Ctr := []
noncomputable def spec_ResetOf_Ls : List Lp := [spec_ResetOf_L0, spec_ResetOf_L2]
theorem spec_ResetOf_l0 : ∀ x, spec_ResetOf_s0 x = stepW E0 spec_ResetOf_T spec_ResetOf_Ls spec_ResetOf_H (loopAt (bodyOf Try.f78) 0) 0 spec_ResetOf_h0 [] [(.exit 0, [])] spec_ResetOf_r0 x := fun x => by kernel_rfl
theorem spec_ResetOf_l2 : ∀ x, spec_ResetOf_s2 x = stepW E0 spec_ResetOf_T spec_ResetOf_Ls spec_ResetOf_H (loopAt (bodyOf Try.f78) 1) 2 spec_ResetOf_h2 [] [(.exit 2, [])] spec_ResetOf_r2 x := fun x => by kernel_rfl
theorem spec_ResetOf_e : ∀ x, spec_ResetOf_C.F x = runBodyW E0 spec_ResetOf_T spec_ResetOf_Ls spec_ResetOf_H 78 Try.f78.results.toList (bodyOf Try.f78) [] (spec_ResetOf_arg.mk' x) spec_ResetOf_res := fun x => by kernel_rfl
theorem spec_ResetOf_ok : spec_ResetOf_C.Ok E0 := fn_ok (T := spec_ResetOf_T) (h := spec_ResetOf_H) (Ls := spec_ResetOf_Ls) E0_mixed T_nil Try.func78 (bodyOf_some (by kernel_rfl)) (by kernel_rfl) (loops_of (ks := [0, 2]) (by kernel_rfl) ⟨(loop_one (h := spec_ResetOf_H) (own := []) (head := spec_ResetOf_h0) (back := []) (exs := [(.exit 0, [])]) (res := spec_ResetOf_r0) (step := spec_ResetOf_s0) (by kernel_rfl) spec_ResetOf_l0), (loop_one (h := spec_ResetOf_H) (own := []) (head := spec_ResetOf_h2) (back := []) (exs := [(.exit 2, [])]) (res := spec_ResetOf_r2) (step := spec_ResetOf_s2) (by kernel_rfl) spec_ResetOf_l2), trivial⟩) spec_ResetOf_e
def spec_MarksOf_arg : Sh := ⟨[(0, .c (.rd [] .str)), (1, .c (.rd [] .str))], [], []⟩
def spec_MarksOf_res : List Sh := [⟨[(0, .c (.str))], [], []⟩]
noncomputable def spec_MarksOf_s0 (x : (List ByteArray × Int × Int × Int × ByteArray × Int × Unit) × Unit × Unit) : Option (((List ByteArray × Int × Int × Int × ByteArray × Int × Unit) × Unit × Unit) ⊕ ((ByteArray × Unit) × Unit × Unit)) :=
 let x2 : Int := w64 ((x.1.1.length : Int) + x.1.2.2.2.1);
 let x3 : Bool := decide (x.1.2.2.2.2.2.1 < x2);
 br x3
 (let x4 : Bool := decide (x.1.2.2.2.2.2.1 < x.1.2.1);
 br x4
 (ck (((x.1.2.2.2.2.1.size + (ByteArray.mk #[61]).size : Nat) : Int) ≤ IntKind.i64.max)
 (let x5 : ByteArray := x.1.2.2.2.2.1 ++ (ByteArray.mk #[61]);
 let x6 : Int := w64 (x.1.2.2.2.2.2.1 + (1 : Int));
 some (.inl ((x.1.1, x.1.2.1, x.1.2.2.1, x.1.2.2.2.1, x5, x6, ()), (), ()))))
 (let x7 : Int := w64 (x.1.2.1 + x.1.2.2.1);
 let x8 : Int := w64 (x7 + x.1.2.2.2.1);
 let x9 : Bool := decide (x.1.2.2.2.2.2.1 ≥ x8);
 br x9
 (ck (((x.1.2.2.2.2.1.size + (ByteArray.mk #[61]).size : Nat) : Int) ≤ IntKind.i64.max)
 (let x10 : ByteArray := x.1.2.2.2.2.1 ++ (ByteArray.mk #[61]);
 let x11 : Int := w64 (x.1.2.2.2.2.2.1 + (1 : Int));
 some (.inl ((x.1.1, x.1.2.1, x.1.2.2.1, x.1.2.2.2.1, x10, x11, ()), (), ()))))
 (let x12 : Bool := decide (x.1.2.2.2.2.2.1 < x7);
 br x12
 (ck (((x.1.2.2.2.2.1.size + (ByteArray.mk #[45]).size : Nat) : Int) ≤ IntKind.i64.max)
 (let x13 : ByteArray := x.1.2.2.2.2.1 ++ (ByteArray.mk #[45]);
 let x14 : Int := w64 (x.1.2.2.2.2.2.1 + (1 : Int));
 some (.inl ((x.1.1, x.1.2.1, x.1.2.2.1, x.1.2.2.2.1, x13, x14, ()), (), ()))))
 (ck (((x.1.2.2.2.2.1.size + (ByteArray.mk #[43]).size : Nat) : Int) ≤ IntKind.i64.max)
 (let x15 : ByteArray := x.1.2.2.2.2.1 ++ (ByteArray.mk #[43]);
 let x16 : Int := w64 (x.1.2.2.2.2.2.1 + (1 : Int));
 some (.inl ((x.1.1, x.1.2.1, x.1.2.2.1, x.1.2.2.2.1, x15, x16, ()), (), ())))))))
 (some (.inr ((x.1.2.2.2.2.1, ()), (), ())))
def spec_MarksOf_h0 : Sh := ⟨[(0, .c (.rd [] .str)), (5, .c (.int .i64)), (6, .c (.int .i64)), (7, .c (.int .i64)), (8, .c (.str)), (9, .c (.int .i64))], [], []⟩
def spec_MarksOf_r0 : List Sh := [⟨[(8, .c (.str))], [], []⟩]
noncomputable def spec_MarksOf_L0 : Lp := ⟨0, [], spec_MarksOf_h0, [], [(.exit 0, [])], spec_MarksOf_r0, loopC spec_MarksOf_s0⟩
noncomputable def spec_MarksOf (a0 : List ByteArray) (a1 : List ByteArray) : Option ((ByteArray × Unit) × Unit × Unit) :=
 (spec_ResetOf a0 a1).bind fun r1 =>
 (loopC spec_MarksOf_s0 ((a0, r1.1.1, r1.1.2.1, r1.1.2.2.1, ByteArray.empty, (0 : Int), ()), (), ())).bind fun r17 =>
 some ((r17.1.1, ()), (), ())
noncomputable def spec_MarksOf_C : Ctr := ⟨34, spec_MarksOf_arg, spec_MarksOf_res, fun x => spec_MarksOf x.1.1 x.1.2.1, none⟩
def spec_MarksOf_H : Hint := ⟨[], [], [], fun _ => []⟩
noncomputable def spec_MarksOf_T : List Ctr := [spec_ResetOf_C]
noncomputable def spec_MarksOf_Ls : List Lp := [spec_MarksOf_L0]
theorem spec_MarksOf_l0 : ∀ x, spec_MarksOf_s0 x = stepW E0 spec_MarksOf_T spec_MarksOf_Ls spec_MarksOf_H (loopAt (bodyOf Try.f34) 0) 0 spec_MarksOf_h0 [] [(.exit 0, [])] spec_MarksOf_r0 x := fun x => by kernel_rfl
theorem spec_MarksOf_e : ∀ x, spec_MarksOf_C.F x = runBodyW E0 spec_MarksOf_T spec_MarksOf_Ls spec_MarksOf_H 34 Try.f34.results.toList (bodyOf Try.f34) [] (spec_MarksOf_arg.mk' x) spec_MarksOf_res := fun x => by kernel_rfl
theorem spec_MarksOf_ok : spec_MarksOf_C.Ok E0 := fn_ok (T := spec_MarksOf_T) (h := spec_MarksOf_H) (Ls := spec_MarksOf_Ls) E0_mixed (T_cons spec_ResetOf_ok T_nil) Try.func34 (bodyOf_some (by kernel_rfl)) (by kernel_rfl) (loops_of (ks := [0]) (by kernel_rfl) ⟨(loop_one (h := spec_MarksOf_H) (own := []) (head := spec_MarksOf_h0) (back := []) (exs := [(.exit 0, [])]) (res := spec_MarksOf_r0) (step := spec_MarksOf_s0) (by kernel_rfl) spec_MarksOf_l0), trivial⟩) spec_MarksOf_e
def impl_ResetOf_arg : Sh := ⟨[(0, .c (.rd [] .str)), (1, .c (.rd [] .str))], [], []⟩
def impl_ResetOf_res : List Sh := [⟨[(0, .c (.int .i64)), (1, .c (.int .i64)), (2, .c (.int .i64))], [], []⟩]
noncomputable def impl_ResetOf_s0 (x : (List ByteArray × List ByteArray × Int × Unit) × Unit × Unit) : Option (((List ByteArray × List ByteArray × Int × Unit) × Unit × Unit) ⊕ ((List ByteArray × List ByteArray × Int × Unit) × Unit × Unit)) :=
 let x1 : Bool := decide (x.1.2.2.1 < (x.1.1.length : Int));
 br x1
 (let x2 : Bool := decide (x.1.2.2.1 < (x.1.2.1.length : Int));
 br x2
 (ck (0 ≤ x.1.2.2.1)
 (ck (x.1.2.2.1.toNat < x.1.1.length)
 (let x3 : ByteArray := x.1.1.getD x.1.2.2.1.toNat ByteArray.empty;
 ck (0 ≤ x.1.2.2.1)
 (ck (x.1.2.2.1.toNat < x.1.2.1.length)
 (let x4 : ByteArray := x.1.2.1.getD x.1.2.2.1.toNat ByteArray.empty;
 let x5 : Bool := strEq x3 x4;
 br x5
 (let x6 : Int := w64 (x.1.2.2.1 + (1 : Int));
 some (.inl ((x.1.1, x.1.2.1, x6, ()), (), ())))
 (some (.inr ((x.1.1, x.1.2.1, x.1.2.2.1, ()), (), ()))))))))
 (some (.inr ((x.1.1, x.1.2.1, x.1.2.2.1, ()), (), ()))))
 (some (.inr ((x.1.1, x.1.2.1, x.1.2.2.1, ()), (), ())))
def impl_ResetOf_h0 : Sh := ⟨[(0, .c (.rd [] .str)), (1, .c (.rd [] .str)), (7, .c (.int .i64))], [], []⟩
def impl_ResetOf_r0 : List Sh := [⟨[(0, .c (.rd [] .str)), (1, .c (.rd [] .str)), (7, .c (.int .i64))], [], []⟩]
noncomputable def impl_ResetOf_L0 : Lp := ⟨0, [], impl_ResetOf_h0, [], [(.exit 0, [])], impl_ResetOf_r0, loopC impl_ResetOf_s0⟩
noncomputable def impl_ResetOf_s2 (x : (List ByteArray × List ByteArray × Int × Int × Unit) × Unit × Unit) : Option (((List ByteArray × List ByteArray × Int × Int × Unit) × Unit × Unit) ⊕ ((List ByteArray × List ByteArray × Int × Int × Unit) × Unit × Unit)) :=
 let x8 : Int := w64 ((x.1.1.length : Int) - x.1.2.2.1);
 let x9 : Bool := decide (x.1.2.2.2.1 < x8);
 br x9
 (let x10 : Int := w64 ((x.1.2.1.length : Int) - x.1.2.2.1);
 let x11 : Bool := decide (x.1.2.2.2.1 < x10);
 br x11
 (let x12 : Int := w64 ((x.1.1.length : Int) - (1 : Int));
 let x13 : Int := w64 (x12 - x.1.2.2.2.1);
 ck (0 ≤ x13)
 (ck (x13.toNat < x.1.1.length)
 (let x14 : ByteArray := x.1.1.getD x13.toNat ByteArray.empty;
 let x15 : Int := w64 ((x.1.2.1.length : Int) - (1 : Int));
 let x16 : Int := w64 (x15 - x.1.2.2.2.1);
 ck (0 ≤ x16)
 (ck (x16.toNat < x.1.2.1.length)
 (let x17 : ByteArray := x.1.2.1.getD x16.toNat ByteArray.empty;
 let x18 : Bool := strEq x14 x17;
 br x18
 (let x19 : Int := w64 (x.1.2.2.2.1 + (1 : Int));
 some (.inl ((x.1.1, x.1.2.1, x.1.2.2.1, x19, ()), (), ())))
 (some (.inr ((x.1.1, x.1.2.1, x.1.2.2.1, x.1.2.2.2.1, ()), (), ()))))))))
 (some (.inr ((x.1.1, x.1.2.1, x.1.2.2.1, x.1.2.2.2.1, ()), (), ()))))
 (some (.inr ((x.1.1, x.1.2.1, x.1.2.2.1, x.1.2.2.2.1, ()), (), ())))
def impl_ResetOf_h2 : Sh := ⟨[(0, .c (.rd [] .str)), (1, .c (.rd [] .str)), (7, .c (.int .i64)), (8, .c (.int .i64))], [], []⟩
def impl_ResetOf_r2 : List Sh := [⟨[(0, .c (.rd [] .str)), (1, .c (.rd [] .str)), (7, .c (.int .i64)), (8, .c (.int .i64))], [], []⟩]
noncomputable def impl_ResetOf_L2 : Lp := ⟨2, [], impl_ResetOf_h2, [], [(.exit 2, [])], impl_ResetOf_r2, loopC impl_ResetOf_s2⟩
noncomputable def impl_ResetOf (a0 : List ByteArray) (a1 : List ByteArray) : Option ((Int × Int × Int × Unit) × Unit × Unit) :=
 (loopC impl_ResetOf_s0 ((a0, a1, (0 : Int), ()), (), ())).bind fun r7 =>
 (loopC impl_ResetOf_s2 ((r7.1.1, r7.1.2.1, r7.1.2.2.1, (0 : Int), ()), (), ())).bind fun r20 =>
 let x21 : Int := w64 ((r20.1.1.length : Int) - r20.1.2.2.1);
 let x22 : Int := w64 (x21 - r20.1.2.2.2.1);
 let x23 : Int := w64 ((r20.1.2.1.length : Int) - r20.1.2.2.1);
 let x24 : Int := w64 (x23 - r20.1.2.2.2.1);
 some ((r20.1.2.2.1, x22, x24, ()), (), ())
noncomputable def impl_ResetOf_C : Ctr := ⟨32, impl_ResetOf_arg, impl_ResetOf_res, fun x => impl_ResetOf x.1.1 x.1.2.1, none⟩
def impl_ResetOf_H : Hint := ⟨[], [], [], fun _ => []⟩
noncomputable def impl_ResetOf_T : List Ctr := []
noncomputable def impl_ResetOf_Ls : List Lp := [impl_ResetOf_L0, impl_ResetOf_L2]
theorem impl_ResetOf_l0 : ∀ x, impl_ResetOf_s0 x = stepW E0 impl_ResetOf_T impl_ResetOf_Ls impl_ResetOf_H (loopAt (bodyOf Try.f32) 0) 0 impl_ResetOf_h0 [] [(.exit 0, [])] impl_ResetOf_r0 x := fun x => by kernel_rfl
theorem impl_ResetOf_l2 : ∀ x, impl_ResetOf_s2 x = stepW E0 impl_ResetOf_T impl_ResetOf_Ls impl_ResetOf_H (loopAt (bodyOf Try.f32) 1) 2 impl_ResetOf_h2 [] [(.exit 2, [])] impl_ResetOf_r2 x := fun x => by kernel_rfl
theorem impl_ResetOf_e : ∀ x, impl_ResetOf_C.F x = runBodyW E0 impl_ResetOf_T impl_ResetOf_Ls impl_ResetOf_H 32 Try.f32.results.toList (bodyOf Try.f32) [] (impl_ResetOf_arg.mk' x) impl_ResetOf_res := fun x => by kernel_rfl
theorem impl_ResetOf_ok : impl_ResetOf_C.Ok E0 := fn_ok (T := impl_ResetOf_T) (h := impl_ResetOf_H) (Ls := impl_ResetOf_Ls) E0_mixed T_nil Try.func32 (bodyOf_some (by kernel_rfl)) (by kernel_rfl) (loops_of (ks := [0, 2]) (by kernel_rfl) ⟨(loop_one (h := impl_ResetOf_H) (own := []) (head := impl_ResetOf_h0) (back := []) (exs := [(.exit 0, [])]) (res := impl_ResetOf_r0) (step := impl_ResetOf_s0) (by kernel_rfl) impl_ResetOf_l0), (loop_one (h := impl_ResetOf_H) (own := []) (head := impl_ResetOf_h2) (back := []) (exs := [(.exit 2, [])]) (res := impl_ResetOf_r2) (step := impl_ResetOf_s2) (by kernel_rfl) impl_ResetOf_l2), trivial⟩) impl_ResetOf_e
def strings_Repeat_arg : Sh := ⟨[(0, .c (.str)), (1, .c (.int .i64))], [], []⟩
def strings_Repeat_res : List Sh := [⟨[(0, .c (.str))], [], []⟩]
def strings_Repeat (s : ByteArray) (n : Int) : Option ((ByteArray × Unit) × Unit × Unit) := repeatF s n
noncomputable def strings_Repeat_C : Ctr := ⟨77, strings_Repeat_arg, strings_Repeat_res, fun x => strings_Repeat x.1.1 x.1.2.1, some 2⟩
end Go.Tree
namespace Go.Proofs
section
open Go Go.Shelf Go.RowKit Go.Lib Go.Tree Go.Sort
def Try.lays105_ren : Go.Shelf.Ren := ⟨fun | 105 => 77 | 212 => 104 | 99 => 105 | 165 => 106 | 166 => 107 | 170 => 108 | 169 => 109 | 263 => 123 | 264 => 124 | 206 => 125 | 240 => 126 | 241 => 127 | 276 => 132 | 277 => 133 | n => n, fun | 9 => 9 | 3 => 3 | 4 => 4 | 20 => 20 | 0 => 0 | 46 => 124 | 109 => 125 | 5 => 5 | 72 => 130 | 76 => 134 | 51 => 146 | 146 => 147 | 53 => 149 | 148 => 150 | 70 => 128 | 37 => 22 | 75 => 133 | 127 => 152 | 164 => 154 | 80 => 137 | n => n, fun | n => n⟩
theorem Try.lays105 : Go.Proofs.Lays.n105 Try.prog Try.lays105_ren := {
  mixed := by kernel_rfl
  f99 := Try.func105.trans (congrArg some (by kernel_rfl))
  f105 := Try.func77.trans (congrArg some (by kernel_rfl))
  f165 := Try.func106.trans (congrArg some (by kernel_rfl))
  f166 := Try.func107.trans (congrArg some (by kernel_rfl))
  f169 := Try.func109.trans (congrArg some (by kernel_rfl))
  f170 := Try.func108.trans (congrArg some (by kernel_rfl))
  f206 := Try.func125.trans (congrArg some (by kernel_rfl))
  f212 := Try.func104.trans (congrArg some (by kernel_rfl))
  f240 := Try.func126.trans (congrArg some (by kernel_rfl))
  f241 := Try.func127.trans (congrArg some (by kernel_rfl))
  f263 := Try.func123.trans (congrArg some (by kernel_rfl))
  f264 := Try.func124.trans (congrArg some (by kernel_rfl))
  f276 := Try.func132.trans (congrArg some (by kernel_rfl))
  f277 := Try.func133.trans (congrArg some (by kernel_rfl))
  t0 := Try.underlying0
  a0 := Try.isAgg0
  z0 := Try.sizeOf0
  v0 := Try.zeroValue0
  t3 := Try.underlying3
  a3 := Try.isAgg3
  z3 := Try.sizeOf3
  v3 := Try.zeroValue3
  t4 := Try.underlying4
  a4 := Try.isAgg4
  z4 := Try.sizeOf4
  v4 := Try.zeroValue4
  t5 := Try.underlying5
  a5 := Try.isAgg5
  z5 := Try.sizeOf5
  v5 := Try.zeroValue5
  t9 := Try.underlying9
  a9 := Try.isAgg9
  z9 := Try.sizeOf9
  v9 := Try.zeroValue9
  t20 := Try.underlying20
  a20 := Try.isAgg20
  z20 := Try.sizeOf20
  v20 := Try.zeroValue20
  t37 := Try.underlying22
  a37 := Try.isAgg22
  z37 := Try.sizeOf22
  v37 := Try.zeroValue22
  t46 := Try.underlying124
  a46 := Try.isAgg124
  z46 := Try.sizeOf124
  v46 := Try.zeroValue124
  t51 := Try.underlying146
  a51 := Try.isAgg146
  z51 := Try.sizeOf146
  v51 := Try.zeroValue146
  t53 := Try.underlying149
  a53 := Try.isAgg149
  z53 := Try.sizeOf149
  v53 := Try.zeroValue149
  t70 := Try.underlying128
  a70 := Try.isAgg128
  z70 := Try.sizeOf128
  v70 := Try.zeroValue128
  t72 := Try.underlying130
  a72 := Try.isAgg130
  z72 := Try.sizeOf130
  v72 := Try.zeroValue130
  t75 := Try.underlying133
  a75 := Try.isAgg133
  z75 := Try.sizeOf133
  v75 := Try.zeroValue133
  t76 := Try.underlying134
  a76 := Try.isAgg134
  z76 := Try.sizeOf134
  v76 := Try.zeroValue134
  t109 := Try.underlying125
  a109 := Try.isAgg125
  z109 := Try.sizeOf125
  v109 := Try.zeroValue125
  t127 := Try.underlying152
  a127 := Try.isAgg152
  z127 := Try.sizeOf152
  v127 := Try.zeroValue152
  t146 := Try.underlying147
  a146 := Try.isAgg147
  z146 := Try.sizeOf147
  v146 := Try.zeroValue147
  t148 := Try.underlying150
  a148 := Try.isAgg150
  z148 := Try.sizeOf150
  v148 := Try.zeroValue150
  t164 := Try.underlying154
  a164 := Try.isAgg154
  z164 := Try.sizeOf154
  v164 := Try.zeroValue154 }
theorem Try.Builder_Extra_105 : Builder.Extra Try.prog Try.lays105_ren := {
  sizeBuilder := by kernel_rfl
  liesBuilder := by kernel_rfl
  t5 := Try.underlying5
  a5 := Try.isAgg5
  z5 := Try.sizeOf5
  v5 := Try.zeroValue5
  infoByte := by kernel_rfl
  cellsByte := by kernel_rfl
  sizeByte := by kernel_rfl
  neB5 := by decide }
theorem Try.strings_Repeat (s : ByteArray) (c : Nat) (w : World) (hc : c ≤ 9223372036854775807) (hlen : s.size * c ≤ 140737488355328) :
    Calls Try.prog 77 #[.string s, .int .i64 c] w fun e w' => e = .returned (.string ⟨(Lib.repeatL s.data.toList c).toArray⟩) ∧ Below w.heap.size w w' := Any.strings_Repeat Try.lays105 Try.Builder_Extra_105 s c w hc hlen
end
end Go.Proofs
namespace Go.Tree
open Go Go.Proofs
set_option linter.unusedVariables false
set_option maxRecDepth 100000
theorem strings_Repeat_ok : strings_Repeat_C.Ok E0 := repeat_ok (E := E0) (by kernel_rfl) (by kernel_rfl) Go.Proofs.Try.strings_Repeat
def impl_MarksOf_arg : Sh := ⟨[(0, .c (.rd [] .str)), (1, .c (.rd [] .str))], [], []⟩
def impl_MarksOf_res : List Sh := [⟨[(0, .c (.str))], [], []⟩]
noncomputable def impl_MarksOf (a0 : List ByteArray) (a1 : List ByteArray) : Option ((ByteArray × Unit) × Unit × Unit) :=
 (impl_ResetOf a0 a1).bind fun r1 =>
 (strings_Repeat (ByteArray.mk #[61]) r1.1.1).bind fun r2 =>
 (strings_Repeat (ByteArray.mk #[45]) r1.1.2.1).bind fun r3 =>
 ck (((r2.1.1.size + r3.1.1.size : Nat) : Int) ≤ IntKind.i64.max)
 (let x4 : ByteArray := r2.1.1 ++ r3.1.1;
 (strings_Repeat (ByteArray.mk #[43]) r1.1.2.2.1).bind fun r5 =>
 ck (((x4.size + r5.1.1.size : Nat) : Int) ≤ IntKind.i64.max)
 (let x6 : ByteArray := x4 ++ r5.1.1;
 let x7 : Int := w64 ((a0.length : Int) - r1.1.1);
 let x8 : Int := w64 (x7 - r1.1.2.1);
 (strings_Repeat (ByteArray.mk #[61]) x8).bind fun r9 =>
 ck (((x6.size + r9.1.1.size : Nat) : Int) ≤ IntKind.i64.max)
 (let x10 : ByteArray := x6 ++ r9.1.1;
 some ((x10, ()), (), ()))))
noncomputable def impl_MarksOf_C : Ctr := ⟨31, impl_MarksOf_arg, impl_MarksOf_res, fun x => impl_MarksOf x.1.1 x.1.2.1, none⟩
def impl_MarksOf_H : Hint := ⟨[], [], [], fun _ => []⟩
noncomputable def impl_MarksOf_T : List Ctr := [impl_ResetOf_C, strings_Repeat_C]
noncomputable def impl_MarksOf_Ls : List Lp := []
theorem impl_MarksOf_e : ∀ x, impl_MarksOf_C.F x = runBodyW E0 impl_MarksOf_T impl_MarksOf_Ls impl_MarksOf_H 31 Try.f31.results.toList (bodyOf Try.f31) [] (impl_MarksOf_arg.mk' x) impl_MarksOf_res := fun x => by kernel_rfl
theorem impl_MarksOf_ok : impl_MarksOf_C.Ok E0 := fn_ok (T := impl_MarksOf_T) (h := impl_MarksOf_H) (Ls := impl_MarksOf_Ls) E0_mixed (T_cons impl_ResetOf_ok (T_cons strings_Repeat_ok T_nil)) Try.func31 (bodyOf_some (by kernel_rfl)) (by kernel_rfl) (loops_of (ks := []) (by kernel_rfl) trivial) impl_MarksOf_e
def laws_eqStringS_arg : Sh := ⟨[(0, .c (.rd [] .str)), (1, .c (.rd [] .str))], [], []⟩
def laws_eqStringS_res : List Sh := [⟨[(0, .c (.bool))], [], []⟩]
noncomputable def laws_eqStringS_s0 (x : (List ByteArray × List ByteArray × Int × Unit) × Unit × Unit) : Option (((List ByteArray × List ByteArray × Int × Unit) × Unit × Unit) ⊕ (((Bool × Unit) × Unit × Unit) ⊕ (Unit × Unit × Unit))) :=
 let x2 : Bool := decide (x.1.2.2.1 < (x.1.1.length : Int));
 br x2
 (ck (0 ≤ x.1.2.2.1)
 (ck (x.1.2.2.1.toNat < x.1.1.length)
 (let x3 : ByteArray := x.1.1.getD x.1.2.2.1.toNat ByteArray.empty;
 ck (0 ≤ x.1.2.2.1)
 (ck (x.1.2.2.1.toNat < x.1.2.1.length)
 (let x4 : ByteArray := x.1.2.1.getD x.1.2.2.1.toNat ByteArray.empty;
 let x5 : Bool := !strEq x3 x4;
 br x5
 (some (.inr (.inl ((false, ()), (), ()))))
 (let x6 : Int := w64 (x.1.2.2.1 + (1 : Int));
 some (.inl ((x.1.1, x.1.2.1, x6, ()), (), ()))))))))
 (some (.inr (.inr ((), (), ()))))
def laws_eqStringS_h0 : Sh := ⟨[(0, .c (.rd [] .str)), (1, .c (.rd [] .str)), (5, .c (.int .i64))], [], []⟩
def laws_eqStringS_r0 : List Sh := [⟨[(4, .c (.bool))], [], []⟩, ⟨[], [], []⟩]
noncomputable def laws_eqStringS_L0 : Lp := ⟨0, [], laws_eqStringS_h0, [], [(.ret, []), (.exit 0, [])], laws_eqStringS_r0, loopC laws_eqStringS_s0⟩
noncomputable def laws_eqStringS (a0 : List ByteArray) (a1 : List ByteArray) : Option ((Bool × Unit) × Unit × Unit) :=
 let x1 : Bool := (a0.length : Int) != (a1.length : Int);
 br x1
 (some ((false, ()), (), ()))
 ((loopC laws_eqStringS_s0 ((a0, a1, (0 : Int), ()), (), ())).bind fun r7 =>
 sumK r7 (fun y10 =>
 some ((y10.1.1, ()), (), ())) (fun y11 =>
 some ((true, ()), (), ())))
noncomputable def laws_eqStringS_C : Ctr := ⟨36, laws_eqStringS_arg, laws_eqStringS_res, fun x => laws_eqStringS x.1.1 x.1.2.1, none⟩
def laws_eqStringS_H : Hint := ⟨[], [], [], fun _ => []⟩
noncomputable def laws_eqStringS_T : List Ctr := []
noncomputable def laws_eqStringS_Ls : List Lp := [laws_eqStringS_L0]
theorem laws_eqStringS_l0 : ∀ x, laws_eqStringS_s0 x = stepW E0 laws_eqStringS_T laws_eqStringS_Ls laws_eqStringS_H (loopAt (bodyOf Try.f36) 0) 0 laws_eqStringS_h0 [] [(.ret, []), (.exit 0, [])] laws_eqStringS_r0 x := fun x => by kernel_rfl
theorem laws_eqStringS_e : ∀ x, laws_eqStringS_C.F x = runBodyW E0 laws_eqStringS_T laws_eqStringS_Ls laws_eqStringS_H 36 Try.f36.results.toList (bodyOf Try.f36) [] (laws_eqStringS_arg.mk' x) laws_eqStringS_res := fun x => by kernel_rfl
theorem laws_eqStringS_ok : laws_eqStringS_C.Ok E0 := fn_ok (T := laws_eqStringS_T) (h := laws_eqStringS_H) (Ls := laws_eqStringS_Ls) E0_mixed T_nil Try.func36 (bodyOf_some (by kernel_rfl)) (by kernel_rfl) (loops_of (ks := [0]) (by kernel_rfl) ⟨(loop_one (h := laws_eqStringS_H) (own := []) (head := laws_eqStringS_h0) (back := []) (exs := [(.ret, []), (.exit 0, [])]) (res := laws_eqStringS_r0) (step := laws_eqStringS_s0) (by kernel_rfl) laws_eqStringS_l0), trivial⟩) laws_eqStringS_e
def laws_FnExactMarksOf_arg : Sh := ⟨[(0, .c (.rd [] .str)), (1, .c (.rd [] .str))], [], []⟩
def laws_FnExactMarksOf_res : List Sh := [⟨[(0, .c (.bool))], [], []⟩]
noncomputable def laws_FnExactMarksOf (a0 : List ByteArray) (a1 : List ByteArray) : Option ((Bool × Unit) × Unit × Unit) :=
 (laws_szStringS a0 (1048576 : Int)).bind fun r1 =>
 let x2 : Bool := decide (r1.1.1 < (0 : Int));
 br x2
 (some ((true, ()), (), ()))
 ((laws_szStringS a1 r1.1.1).bind fun r3 =>
 let x4 : Bool := decide (r3.1.1 < (0 : Int));
 br x4
 (some ((true, ()), (), ()))
 ((laws_toStringS a0).bind fun r5 =>
 (laws_toStringS a1).bind fun r6 =>
 (spec_MarksOf r5.2.2.1 r6.2.2.1).bind fun r7 =>
 (laws_toStringS a0).bind fun r8 =>
 (laws_toStringS a1).bind fun r9 =>
 (impl_MarksOf r8.2.2.1 r9.2.2.1).bind fun r10 =>
 let x11 : Bool := !strEq r10.1.1 r7.1.1;
 br x11
 (some ((false, ()), (), ()))
 ((laws_toStringS a0).bind fun r12 =>
 (laws_eqStringS r8.2.2.1 r12.2.2.1).bind fun r13 =>
 br (!r13.1.1)
 (some ((false, ()), (), ()))
 ((laws_toStringS a1).bind fun r14 =>
 (laws_eqStringS r9.2.2.1 r14.2.2.1).bind fun r15 =>
 br (!r15.1.1)
 (some ((false, ()), (), ()))
 (some ((true, ()), (), ()))))))
noncomputable def laws_FnExactMarksOf_C : Ctr := ⟨8, laws_FnExactMarksOf_arg, laws_FnExactMarksOf_res, fun x => laws_FnExactMarksOf x.1.1 x.1.2.1, none⟩
def laws_FnExactMarksOf_H : Hint := ⟨[], [], [], fun _ => []⟩
noncomputable def laws_FnExactMarksOf_T : List Ctr := [laws_szStringS_C, laws_toStringS_C, spec_MarksOf_C, impl_MarksOf_C, laws_eqStringS_C]
noncomputable def laws_FnExactMarksOf_Ls : List Lp := []
theorem laws_FnExactMarksOf_e : ∀ x, laws_FnExactMarksOf_C.F x = runBodyW E0 laws_FnExactMarksOf_T laws_FnExactMarksOf_Ls laws_FnExactMarksOf_H 8 Try.f8.results.toList (bodyOf Try.f8) [] (laws_FnExactMarksOf_arg.mk' x) laws_FnExactMarksOf_res := fun x => by kernel_rfl
theorem laws_FnExactMarksOf_ok : laws_FnExactMarksOf_C.Ok E0 := fn_ok (T := laws_FnExactMarksOf_T) (h := laws_FnExactMarksOf_H) (Ls := laws_FnExactMarksOf_Ls) E0_mixed (T_cons laws_szStringS_ok (T_cons laws_toStringS_ok (T_cons spec_MarksOf_ok (T_cons impl_MarksOf_ok (T_cons laws_eqStringS_ok T_nil))))) Try.func8 (bodyOf_some (by kernel_rfl)) (by kernel_rfl) (loops_of (ks := []) (by kernel_rfl) trivial) laws_FnExactMarksOf_e
end Go.Tree
