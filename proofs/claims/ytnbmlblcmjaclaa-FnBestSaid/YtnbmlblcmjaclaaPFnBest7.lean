/- Written by a program of this session with the help of the kit's print: of each Go function a Lean function, and the proof that its call comes to just what that tells. No condition beyond those that each theorem states. -/
import Derived.Test.YtnbmlblcmjaclaaPFnBest0
import Derived.Test.YtnbmlblcmjaclaaPFnBest1
import Derived.Test.YtnbmlblcmjaclaaPFnBest2
import Derived.Test.YtnbmlblcmjaclaaPFnBest4
namespace Go.Proofs.Ytnbmlblcmjaclaa.PFnBest
open Go.RowKit Go.Proofs.YtnbmlblcmjaclaaW.PrintWords Go.Proofs.YtnbmlblcmjaclaaW.PrintLast Go.Proofs.YtnbmlblcmjaclaaW.PrintMore
attribute [local go_sem] max2_int min2_int max_two min_two max_three min_three max_four min_four
set_option linter.unusedVariables false
set_option linter.unusedSimpArgs false
mutual
def impl_BestBreaking.l0 : Nat → List Int → List Int → List Int → Int → Int → Int → Int → Option (List Int × Int × Bool)
 | 0, _, _, _, _, _, _, _ => none
 | k + 1, x1, x7, x8, x9, x173000, x173001, x173002 => if x9 ≥ 0 then (if 0 ≤ x9 then (if x9 < (x7.length : Int) then (impl_BestBreaking.l1 k x1 (x7.set (x9 : Int).toNat (-1)) x8 x9 1 x173000 x173001 x173002) else (none)) else (none)) else (if 0 < (x7.length : Int) then (if (rd x7 0) < 0 then (some (([] : List Int), 0, false)) else (impl_BestBreaking.l2 k x1 x7 x8 (([] : List Int)) 0)) else (none))
def impl_BestBreaking.l1 : Nat → List Int → List Int → List Int → Int → Int → Int → Int → Int → Option (List Int × Int × Bool)
 | 0, _, _, _, _, _, _, _, _ => none
 | k + 1, x1, x7, x8, x9, x10, x173000, x173001, x173002 => if (wrap64 (x9 + x10)) ≤ (x1.length : Int) then (if 0 ≤ x9 then (if x9 ≤ (wrap64 (x9 + x10)) then ((impl_kindOf.f k x173000 x173001 x173002 ((x1.take ((wrap64 (x9 + x10)) : Int).toNat).drop (x9 : Int).toNat)).bind fun t182 => (if (wrap64 (x9 + x10)) = (x1.length : Int) then (impl_BestBreaking.j2 k x1 x7 x8 x9 x10 t182 0 (t182 == 0) x173000 x173001 x173002) else (impl_BestBreaking.j2 k x1 x7 x8 x9 x10 t182 0 false x173000 x173001 x173002))) else (none)) else (none)) else (impl_BestBreaking.l0 k x1 x7 x8 (wrap64 (x9 - 1)) x173000 x173001 x173002)
def impl_BestBreaking.j2 : Nat → List Int → List Int → List Int → Int → Int → Int → Int → Bool → Int → Int → Int → Option (List Int × Int × Bool)
 | 0, _, _, _, _, _, _, _, _, _, _, _ => none
 | k + 1, x1, x7, x8, x9, x10, x11, x12, x54, x173000, x173001, x173002 => if x54 = true then (impl_BestBreaking.j3 k x1 x7 x8 x9 x10 x12 x54 x173000 x173001 x173002) else (if (wrap64 (x9 + x10)) < (x1.length : Int) then (if x11 = 2 then (if 0 ≤ (wrap64 (x9 + x10)) then (if (wrap64 (x9 + x10)) < (x7.length : Int) then (impl_BestBreaking.j3 k x1 x7 x8 x9 x10 x12 (decide ((rd x7 (wrap64 (x9 + x10))) < 0)) x173000 x173001 x173002) else (none)) else (none)) else (impl_BestBreaking.j3 k x1 x7 x8 x9 x10 x12 true x173000 x173001 x173002)) else (impl_BestBreaking.j3 k x1 x7 x8 x9 x10 x12 false x173000 x173001 x173002))
def impl_BestBreaking.j3 : Nat → List Int → List Int → List Int → Int → Int → Int → Bool → Int → Int → Int → Option (List Int × Int × Bool)
 | 0, _, _, _, _, _, _, _, _, _, _ => none
 | k + 1, x1, x7, x8, x9, x10, x12, x54, x173000, x173001, x173002 => if x54 = true then (impl_BestBreaking.l1 k x1 x7 x8 x9 (wrap64 (x10 + 1)) x173000 x173001 x173002) else (if (wrap64 (x9 + x10)) < (x1.length : Int) then (if 0 ≤ x9 then (if x9 ≤ (wrap64 (x9 + x10)) then (if (wrap64 (x9 + x10)) ≤ (x1.length : Int) then ((impl_riseOf.f k x173000 x173001 x173002 ((x1.take ((wrap64 (x9 + x10)) : Int).toNat).drop (x9 : Int).toNat)).bind fun t185 => (if 0 ≤ (wrap64 (x9 + x10)) then (if (wrap64 (x9 + x10)) < (x7.length : Int) then (if x9 < (x7.length : Int) then (if (rd x7 x9) < 0 then (if x9 < (x8.length : Int) then (impl_BestBreaking.l1 k x1 (x7.set (x9 : Int).toNat (wrap64 ((wrap64 (t185 * t185)) + (rd x7 (wrap64 (x9 + x10)))))) (x8.set (x9 : Int).toNat x10) x9 (wrap64 (x10 + 1)) x173000 x173001 x173002) else (none)) else (if (wrap64 ((wrap64 (t185 * t185)) + (rd x7 (wrap64 (x9 + x10))))) < (rd x7 x9) then (if x9 < (x8.length : Int) then (impl_BestBreaking.l1 k x1 (x7.set (x9 : Int).toNat (wrap64 ((wrap64 (t185 * t185)) + (rd x7 (wrap64 (x9 + x10)))))) (x8.set (x9 : Int).toNat x10) x9 (wrap64 (x10 + 1)) x173000 x173001 x173002) else (none)) else (impl_BestBreaking.l1 k x1 x7 x8 x9 (wrap64 (x10 + 1)) x173000 x173001 x173002))) else (none)) else (none)) else (none))) else (none)) else (none)) else (none)) else (if 0 ≤ x9 then (if x9 < (x7.length : Int) then (if (rd x7 x9) < 0 then (if x9 < (x8.length : Int) then (impl_BestBreaking.l1 k x1 (x7.set (x9 : Int).toNat x12) (x8.set (x9 : Int).toNat x10) x9 (wrap64 (x10 + 1)) x173000 x173001 x173002) else (none)) else (if x12 < (rd x7 x9) then (if x9 < (x8.length : Int) then (impl_BestBreaking.l1 k x1 (x7.set (x9 : Int).toNat x12) (x8.set (x9 : Int).toNat x10) x9 (wrap64 (x10 + 1)) x173000 x173001 x173002) else (none)) else (impl_BestBreaking.l1 k x1 x7 x8 x9 (wrap64 (x10 + 1)) x173000 x173001 x173002))) else (none)) else (none)))
def impl_BestBreaking.l2 : Nat → List Int → List Int → List Int → List Int → Int → Option (List Int × Int × Bool)
 | 0, _, _, _, _, _ => none
 | k + 1, x1, x7, x8, x14, x15 => if x15 < (x1.length : Int) then (if 0 ≤ x15 then (if x15 < (x8.length : Int) then (if x14.length < 17592186044416 then (impl_BestBreaking.l2 k x1 x7 x8 (x14 ++ [rd x8 x15]) (wrap64 (x15 + (rd x8 x15)))) else (none)) else (none)) else (none)) else (if 0 < (x7.length : Int) then (some (x14, rd x7 0, true)) else (none))
end
def impl_BestBreaking.f (k : Nat) (a0_0 : Int) (a0_1 : Int) (a0_2 : Int) (l1 : List Int) : Option (List Int × Int × Bool) := (impl_both.f a0_0 a0_1 a0_2 l1).bind fun t173 => (if t173 = true then (if 0 ≤ (wrap64 ((l1.length : Int) + 1)) then (if (wrap64 ((l1.length : Int) + 1) : Int).toNat ≤ 35184372088832 then (impl_BestBreaking.l0 k l1 (List.replicate (wrap64 ((l1.length : Int) + 1) : Int).toNat 0) (List.replicate (wrap64 ((l1.length : Int) + 1) : Int).toNat 0) (wrap64 ((l1.length : Int) - 1)) a0_0 a0_1 a0_2) else (none)) else (none)) else (some (([] : List Int), 0, false)))
theorem impl_BestBreaking.mono_l : ∀ k, (∀ y0 y1 y2 y3 y4 y5 y6, LeO (impl_BestBreaking.l0 k y0 y1 y2 y3 y4 y5 y6) (impl_BestBreaking.l0 (k + 1) y0 y1 y2 y3 y4 y5 y6)) ∧ (∀ y0 y1 y2 y3 y4 y5 y6 y7, LeO (impl_BestBreaking.l1 k y0 y1 y2 y3 y4 y5 y6 y7) (impl_BestBreaking.l1 (k + 1) y0 y1 y2 y3 y4 y5 y6 y7)) ∧ (∀ y0 y1 y2 y3 y4 y5 y6 y7 y8 y9 y10, LeO (impl_BestBreaking.j2 k y0 y1 y2 y3 y4 y5 y6 y7 y8 y9 y10) (impl_BestBreaking.j2 (k + 1) y0 y1 y2 y3 y4 y5 y6 y7 y8 y9 y10)) ∧ (∀ y0 y1 y2 y3 y4 y5 y6 y7 y8 y9, LeO (impl_BestBreaking.j3 k y0 y1 y2 y3 y4 y5 y6 y7 y8 y9) (impl_BestBreaking.j3 (k + 1) y0 y1 y2 y3 y4 y5 y6 y7 y8 y9)) ∧ (∀ y0 y1 y2 y3 y4, LeO (impl_BestBreaking.l2 k y0 y1 y2 y3 y4) (impl_BestBreaking.l2 (k + 1) y0 y1 y2 y3 y4))
 | 0 => ⟨fun _ _ _ _ _ _ _ r h => by simp [impl_BestBreaking.l0] at h, fun _ _ _ _ _ _ _ _ r h => by simp [impl_BestBreaking.l1] at h, fun _ _ _ _ _ _ _ _ _ _ _ r h => by simp [impl_BestBreaking.j2] at h, fun _ _ _ _ _ _ _ _ _ _ r h => by simp [impl_BestBreaking.j3] at h, fun _ _ _ _ _ r h => by simp [impl_BestBreaking.l2] at h⟩
 | k + 1 => by
  obtain ⟨ih0, ih1, ih2, ih3, ih4⟩ := impl_BestBreaking.mono_l k
  refine ⟨?_, ?_, ?_, ?_, ?_⟩
  ·intro y0 y1 y2 y3 y4 y5 y6
   unfold impl_BestBreaking.l0
   repeat' first
   | (with_reducible exact ih0 _ _ _ _ _ _ _)
   | (with_reducible exact ih1 _ _ _ _ _ _ _ _)
   | (with_reducible exact ih2 _ _ _ _ _ _ _ _ _ _ _)
   | (with_reducible exact ih3 _ _ _ _ _ _ _ _ _ _)
   | (with_reducible exact ih4 _ _ _ _ _)
   | (with_reducible exact impl_kindOf.mono _ _ _ _ _)
   | (with_reducible exact impl_riseOf.mono _ _ _ _ _)
   | (with_reducible exact LeO.refl _)
   | (with_reducible exact LeO.none _)
   | (with_reducible refine LeO.ite ?_ ?_)
   | (with_reducible refine LeO.bind ?_ (fun _ => ?_))
   | exact ih0 _ _ _ _ _ _ _
   | exact ih1 _ _ _ _ _ _ _ _
   | exact ih2 _ _ _ _ _ _ _ _ _ _ _
   | exact ih3 _ _ _ _ _ _ _ _ _ _
   | exact ih4 _ _ _ _ _
   | exact impl_kindOf.mono _ _ _ _ _
   | exact impl_riseOf.mono _ _ _ _ _
   | exact LeO.none _
   | refine LeO.ite ?_ ?_
   | refine LeO.bind ?_ (fun _ => ?_)
  ·intro y0 y1 y2 y3 y4 y5 y6 y7
   unfold impl_BestBreaking.l1
   repeat' first
   | (with_reducible exact ih0 _ _ _ _ _ _ _)
   | (with_reducible exact ih1 _ _ _ _ _ _ _ _)
   | (with_reducible exact ih2 _ _ _ _ _ _ _ _ _ _ _)
   | (with_reducible exact ih3 _ _ _ _ _ _ _ _ _ _)
   | (with_reducible exact ih4 _ _ _ _ _)
   | (with_reducible exact impl_kindOf.mono _ _ _ _ _)
   | (with_reducible exact impl_riseOf.mono _ _ _ _ _)
   | (with_reducible exact LeO.refl _)
   | (with_reducible exact LeO.none _)
   | (with_reducible refine LeO.ite ?_ ?_)
   | (with_reducible refine LeO.bind ?_ (fun _ => ?_))
   | exact ih0 _ _ _ _ _ _ _
   | exact ih1 _ _ _ _ _ _ _ _
   | exact ih2 _ _ _ _ _ _ _ _ _ _ _
   | exact ih3 _ _ _ _ _ _ _ _ _ _
   | exact ih4 _ _ _ _ _
   | exact impl_kindOf.mono _ _ _ _ _
   | exact impl_riseOf.mono _ _ _ _ _
   | exact LeO.none _
   | refine LeO.ite ?_ ?_
   | refine LeO.bind ?_ (fun _ => ?_)
  ·intro y0 y1 y2 y3 y4 y5 y6 y7 y8 y9 y10
   unfold impl_BestBreaking.j2
   repeat' first
   | (with_reducible exact ih0 _ _ _ _ _ _ _)
   | (with_reducible exact ih1 _ _ _ _ _ _ _ _)
   | (with_reducible exact ih2 _ _ _ _ _ _ _ _ _ _ _)
   | (with_reducible exact ih3 _ _ _ _ _ _ _ _ _ _)
   | (with_reducible exact ih4 _ _ _ _ _)
   | (with_reducible exact impl_kindOf.mono _ _ _ _ _)
   | (with_reducible exact impl_riseOf.mono _ _ _ _ _)
   | (with_reducible exact LeO.refl _)
   | (with_reducible exact LeO.none _)
   | (with_reducible refine LeO.ite ?_ ?_)
   | (with_reducible refine LeO.bind ?_ (fun _ => ?_))
   | exact ih0 _ _ _ _ _ _ _
   | exact ih1 _ _ _ _ _ _ _ _
   | exact ih2 _ _ _ _ _ _ _ _ _ _ _
   | exact ih3 _ _ _ _ _ _ _ _ _ _
   | exact ih4 _ _ _ _ _
   | exact impl_kindOf.mono _ _ _ _ _
   | exact impl_riseOf.mono _ _ _ _ _
   | exact LeO.none _
   | refine LeO.ite ?_ ?_
   | refine LeO.bind ?_ (fun _ => ?_)
  ·intro y0 y1 y2 y3 y4 y5 y6 y7 y8 y9
   unfold impl_BestBreaking.j3
   repeat' first
   | (with_reducible exact ih0 _ _ _ _ _ _ _)
   | (with_reducible exact ih1 _ _ _ _ _ _ _ _)
   | (with_reducible exact ih2 _ _ _ _ _ _ _ _ _ _ _)
   | (with_reducible exact ih3 _ _ _ _ _ _ _ _ _ _)
   | (with_reducible exact ih4 _ _ _ _ _)
   | (with_reducible exact impl_kindOf.mono _ _ _ _ _)
   | (with_reducible exact impl_riseOf.mono _ _ _ _ _)
   | (with_reducible exact LeO.refl _)
   | (with_reducible exact LeO.none _)
   | (with_reducible refine LeO.ite ?_ ?_)
   | (with_reducible refine LeO.bind ?_ (fun _ => ?_))
   | exact ih0 _ _ _ _ _ _ _
   | exact ih1 _ _ _ _ _ _ _ _
   | exact ih2 _ _ _ _ _ _ _ _ _ _ _
   | exact ih3 _ _ _ _ _ _ _ _ _ _
   | exact ih4 _ _ _ _ _
   | exact impl_kindOf.mono _ _ _ _ _
   | exact impl_riseOf.mono _ _ _ _ _
   | exact LeO.none _
   | refine LeO.ite ?_ ?_
   | refine LeO.bind ?_ (fun _ => ?_)
  ·intro y0 y1 y2 y3 y4
   unfold impl_BestBreaking.l2
   repeat' first
   | (with_reducible exact ih0 _ _ _ _ _ _ _)
   | (with_reducible exact ih1 _ _ _ _ _ _ _ _)
   | (with_reducible exact ih2 _ _ _ _ _ _ _ _ _ _ _)
   | (with_reducible exact ih3 _ _ _ _ _ _ _ _ _ _)
   | (with_reducible exact ih4 _ _ _ _ _)
   | (with_reducible exact impl_kindOf.mono _ _ _ _ _)
   | (with_reducible exact impl_riseOf.mono _ _ _ _ _)
   | (with_reducible exact LeO.refl _)
   | (with_reducible exact LeO.none _)
   | (with_reducible refine LeO.ite ?_ ?_)
   | (with_reducible refine LeO.bind ?_ (fun _ => ?_))
   | exact ih0 _ _ _ _ _ _ _
   | exact ih1 _ _ _ _ _ _ _ _
   | exact ih2 _ _ _ _ _ _ _ _ _ _ _
   | exact ih3 _ _ _ _ _ _ _ _ _ _
   | exact ih4 _ _ _ _ _
   | exact impl_kindOf.mono _ _ _ _ _
   | exact impl_riseOf.mono _ _ _ _ _
   | exact LeO.none _
   | refine LeO.ite ?_ ?_
   | refine LeO.bind ?_ (fun _ => ?_)
theorem impl_BestBreaking.mono : ∀ a0 a1 a2 a3 k, LeO (impl_BestBreaking.f k a0 a1 a2 a3) (impl_BestBreaking.f (k + 1) a0 a1 a2 a3) := by
 intro a0 a1 a2 a3 k
 obtain ⟨ih0, ih1, ih2, ih3, ih4⟩ := impl_BestBreaking.mono_l k
 unfold impl_BestBreaking.f
 repeat' first
  | (with_reducible exact ih0 _ _ _ _ _ _ _)
  | (with_reducible exact ih1 _ _ _ _ _ _ _ _)
  | (with_reducible exact ih2 _ _ _ _ _ _ _ _ _ _ _)
  | (with_reducible exact ih3 _ _ _ _ _ _ _ _ _ _)
  | (with_reducible exact ih4 _ _ _ _ _)
  | (with_reducible exact impl_kindOf.mono _ _ _ _ _)
  | (with_reducible exact impl_riseOf.mono _ _ _ _ _)
  | (with_reducible exact LeO.refl _)
  | (with_reducible exact LeO.none _)
  | (with_reducible refine LeO.ite ?_ ?_)
  | (with_reducible refine LeO.bind ?_ (fun _ => ?_))
  | exact ih0 _ _ _ _ _ _ _
  | exact ih1 _ _ _ _ _ _ _ _
  | exact ih2 _ _ _ _ _ _ _ _ _ _ _
  | exact ih3 _ _ _ _ _ _ _ _ _ _
  | exact ih4 _ _ _ _ _
  | exact impl_kindOf.mono _ _ _ _ _
  | exact impl_riseOf.mono _ _ _ _ _
  | exact LeO.none _
  | refine LeO.ite ?_ ?_
  | refine LeO.bind ?_ (fun _ => ?_)
def impl_BestBreaking.T3 : Bool × List (List Nat × List Nat) := (true, [([], []), ([0], [0]), ([1], [1]), ([2, 2], [2]), ([], []), ([4], [4]), ([5], [5]), ([6, 6], [6]), ([3, 0, 1, 2, 3], [3]), ([7, 8, 0, 1, 2, 3, 4, 5, 6, 7, 8], [7])])
def impl_BestBreaking.B3 : List Nat := [0, 1, 3, 7, 0, 16, 48, 112, 15, 511]
theorem impl_BestBreaking.tab3 : rtab .any (opsOf Try.f39 3) = impl_BestBreaking.T3 := by kernel_rfl
theorem impl_BestBreaking.bits3 : waitsOk impl_BestBreaking.T3.2 impl_BestBreaking.B3 = true := by kernel_rfl
def impl_BestBreaking.T11 : Bool × List (List Nat × List Nat) := (true, [([], []), ([], []), ([], []), ([], []), ([], []), ([3, 4], [3, 4]), ([1, 2, 5], [1, 2, 5]), ([0, 6], [0, 6]), ([7, 7, 0, 1, 2, 3, 4, 5, 6, 7], [7]), ([8, 0, 1, 2, 3, 4, 5, 6, 7, 8], [])])
def impl_BestBreaking.B11 : List Nat := [0, 0, 0, 0, 0, 24, 62, 127, 255, 511]
theorem impl_BestBreaking.tab11 : rtab .any (opsOf Try.f39 11) = impl_BestBreaking.T11 := by kernel_rfl
theorem impl_BestBreaking.bits11 : waitsOk impl_BestBreaking.T11.2 impl_BestBreaking.B11 = true := by kernel_rfl
def impl_BestBreaking.T15 : Bool × List (List Nat × List Nat) := (true, [([], []), ([], []), ([], []), ([], []), ([], []), ([3, 4], [3, 4]), ([1, 2, 5], [1, 2, 5]), ([0, 6], [0, 6]), ([7, 7, 0, 1, 2, 3, 4, 5, 6, 7], [7])])
def impl_BestBreaking.B15 : List Nat := [0, 0, 0, 0, 0, 24, 62, 127, 255]
theorem impl_BestBreaking.tab15 : rtab .any (opsOf Try.f39 15) = impl_BestBreaking.T15 := by kernel_rfl
theorem impl_BestBreaking.bits15 : waitsOk impl_BestBreaking.T15.2 impl_BestBreaking.B15 = true := by kernel_rfl
set_option maxHeartbeats 8000000 in
set_option maxRecDepth 100000 in
theorem impl_BestBreaking.calls (k : Nat) (a0_0 : Int) (a0_1 : Int) (a0_2 : Int) (A1 : Option Addr) (c1 : Nat) (l1 : List Int) (r1 : List Int) (r2 : Int) (r3 : Bool) (w : World) (hr1 : Kd.C (Kd.int .i64) w A1 l1.length l1) (hc1 : l1.length ≤ c1) (h : impl_BestBreaking.f k a0_0 a0_1 a0_2 l1 = some (r1, r2, r3)) :
 Calls Try.prog 39 #[.agg #[.int .i64 a0_0, .int .i64 a0_1, .int .i64 a0_2], .slice A1 l1.length c1] w fun e w' => ∃ v0_ : Value, e = .returned (.tuple #[v0_, .int .i64 r2, .bool r3]) ∧ Kd.R (Kd.int .i64) 3 w' w.heap.size (fun _ => True) v0_ r1 ∧ Below w.heap.size w w' := by
 have hu27 := Try.underlying27
 have HR1 := Aside0.mk hr1
 have HC1 := Aside0.mk hc1
 clear hr1 hc1
 have HB := Aside0.mk (Below.refl w.heap.size w)
 have H : ((impl_both.f a0_0 a0_1 a0_2 l1).bind fun t173 => (if t173 = true then (if 0 ≤ (wrap64 ((l1.length : Int) + 1)) then (if (wrap64 ((l1.length : Int) + 1) : Int).toNat ≤ 35184372088832 then (impl_BestBreaking.l0 k l1 (List.replicate (wrap64 ((l1.length : Int) + 1) : Int).toNat 0) (List.replicate (wrap64 ((l1.length : Int) + 1) : Int).toNat 0) (wrap64 ((l1.length : Int) - 1)) a0_0 a0_1 a0_2) else (none)) else (none)) else (some (([] : List Int), 0, false)))) = some (r1, r2, r3) := h
 clear h
 replace H := Option.bind_eq_some_iff.mp H
 obtain ⟨t173, A30, H⟩ := H
 replace H : (if t173 = true then (if 0 ≤ (wrap64 ((l1.length : Int) + 1)) then (if (wrap64 ((l1.length : Int) + 1) : Int).toNat ≤ 35184372088832 then (impl_BestBreaking.l0 k l1 (List.replicate (wrap64 ((l1.length : Int) + 1) : Int).toNat 0) (List.replicate (wrap64 ((l1.length : Int) + 1) : Int).toNat 0) (wrap64 ((l1.length : Int) - 1)) a0_0 a0_1 a0_2) else (none)) else (none)) else (some (([] : List Int), 0, false))) = some (r1, r2, r3) := H
 have A3 := Aside0.mk A30
 clear A30
 by_cases c4 : t173 = true
 ·subst c4
  have H1 : (if 0 ≤ (wrap64 ((l1.length : Int) + 1)) then (if (wrap64 ((l1.length : Int) + 1) : Int).toNat ≤ 35184372088832 then (impl_BestBreaking.l0 k l1 (List.replicate (wrap64 ((l1.length : Int) + 1) : Int).toNat 0) (List.replicate (wrap64 ((l1.length : Int) + 1) : Int).toNat 0) (wrap64 ((l1.length : Int) - 1)) a0_0 a0_1 a0_2) else (none)) else (none)) = some (r1, r2, r3) := by rw [if_pos rfl] at H; exact H
  clear H
  have H := H1
  clear H1
  obtain ⟨ji5, hji5⟩ : ∃ j_ : Int, (wrap64 ((l1.length : Int) + 1)) = j_ := ⟨_, rfl⟩
  replace H : (if 0 ≤ (ji5) then (if (ji5 : Int).toNat ≤ 35184372088832 then (impl_BestBreaking.l0 k l1 (List.replicate (ji5 : Int).toNat 0) (List.replicate (ji5 : Int).toNat 0) (wrap64 ((l1.length : Int) - 1)) a0_0 a0_1 a0_2) else (none)) else (none)) = some (r1, r2, r3) := by first | (rw [hji5] at H; exact H) | (simp only [hji5] at H ⊢; exact H)
  (try rw [hji5] at A3)
  have hji5w : (IntKind.i64.wrap ((l1.length : Int) + 1)) = ji5 := (i64_w _).trans hji5
  by_cases c6 : 0 ≤ (ji5)
  ·rw [if_pos c6] at H
   have c6b0 := eq_true c6
   have c6b1 : decide (0 ≤ (ji5)) = true := decide_eq_true c6
   clear c6
   by_cases c7 : (ji5 : Int).toNat ≤ 35184372088832
   ·rw [if_pos c7] at H
    have c7b0 := eq_true c7
    have c7b1 : decide ((ji5 : Int).toNat ≤ 35184372088832) = true := decide_eq_true c7
    clear c7
    obtain ⟨y174, hy174⟩ : ∃ y_ : List Int, y_ = (List.replicate (ji5 : Int).toNat 0) := ⟨_, rfl⟩
    replace H : (impl_BestBreaking.l0 k l1 y174 (List.replicate (ji5 : Int).toNat 0) (wrap64 ((l1.length : Int) - 1)) a0_0 a0_1 a0_2) = some (r1, r2, r3) := by first | (rw [hy174]; with_reducible exact H) | (have H2_ := (Option.bind_some _ _).symm.trans H; rw [hy174]; with_reducible exact H2_) | (have H2_ := (Option.bind_some _ _).symm.trans H; with_reducible exact H2_) | with_reducible exact H | (rw [hy174]; exact H) | exact H
    have Ny174 := Aside0.mk hy174
    clear hy174
    obtain ⟨y177, hy177⟩ : ∃ y_ : List Int, y_ = (List.replicate (ji5 : Int).toNat 0) := ⟨_, rfl⟩
    replace H : (impl_BestBreaking.l0 k l1 y174 y177 (wrap64 ((l1.length : Int) - 1)) a0_0 a0_1 a0_2) = some (r1, r2, r3) := by first | (rw [hy177]; with_reducible exact H) | (have H2_ := (Option.bind_some _ _).symm.trans H; rw [hy177]; with_reducible exact H2_) | (have H2_ := (Option.bind_some _ _).symm.trans H; with_reducible exact H2_) | with_reducible exact H | (rw [hy177]; exact H) | exact H
    have Ny177 := Aside0.mk hy177
    clear hy177
    have H' := Aside0.mk H
    clear H
    go_enter Try.func39, Try.ntmps39
    try go_wp2_with (first | ((with_reducible refine gate_dst (N := 2) rfl ?_); refine box_event ?hg (N := 2) ?hd (cs := #[.int .i64 a0_0, .int .i64 a0_1, .int .i64 a0_2]) (t := 27) ?hr ?_; (case hd => rfl); (case hg => rfl); (case hr => first | (go_simp; done) | (go_simp; rfl)); intro gb172 hg w8 hbox hb; have n0_ := Aside0.mk (below_step zp0 hb); have n1_ := Aside0.mk (hbox); have n2_ := Aside0.mk ((zp6 : w.heap.size ≤ gb172)); have n3_ := Aside0.mk ((zp6 : w.heap.size ≤ gb172)); clear HB; have HB := n0_; have BK172 := n1_; have GW172 := n2_; have GE172 := n3_; clear n0_ n1_ n2_ n3_; clear hb hbox hg; have hcz9_0 : w8.cell? ⟨gb172, 0, none⟩ = some (.int .i64 a0_0) := (blk_cell BK172.out 0).trans rfl; have hcz9_1 : w8.cell? ⟨gb172, 1, none⟩ = some (.int .i64 a0_1) := (blk_cell BK172.out 1).trans rfl; have hcz9_2 : w8.cell? ⟨gb172, 2, none⟩ = some (.int .i64 a0_2) := (blk_cell BK172.out 2).trans rfl; have hfz9_0 := blk_frozen BK172.out 0; have hfz9_1 := blk_frozen BK172.out 1; have hfz9_2 := blk_frozen BK172.out 2) | ((with_reducible refine gate_callee (f := 50) rfl ?_); refine goesL_ (some 18) rfl rfl Try.func50 (by kernel_rfl) rfl #[.agg #[.int .i64 a0_0, .int .i64 a0_1, .int .i64 a0_2], .slice A1 l1.length c1] rfl zp1 ?_; (with_reducible refine (impl_both.calls a0_0 a0_1 a0_2 _ _ l1 true _ ?side1 ?side2 A3.out).mono ?_); (case side1 => repeat (first | exact (Kd.C_below HR1.out HB.out) | (with_reducible refine Kd.C_alloc ?_ _) | (with_reducible refine Kd.C_drewN ?_ _) | (with_reducible refine Kd.C_drew ?_))); (case side2 => exact HC1.out); rintro e w10 ⟨rfl, hb⟩; refine ⟨_, rfl, ?_⟩; have n0_ := Aside0.mk (blk_below (g := gb172) (o := .cells #[.int .i64 a0_0, .int .i64 a0_1, .int .i64 a0_2] 27 (0, 0)) zp14 hb); have n1_ := Aside0.mk (below_step zp10 hb); clear BK172; clear HB; have BK172 := n0_; have HB := n1_; clear n0_ n1_; (try clear hb); (try clear hb2); (try clear hk); (try clear hi)))
    have n0_ := Aside0.mk (blk_drew BK172.out)
    have n1_ := Aside0.mk (below_drew1 HB.out)
    clear BK172
    clear HB
    have BK172 := n0_
    have HB := n1_
    clear n0_ n1_
    refine start_ (n := 10) (S := fun w' => True) (ds := []) #[false, false, false, false, false, false, false, false, false, false] (by kernel_rfl) rfl rfl trivial (fun hHeld => ?_); refine with_tabW impl_BestBreaking.tab3 impl_BestBreaking.bits3 (fun HT_ HW_ => ?_)
    generalize w10.drew = w11 at BK172 HB hHeld ⊢
    refine pure_ (i := 0) (N := some 20) (v := ?_) (a' := ?_) #[true, false, false, false, false, false, false, false, false, false] rfl rfl (any_of HT_.out (by kernel_rfl)) (fun _ _ _ h => h) (Or.inl ⟨by rfl, ?_⟩) ?_ ?_
    rotate_left
    ·intro w'
     go_simp
     with_reducible rfl
    rotate_left
    ·simp only [Act.put, List.setIfInBounds_toArray, List.set_cons_zero, List.set_cons_succ, i64_w, i32_w]
     rfl
    refine pure_ (i := 1) (N := some 21) (v := ?_) (a' := ?_) #[true, true, false, false, false, false, false, false, false, false] rfl rfl (any_of HT_.out (by kernel_rfl)) (fun _ _ _ h => h) (Or.inl ⟨by rfl, ?_⟩) ?_ ?_
    rotate_left
    ·intro w'
     go_simp
     with_reducible rfl
    rotate_left
    ·simp only [Act.put, List.setIfInBounds_toArray, List.set_cons_zero, List.set_cons_succ, i64_w, i32_w]
     rfl
    refine pure_ (i := 2) (N := some 22) (v := ?_) (a' := ?_) #[true, true, true, false, false, false, false, false, false, false] rfl rfl (any_of HT_.out (by kernel_rfl)) (fun _ _ _ h => h) (Or.inl ⟨by rfl, ?_⟩) ?_ ?_
    rotate_left
    ·intro w'
     go_simp
     with_reducible rfl
    rotate_left
    ·simp only [Act.put, List.setIfInBounds_toArray, List.set_cons_zero, List.set_cons_succ, i64_w, i32_w]
     rfl
    refine pure_ (i := 4) (N := some 24) (v := ?_) (a' := ?_) #[true, true, true, false, true, false, false, false, false, false] rfl rfl (any_of HT_.out (by kernel_rfl)) (fun _ _ _ h => h) (Or.inl ⟨by rfl, ?_⟩) ?_ ?_
    rotate_left
    ·intro w'
     go_simp
     with_reducible rfl
    rotate_left
    ·simp only [Act.put, List.setIfInBounds_toArray, List.set_cons_zero, List.set_cons_succ, i64_w, i32_w]
     rfl
    refine pure_ (i := 5) (N := some 25) (v := ?_) (a' := ?_) #[true, true, true, false, true, true, false, false, false, false] rfl rfl (any_of HT_.out (by kernel_rfl)) (fun _ _ _ h => h) (Or.inl ⟨by rfl, ?_⟩) ?_ ?_
    rotate_left
    ·intro w'
     go_simp
     with_reducible rfl
    rotate_left
    ·simp only [Act.put, List.setIfInBounds_toArray, List.set_cons_zero, List.set_cons_succ, i64_w, i32_w]
     rfl
    refine pure_ (i := 6) (N := some 26) (v := ?_) (a' := ?_) #[true, true, true, false, true, true, true, false, false, false] rfl rfl (any_of HT_.out (by kernel_rfl)) (fun _ _ _ h => h) (Or.inl ⟨by rfl, ?_⟩) ?_ ?_
    rotate_left
    ·intro w'
     go_simp
     with_reducible rfl
    rotate_left
    ·simp only [Act.put, List.setIfInBounds_toArray, List.set_cons_zero, List.set_cons_succ, i64_w, i32_w]
     rfl
    refine join_ (σ := Value × Value) 1 #[true, true, true, true, true, true, true, true, true, false] (fun s_ => [(23, s_.1), (27, s_.2), (7, s_.1)]) (fun s_ w' => (Kd.R (Kd.int .i64) 3 w' w.heap.size (fun k_ => some k_ ≠ (s_.2 : Value).ownBlock) s_.1 y174) ∧ (Kd.R (Kd.int .i64) 3 w' w.heap.size (fun k_ => some k_ ≠ (s_.1 : Value).ownBlock) s_.2 y177) ∧ (w'.heap[gb172]? = some (.cells #[.int .i64 a0_0, .int .i64 a0_1, .int .i64 a0_2] 27 (0, 0))) ∧ (Below w.heap.size w w')) ?_ ?_
    rotate_left
    ·intro hCont
     refine two_ (i := 3) (j := 7) (Ni := some 23) (Nj := some 27) #[true, true, true, true, true, true, true, false, false, false] #[true, true, true, false, true, true, true, true, false, false] rfl rfl rfl rfl (two_of HT_.out (by kernel_rfl)) (by decide) (by decide) (fun K hK => ?_) (fun K hK => ?_)
     ·skip
      refine Kd.R_make_step (Kd.int .i64) _ 3 (by rfl) (N := 23) rfl 24 _ _ rfl ji5 rfl rfl Try.underlying24 (.int .i64 0) 8 info3 rfl (by decide) zp74 0 (ok := fun _ => True) (okp := fun _ => True) rfl (fun _ hk => hk) trivial (of_decide_eq_true zp2) (Nat.le_trans (Nat.mul_le_mul_right _ (of_decide_eq_true zp2 : ji5.toNat ≤ 35184372088832)) zp74) (Below.refl _ _) (Nat.le_refl _) ?_
      intro v175 w12 ho13 hb hg_ hnew_
      clear hg_ hnew_
      (first | rw [← Ny174.out] at ho13 | (simp only [Int.reduceToNat] at ho13; rw [← Ny174.out] at ho13))
      have n0_ := Aside0.mk (Kd.R_lower ho13 (below_size zp10))
      have n1_ := Aside0.mk (blk_below (g := gb172) (o := .cells #[.int .i64 a0_0, .int .i64 a0_1, .int .i64 a0_2] 27 (0, 0)) zp14 hb)
      have n2_ := Aside0.mk (below_step zp10 hb)
      clear BK172
      clear HB
      have HO176 := n0_
      have BK172 := n1_
      have HB := n2_
      clear n0_ n1_ n2_
      clear hb ho13
      refine hK.out _ _ trivial (fun hHeld => ?_)
      clear hK K
      refine norm_ (a' := ?_) ?_ ?_
      rotate_left
      ·show Act.put _ (some 23) _ = _
       simp only [Act.put, List.setIfInBounds_toArray, List.set_cons_zero, List.set_cons_succ, i64_w, i32_w]
       rfl
      refine pure_ (i := 8) (N := some 7) (v := ?_) (a' := ?_) #[true, true, true, true, true, true, true, false, true, false] rfl rfl (any_of HT_.out (by kernel_rfl)) (fun _ _ _ h => h) (Or.inl ⟨by rfl, ?_⟩) ?_ ?_
      rotate_left
      ·intro w'
       go_simp
       with_reducible rfl
      rotate_left
      ·simp only [Act.put, List.setIfInBounds_toArray, List.set_cons_zero, List.set_cons_succ, i64_w, i32_w]
       rfl
      refine one_ (i := 7) (N := some 27) #[true, true, true, true, true, true, true, true, true, false] rfl rfl (one_of HT_.out (by kernel_rfl)) (by decide) (fun K hK => ?_)
      refine Kd.R_make_step (Kd.int .i64) _ 3 (by rfl) (N := 27) rfl 24 _ _ rfl ji5 rfl rfl Try.underlying24 (.int .i64 0) 8 info3 rfl (by decide) zp74 0 (ok := fun _ => True) (okp := fun _ => True) rfl (fun _ hk => hk) trivial (of_decide_eq_true zp2) (Nat.le_trans (Nat.mul_le_mul_right _ (of_decide_eq_true zp2 : ji5.toNat ≤ 35184372088832)) zp74) (Below.refl _ _) (Nat.le_refl _) ?_
      intro v178 w14 ho15 hb hg_ hnew_
      clear hg_ hnew_
      (first | rw [← Ny177.out] at ho15 | (simp only [Int.reduceToNat] at ho15; rw [← Ny177.out] at ho15))
      have n0_ := Aside0.mk (Kd.R_elder' (by (with_reducible repeat (first | apply Kd.R_alloc | apply Kd.R_drewN | apply Kd.R_drew)); exact HO176.out) (Kd.R_base ho15) hb)
      have n1_ := Aside0.mk (Kd.R_lower (Kd.R_new' ho15 (Kd.R_lt (by (with_reducible repeat (first | apply Kd.R_alloc | apply Kd.R_drewN | apply Kd.R_drew)); exact HO176.out))) (below_size zp10))
      have n2_ := Aside0.mk (blk_below (g := gb172) (o := .cells #[.int .i64 a0_0, .int .i64 a0_1, .int .i64 a0_2] 27 (0, 0)) zp14 hb)
      have n3_ := Aside0.mk (below_step zp10 hb)
      clear HO176
      clear BK172
      clear HB
      have HO176 := n0_
      have HO179 := n1_
      have BK172 := n2_
      have HB := n3_
      clear n0_ n1_ n2_ n3_
      clear hb ho15
      refine hK.out _ _ trivial (fun hHeld => ?_)
      clear hK K
      refine norm_ (a' := ?_) ?_ ?_
      rotate_left
      ·show Act.put _ (some 27) _ = _
       simp only [Act.put, List.setIfInBounds_toArray, List.set_cons_zero, List.set_cons_succ, i64_w, i32_w]
       rfl
      exact norm_ (by simp only [putAll, Act.put, List.setIfInBounds_toArray, List.set_cons_zero, List.set_cons_succ]) (hCont (v175, v178) _ ⟨(by (with_reducible repeat (first | apply Kd.R_alloc | apply Kd.R_drewN | apply Kd.R_drew)); exact Kd.R_mono HO176.out (fun _ hk => hk.2)), (by (with_reducible repeat (first | apply Kd.R_alloc | apply Kd.R_drewN | apply Kd.R_drew)); exact Kd.R_mono HO179.out (fun _ hk => hk.2)), zp14, zp10⟩)
     ·skip
      refine Kd.R_make_step (Kd.int .i64) _ 3 (by rfl) (N := 27) rfl 24 _ _ rfl ji5 rfl rfl Try.underlying24 (.int .i64 0) 8 info3 rfl (by decide) zp74 0 (ok := fun _ => True) (okp := fun _ => True) rfl (fun _ hk => hk) trivial (of_decide_eq_true zp2) (Nat.le_trans (Nat.mul_le_mul_right _ (of_decide_eq_true zp2 : ji5.toNat ≤ 35184372088832)) zp74) (Below.refl _ _) (Nat.le_refl _) ?_
      intro v178 w12 ho13 hb hg_ hnew_
      clear hg_ hnew_
      (first | rw [← Ny177.out] at ho13 | (simp only [Int.reduceToNat] at ho13; rw [← Ny177.out] at ho13))
      have n0_ := Aside0.mk (Kd.R_lower ho13 (below_size zp10))
      have n1_ := Aside0.mk (blk_below (g := gb172) (o := .cells #[.int .i64 a0_0, .int .i64 a0_1, .int .i64 a0_2] 27 (0, 0)) zp14 hb)
      have n2_ := Aside0.mk (below_step zp10 hb)
      clear BK172
      clear HB
      have HO179 := n0_
      have BK172 := n1_
      have HB := n2_
      clear n0_ n1_ n2_
      clear hb ho13
      refine hK.out _ _ trivial (fun hHeld => ?_)
      clear hK K
      refine norm_ (a' := ?_) ?_ ?_
      rotate_left
      ·show Act.put _ (some 27) _ = _
       simp only [Act.put, List.setIfInBounds_toArray, List.set_cons_zero, List.set_cons_succ, i64_w, i32_w]
       rfl
      refine one_ (i := 3) (N := some 23) #[true, true, true, true, true, true, true, true, false, false] rfl rfl (one_of HT_.out (by kernel_rfl)) (by decide) (fun K hK => ?_)
      refine Kd.R_make_step (Kd.int .i64) _ 3 (by rfl) (N := 23) rfl 24 _ _ rfl ji5 rfl rfl Try.underlying24 (.int .i64 0) 8 info3 rfl (by decide) zp74 0 (ok := fun _ => True) (okp := fun _ => True) rfl (fun _ hk => hk) trivial (of_decide_eq_true zp2) (Nat.le_trans (Nat.mul_le_mul_right _ (of_decide_eq_true zp2 : ji5.toNat ≤ 35184372088832)) zp74) (Below.refl _ _) (Nat.le_refl _) ?_
      intro v175 w14 ho15 hb hg_ hnew_
      clear hg_ hnew_
      (first | rw [← Ny174.out] at ho15 | (simp only [Int.reduceToNat] at ho15; rw [← Ny174.out] at ho15))
      have n0_ := Aside0.mk (Kd.R_elder' (by (with_reducible repeat (first | apply Kd.R_alloc | apply Kd.R_drewN | apply Kd.R_drew)); exact HO179.out) (Kd.R_base ho15) hb)
      have n1_ := Aside0.mk (Kd.R_lower (Kd.R_new' ho15 (Kd.R_lt (by (with_reducible repeat (first | apply Kd.R_alloc | apply Kd.R_drewN | apply Kd.R_drew)); exact HO179.out))) (below_size zp10))
      have n2_ := Aside0.mk (blk_below (g := gb172) (o := .cells #[.int .i64 a0_0, .int .i64 a0_1, .int .i64 a0_2] 27 (0, 0)) zp14 hb)
      have n3_ := Aside0.mk (below_step zp10 hb)
      clear HO179
      clear BK172
      clear HB
      have HO179 := n0_
      have HO176 := n1_
      have BK172 := n2_
      have HB := n3_
      clear n0_ n1_ n2_ n3_
      clear hb ho15
      refine hK.out _ _ trivial (fun hHeld => ?_)
      clear hK K
      refine norm_ (a' := ?_) ?_ ?_
      rotate_left
      ·show Act.put _ (some 23) _ = _
       simp only [Act.put, List.setIfInBounds_toArray, List.set_cons_zero, List.set_cons_succ, i64_w, i32_w]
       rfl
      refine pure_ (i := 8) (N := some 7) (v := ?_) (a' := ?_) #[true, true, true, true, true, true, true, true, true, false] rfl rfl (any_of HT_.out (by kernel_rfl)) (fun _ _ _ h => h) (Or.inl ⟨by rfl, ?_⟩) ?_ ?_
      rotate_left
      ·intro w'
       go_simp
       with_reducible rfl
      rotate_left
      ·simp only [Act.put, List.setIfInBounds_toArray, List.set_cons_zero, List.set_cons_succ, i64_w, i32_w]
       rfl
      exact norm_ (by simp only [putAll, Act.put, List.setIfInBounds_toArray, List.set_cons_zero, List.set_cons_succ]) (hCont (v175, v178) _ ⟨(by (with_reducible repeat (first | apply Kd.R_alloc | apply Kd.R_drewN | apply Kd.R_drew)); exact Kd.R_mono HO176.out (fun _ hk => hk.2)), (by (with_reducible repeat (first | apply Kd.R_alloc | apply Kd.R_drewN | apply Kd.R_drew)); exact Kd.R_mono HO179.out (fun _ hk => hk.2)), zp14, zp10⟩)
    rintro ⟨v175, v178⟩ w16 ⟨h0_, h1_, h2_, h3_⟩
    have n0_ : Aside0 (Kd.R (Kd.int .i64) 3 w16 w.heap.size (fun k_ => some k_ ≠ (v178 : Value).ownBlock) v175 y174) := ⟨h0_⟩
    have n1_ : Aside0 (Kd.R (Kd.int .i64) 3 w16 w.heap.size (fun k_ => some k_ ≠ (v175 : Value).ownBlock) v178 y177) := ⟨h1_⟩
    have n2_ : Aside0 (w16.heap[gb172]? = some (.cells #[.int .i64 a0_0, .int .i64 a0_1, .int .i64 a0_2] 27 (0, 0))) := ⟨h2_⟩
    have n3_ : Aside0 (Below w.heap.size w w16) := ⟨h3_⟩
    clear BK172
    clear HB
    clear h0_ h1_ h2_ h3_
    have HO176 := n0_
    have HO179 := n1_
    have BK172 := n2_
    have HB := n3_
    clear n0_ n1_ n2_ n3_
    have hHeld := trivial
    refine norm_ (a' := ?_) ?_ ?_
    rotate_left
    ·simp only [putAll, Act.put, List.setIfInBounds_toArray, List.set_cons_zero, List.set_cons_succ]
     rfl
    refine pure_ (i := 9) (N := some 8) (v := ?_) (a' := ?_) #[true, true, true, true, true, true, true, true, true, true] rfl rfl (any_of HT_.out (by kernel_rfl)) (fun _ _ _ h => h) (Or.inl ⟨by rfl, ?_⟩) ?_ ?_
    rotate_left
    ·intro w'
     go_simp
     with_reducible rfl
    rotate_left
    ·simp only [Act.put, List.setIfInBounds_toArray, List.set_cons_zero, List.set_cons_succ, i64_w, i32_w]
     rfl
    refine done_ (done_of HT_.out (by kernel_rfl)) ?_
    try go_wp2
    go_loopg [9] k (fun kq v9 w' => ∃ (x7_1 : List Int) (x8_1 : List Int) (x9_1 : Int), v9 = .int .i64 x9_1 ∧ Aside0 (impl_BestBreaking.l0 kq l1 x7_1 x8_1 x9_1 a0_0 a0_1 a0_2 = some (r1, r2, r3)) ∧ Aside0 (kq ≤ k) ∧ Aside0 (Kd.R (Kd.int .i64) 3 w' w.heap.size (fun k_ => some k_ ≠ (v178 : Value).ownBlock) v175 x7_1) ∧ Aside0 (Kd.R (Kd.int .i64) 3 w' w.heap.size (fun k_ => some k_ ≠ (v175 : Value).ownBlock) v178 x8_1) ∧ Aside0 (w'.heap[gb172]? = some (.cells #[.int .i64 a0_0, .int .i64 a0_1, .int .i64 a0_2] 27 (0, 0))) ∧ Aside0 (Below w.heap.size w w'))
    case atStart => exact ⟨(y174), (y177), (wrap64 ((l1.length : Int) - 1)), zp5, H', ⟨Nat.le_refl _⟩, ⟨by (with_reducible repeat (first | apply Kd.R_alloc | apply Kd.R_drewN | apply Kd.R_drew)); exact HO176.out⟩, ⟨by (with_reducible repeat (first | apply Kd.R_alloc | apply Kd.R_drewN | apply Kd.R_drew)); exact HO179.out⟩, ⟨by (with_reducible repeat (first | refine blk_drewN ?_ _ | refine blk_drew ?_ | refine blk_alloc ?_ _)); exact BK172.out⟩, ⟨by repeat (first | (with_reducible first | exact HB.out | apply below_alloc | apply pw_below_drewN | apply below_drew1 | refine below_set ?_ GE172.out) | exact HB.out)⟩⟩
    case round =>
     clear H'
     try clear c1
     try clear p2
     try clear c3
     try clear c4
     try clear c5
     try clear c6
     try clear c6b0
     try clear c6b1
     try clear p6
     try clear c7
     try clear c7b0
     try clear c7b1
     try clear hcz9_0
     try clear hcz9_1
     try clear hcz9_2
     try clear hfz9_0
     try clear hfz9_1
     try clear hfz9_2
     obtain ⟨x7_1, x8_1, x9_1, rfl, HA, HK1, HO_7, HO_8, BK172, HB⟩ := hrel
     cases gk with
     | zero => exact absurd HA.out (by simp [impl_BestBreaking.l0])
     | succ k1 =>
      have H := HA.out
      clear HA
      simp only [impl_BestBreaking.l0] at H
      by_cases c17 : x9_1 ≥ 0
      ·rw [if_pos c17] at H
       have c17b0 : decide (0 ≤ x9_1) = true := decide_eq_true c17
       clear c17
       by_cases c18 : 0 ≤ x9_1
       ·rw [if_pos c18] at H
        have c18b0 : decide (0 ≤ x9_1) = true := decide_eq_true c18
        clear c18
        by_cases c19 : x9_1 < (x7_1.length : Int)
        ·rw [if_pos c19] at H
         have c19b0 : decide (x9_1 < (x7_1.length : Int)) = true := decide_eq_true c19
         clear c19
         obtain ⟨y180, hy180⟩ : ∃ y_ : List Int, y_ = (x7_1.set (x9_1 : Int).toNat (-1)) := ⟨_, rfl⟩
         replace H : (impl_BestBreaking.l1 k1 l1 y180 x8_1 x9_1 1 a0_0 a0_1 a0_2) = some (r1, r2, r3) := by first | (rw [hy180]; with_reducible exact H) | (have H2_ := (Option.bind_some _ _).symm.trans H; rw [hy180]; with_reducible exact H2_) | (have H2_ := (Option.bind_some _ _).symm.trans H; with_reducible exact H2_) | with_reducible exact H | (rw [hy180]; exact H) | exact H
         have Ny180 := Aside0.mk hy180
         clear hy180
         have H' := Aside0.mk H
         clear H
         have p20 : 0 ≤ (x9_1 : Int) := of_decide_eq_true zp2
         have q20 : (x9_1 : Int) < ((x7_1.length : Int) : Int) := of_decide_eq_true zp2
         obtain ⟨go20, co20, eo20, gb20, gl20, cl20, HG20⟩ := Kd.R_form HO_7.out zp74
         (first | cases eo20 | (injection eo20 with ea_ en_ ec_; (first | subst ea_ | (injection ea_ with ea_; subst ea_)); subst ec_; clear en_))
         have GB20 := Aside0.mk gb20
         have GG20 := Aside0.mk HG20
         clear gb20 gl20 HG20
         obtain ⟨hx20_0, hf20_0⟩ := Kd.R_celln 0 HO_7.out (x9_1 : Int) p20 q20
         replace p20 := eq_true p20
         replace q20 := eq_true q20
         have HP21 := Kd.R_putg HO_7.out (x9_1 : Int) (-1)
         go_wp2_with (first | ((with_reducible refine gate_store (t := 3) (p := 37) rfl ?_); refine store_event (t := 3) (p := 37) (v := ?vo_w22) (w1 := (wr.setCell ⟨go20, (x9_1 : Int).toNat, none⟩ (.int .i64 (-1)))) ?hg ?ho ?hn ?hr ?_; (case ho => rfl); (case hg => rfl); (case hn => rfl); (case hr => first | (go_simp; done) | (go_simp; rfl)); intro w22 hw; have hg : wr.grownBy w22 (some go20) := (by rw [hw]; exact HP21.2); have hp_ : Kd.R (Kd.int .i64) 3 w22 w.heap.size (fun k_ => some k_ ≠ (v178 : Value).ownBlock) (.slice (some ⟨go20, 0, none⟩) x7_1.length co20) y180 := (by rw [hw, Ny180.out]; exact HP21.1); clear HP21; have n0_ := Aside0.mk (hp_); have n1_ := Aside0.mk (Kd.R_after (v := (.slice (some ⟨go20, 0, none⟩) x7_1.length co20)) (v1 := (.slice (some ⟨go20, 0, none⟩) x7_1.length co20)) (ok := (fun _ => True)) zp42 hg (.inl rfl)); have n2_ := Aside0.mk (blk_grown (g := gb172) (o := .cells #[.int .i64 a0_0, .int .i64 a0_1, .int .i64 a0_2] 27 (0, 0)) zp14 hg (Kd.R_ne HO_7.out BK172.out (by decide))); have n3_ := Aside0.mk ((by rw [hw]; exact below_set (HB.out) GB20.out : Below w.heap.size w w22)); clear HO_7; clear HO_8; clear BK172; clear HB; have HO_7 := n0_; have HO_8 := n1_; have BK172 := n2_; have HB := n3_; clear n0_ n1_ n2_ n3_; clear hg hw hp_))
         go_loopg [10] k1 (fun kq v10 w' => ∃ (x7_2 : List Int) (x8_2 : List Int) (x10_2 : Int), v10 = .int .i64 x10_2 ∧ Aside0 (impl_BestBreaking.l1 kq l1 x7_2 x8_2 x9_1 x10_2 a0_0 a0_1 a0_2 = some (r1, r2, r3)) ∧ Aside0 (kq ≤ k1) ∧ Aside0 (Kd.R (Kd.int .i64) 3 w' w.heap.size (fun k_ => some k_ ≠ (v178 : Value).ownBlock) (.slice (some ⟨go20, 0, none⟩) x7_1.length co20) x7_2) ∧ Aside0 (Kd.R (Kd.int .i64) 3 w' w.heap.size (fun k_ => some k_ ≠ ((.slice (some ⟨go20, 0, none⟩) x7_1.length co20) : Value).ownBlock) v178 x8_2) ∧ Aside0 (w'.heap[gb172]? = some (.cells #[.int .i64 a0_0, .int .i64 a0_1, .int .i64 a0_2] 27 (0, 0))) ∧ Aside0 (Below w.heap.size w w'))
         case atStart => exact ⟨(y180), (x8_1), (1), zp5, H', ⟨Nat.le_refl _⟩, ⟨by (with_reducible repeat (first | apply Kd.R_alloc | apply Kd.R_drewN | apply Kd.R_drew)); exact HO_7.out⟩, ⟨by (with_reducible repeat (first | apply Kd.R_alloc | apply Kd.R_drewN | apply Kd.R_drew)); exact Kd.R_mono HO_8.out (fun _ hk => hk.2)⟩, ⟨by (with_reducible repeat (first | refine blk_drewN ?_ _ | refine blk_drew ?_ | refine blk_alloc ?_ _)); exact BK172.out⟩, ⟨by repeat (first | (with_reducible first | exact HB.out | apply below_alloc | apply pw_below_drewN | apply below_drew1 | refine below_set ?_ GE172.out) | exact HB.out)⟩⟩
         case round =>
          clear H'
          try clear c1
          try clear p2
          try clear q2
          try clear hx2
          try clear hf2
          try clear c3
          try clear c4
          try clear c5
          try clear c6
          try clear c6b0
          try clear c6b1
          try clear p6
          try clear c7
          try clear c7b0
          try clear c7b1
          try clear c17
          try clear c17b0
          try clear c18
          try clear c18b0
          try clear c19
          try clear c19b0
          try clear p20
          try clear q20
          try clear hx20
          try clear hf20
          try clear hcz9_0
          try clear hcz9_1
          try clear hcz9_2
          try clear hfz9_0
          try clear hfz9_1
          try clear hfz9_2
          try clear hx20_0
          try clear p2
          try clear p20
          try clear p6
          try clear q20
          obtain ⟨x7_2, x8_2, x10_2, rfl, HA, HK2, HO_7, HO_8, BK172, HB⟩ := hrel
          have hl7_2 := (Kd.R_reads' HO_7.out).1
          rw [hl7_2] at HO_7
          (try simp only [hl7_2])
          (try simp only [hl7_2] at BK172)
          (try simp only [hl7_2] at HO_8)
          cases gk with
          | zero => exact absurd HA.out (by simp [impl_BestBreaking.l1])
          | succ k2 =>
           have H := HA.out
           clear HA
           simp only [impl_BestBreaking.l1] at H
           by_cases c23 : (wrap64 (x9_1 + x10_2)) ≤ (l1.length : Int)
           ·rw [if_pos c23] at H
            have c23b0 : decide ((wrap64 (x9_1 + x10_2)) ≤ (l1.length : Int)) = true := decide_eq_true c23
            clear c23
            by_cases c24 : 0 ≤ x9_1
            ·rw [if_pos c24] at H
             have c24b0 := eq_true c24
             have c24b1 : decide (0 ≤ x9_1) = true := decide_eq_true c24
             clear c24
             by_cases c25 : x9_1 ≤ (wrap64 (x9_1 + x10_2))
             ·rw [if_pos c25] at H
              have c25b0 := eq_true c25
              have c25b1 : decide (x9_1 ≤ (wrap64 (x9_1 + x10_2))) = true := decide_eq_true c25
              have c26b0 := eq_true (of_decide_eq_true zp2 : (wrap64 (x9_1 + x10_2)) ≤ (l1.length : Int))
              replace H := Option.bind_eq_some_iff.mp H
              obtain ⟨t182, A270, H⟩ := H
              replace H : (if (wrap64 (x9_1 + x10_2)) = (l1.length : Int) then (impl_BestBreaking.j2 k2 l1 x7_2 x8_2 x9_1 x10_2 t182 0 (t182 == 0) a0_0 a0_1 a0_2) else (impl_BestBreaking.j2 k2 l1 x7_2 x8_2 x9_1 x10_2 t182 0 false a0_0 a0_1 a0_2)) = some (r1, r2, r3) := H
              have A27 := Aside0.mk A270
              clear A270
              have HC28 := Aside0.mk H
              clear H
              try go_wp2
              have n0_ := Aside0.mk (Kd.R_drew HO_7.out)
              have n1_ := Aside0.mk (Kd.R_drew HO_8.out)
              have n2_ := Aside0.mk (blk_drew BK172.out)
              have n3_ := Aside0.mk (below_drew1 HB.out)
              clear HO_7
              clear HO_8
              clear BK172
              clear HB
              have HO_7 := n0_
              have HO_8 := n1_
              have BK172 := n2_
              have HB := n3_
              clear n0_ n1_ n2_ n3_
              obtain ⟨i030, hi030, _, hsz30, _⟩ := info_parts info3
              obtain ⟨A30, hcut30, hA30, hC30⟩ := print_mid_of (P := Try.prog) (Value.int .i64) 0 24 3 .i64 .i64 Try.underlying24 hi030 hsz30 A1 c1 l1 x9_1 (wrap64 (x9_1 + x10_2)) (of_decide_eq_true zp2) zp41 (of_decide_eq_true zp2) HC1.out
              have HR181 := Aside0.mk (Kd.C_of_reads (h1 := fun _ => rfl) (hA30 _ (Kd.reads_of_C HR1.out)))
              have HC181 := Aside0.mk hC30
              clear hA30 hC30 hi030 hsz30
              refine start_ (n := 10) (S := fun w' => w'.cell? ⟨gb172, 0, none⟩ = some (.int .i64 a0_0) ∧ w'.cell? ⟨gb172, 1, none⟩ = some (.int .i64 a0_1) ∧ w'.cell? ⟨gb172, 2, none⟩ = some (.int .i64 a0_2)) (ds := []) #[false, false, false, false, false, false, false, false, false, false] (by kernel_rfl) rfl rfl ⟨(blk_cell BK172.out 0).trans rfl, (blk_cell BK172.out 1).trans rfl, (blk_cell BK172.out 2).trans rfl⟩ (fun hHeld => ?_); refine with_tabW impl_BestBreaking.tab11 impl_BestBreaking.bits11 (fun HT_ HW_ => ?_)
              generalize wr.drew = w29 at HO_7 HO_8 BK172 HB HR181 hHeld ⊢
              refine pure_ (i := 1) (N := some 47) (v := ?_) (a' := ?_) #[false, true, false, false, false, false, false, false, false, false] rfl rfl (any_of HT_.out (by kernel_rfl)) (fun _ _ _ h => h) (Or.inl ⟨by rfl, ?_⟩) ?_ ?_
              rotate_left
              ·intro w'
               go_simp
               with_reducible rfl
              rotate_left
              ·simp only [Act.put, List.setIfInBounds_toArray, List.set_cons_zero, List.set_cons_succ, i64_w, i32_w]
               rfl
              refine pure_ (i := 2) (N := some 48) (v := ?_) (a' := ?_) #[false, true, true, false, false, false, false, false, false, false] rfl rfl (any_of HT_.out (by kernel_rfl)) (fun _ _ _ h => h) (Or.inl ⟨by rfl, ?_⟩) ?_ ?_
              rotate_left
              ·intro w'
               go_simp
               with_reducible rfl
              rotate_left
              ·simp only [Act.put, List.setIfInBounds_toArray, List.set_cons_zero, List.set_cons_succ, i64_w, i32_w]
               rfl
              refine pure_ (i := 3) (N := some 49) (v := ?_) (a' := ?_) #[false, true, true, true, false, false, false, false, false, false] rfl rfl (any_of HT_.out (by kernel_rfl)) (fun _ _ _ h => h) (Or.inl ⟨by rfl, ?_⟩) ?_ ?_
              rotate_left
              ·intro w'
               go_simp
               with_reducible rfl
              rotate_left
              ·simp only [Act.put, List.setIfInBounds_toArray, List.set_cons_zero, List.set_cons_succ, i64_w, i32_w]
               rfl
              refine pure_ (i := 4) (N := some 50) (v := ?_) (a' := ?_) #[false, true, true, true, true, false, false, false, false, false] rfl rfl (any_of HT_.out (by kernel_rfl)) (fun _ _ _ h => h) (Or.inl ⟨by rfl, ?_⟩) ?_ ?_
              rotate_left
              ·intro w'
               go_simp
               with_reducible rfl
              rotate_left
              ·simp only [Act.put, List.setIfInBounds_toArray, List.set_cons_zero, List.set_cons_succ, i64_w, i32_w]
               rfl
              refine pure_ (i := 5) (N := some 51) (v := ?_) (a' := ?_) #[false, true, true, true, true, true, false, false, false, false] rfl rfl (any_of HT_.out (by kernel_rfl)) (fun _ _ _ h => h) (Or.inl ⟨by rfl, ?_⟩) ?_ ?_
              rotate_left
              ·intro w'
               go_simp
               with_reducible rfl
              rotate_left
              ·simp only [Act.put, List.setIfInBounds_toArray, List.set_cons_zero, List.set_cons_succ, i64_w, i32_w]
               rfl
              refine pure_ (i := 6) (N := some 52) (v := ?_) (a' := ?_) #[false, true, true, true, true, true, true, false, false, false] rfl rfl (any_of HT_.out (by kernel_rfl)) (fun _ _ _ h => h) (Or.inl ⟨by rfl, ?_⟩) ?_ ?_
              rotate_left
              ·intro w'
               go_simp
               with_reducible rfl
              rotate_left
              ·simp only [Act.put, List.setIfInBounds_toArray, List.set_cons_zero, List.set_cons_succ, i64_w, i32_w]
               rfl
              refine take_ (i := 0) (N := some 46) (v := ?_) (a' := ?_) #[true, true, true, true, true, true, true, false, false, false] rfl rfl (take_ofW HT_.out HW_.out (by kernel_rfl)) (fun _ _ _ h => h) (Or.inl ⟨by rfl, ?_⟩) hHeld ?_ ?_
              rotate_left
              ·rintro w' ⟨s0, s1, s2⟩
               go_simp
               with_reducible rfl
              rotate_left
              ·simp only [Act.put, List.setIfInBounds_toArray, List.set_cons_zero, List.set_cons_succ, i64_w, i32_w]
               rfl
              refine one_ (i := 7) (N := some 53) #[true, true, true, true, true, true, true, true, false, false] rfl rfl (one_of HT_.out (by kernel_rfl)) (by decide) (fun K hK => ?_)
              refine goes_ Try.func51 (by kernel_rfl) rfl #[.agg #[.int .i64 a0_0, .int .i64 a0_1, .int .i64 a0_2], .slice A30 ((l1.take ((wrap64 (x9_1 + x10_2)) : Int).toNat).drop (x9_1 : Int).toNat).length (c1 - x9_1.toNat)] (by rfl) rfl rfl (by (try simp only [List.map_toArray, List.map_cons, List.map_nil]); first | done | (rw [show ((l1.take ((wrap64 (x9_1 + x10_2)) : Int).toNat).drop (x9_1 : Int).toNat).length = ((wrap64 (x9_1 + x10_2)).toNat - x9_1.toNat) from (by rw [List.length_drop, List.length_take]; have h_ : ((wrap64 (x9_1 + x10_2)) : Int) ≤ (l1.length : Int) := of_decide_eq_true zp2; omega)] <;> rfl) | rfl | (simp only [List.length_drop, List.length_take]; rfl)) ?_
              with_reducible refine (impl_kindOf.calls k2 a0_0 a0_1 a0_2 _ _ ((l1.take ((wrap64 (x9_1 + x10_2)) : Int).toNat).drop (x9_1 : Int).toNat) t182 _ ?side1 ?side2 A27.out).mono ?_
              (case side1 => repeat (first | exact (Kd.C_below HR181.out HB.out) | (with_reducible refine Kd.C_alloc ?_ _) | (with_reducible refine Kd.C_drewN ?_ _) | (with_reducible refine Kd.C_drew ?_)))
              (case side2 => exact HC181.out)
              rintro e w31 ⟨rfl, hb⟩
              refine ⟨_, rfl, ?_⟩
              have n0_ := Aside0.mk (Kd.R_below zp35 hb)
              have n1_ := Aside0.mk (Kd.R_below zp29 hb)
              have n2_ := Aside0.mk (blk_below (g := gb172) (o := .cells #[.int .i64 a0_0, .int .i64 a0_1, .int .i64 a0_2] 27 (0, 0)) zp14 hb)
              have n3_ := Aside0.mk (below_step zp10 hb)
              clear HO_7
              clear HO_8
              clear BK172
              clear HB
              have HO_7 := n0_
              have HO_8 := n1_
              have BK172 := n2_
              have HB := n3_
              clear n0_ n1_ n2_ n3_
              (try clear hb)
              (try clear hb2)
              (try clear hk)
              (try clear hi)
              refine hK.out _ _ ⟨(blk_cell BK172.out 0).trans rfl, (blk_cell BK172.out 1).trans rfl, (blk_cell BK172.out 2).trans rfl⟩ (fun hHeld => ?_)
              clear hK K
              refine norm_ (a' := ?_) ?_ ?_
              rotate_left
              ·show Act.put _ (some 53) _ = _
               simp only [Act.put, List.setIfInBounds_toArray, List.set_cons_zero, List.set_cons_succ, i64_w, i32_w]
               rfl
              refine pure_ (i := 8) (N := some 11) (v := ?_) (a' := ?_) #[true, true, true, true, true, true, true, true, true, false] rfl rfl (any_of HT_.out (by kernel_rfl)) (fun _ _ _ h => h) (Or.inl ⟨by rfl, ?_⟩) ?_ ?_
              rotate_left
              ·intro w'
               go_simp
               with_reducible rfl
              rotate_left
              ·simp only [Act.put, List.setIfInBounds_toArray, List.set_cons_zero, List.set_cons_succ, i64_w, i32_w]
               rfl
              refine pure_ (i := 9) (N := some 12) (v := ?_) (a' := ?_) #[true, true, true, true, true, true, true, true, true, true] rfl rfl (any_of HT_.out (by kernel_rfl)) (fun _ _ _ h => h) (Or.inl ⟨by rfl, ?_⟩) ?_ ?_
              rotate_left
              ·intro w'
               go_simp
               with_reducible rfl
              rotate_left
              ·simp only [Act.put, List.setIfInBounds_toArray, List.set_cons_zero, List.set_cons_succ, i64_w, i32_w]
               rfl
              refine done_ (done_of HT_.out (by kernel_rfl)) ?_
              go_upto_region 12 with (fail)
              go_cut [54] (fun v54 wc => ∃ (kq : Nat) (x54_27 : Bool), v54 = .bool x54_27 ∧ Aside0 (impl_BestBreaking.j2 kq l1 x7_2 x8_2 x9_1 x10_2 t182 0 x54_27 a0_0 a0_1 a0_2 = some (r1, r2, r3)) ∧ Aside0 (kq ≤ k2) ∧ Aside0 (Kd.R (Kd.int .i64) 3 wc w.heap.size (fun k_ => some k_ ≠ (v178 : Value).ownBlock) (.slice (some ⟨go20, 0, none⟩) x7_2.length co20) x7_2) ∧ Aside0 (Kd.R (Kd.int .i64) 3 wc w.heap.size (fun k_ => some k_ ≠ ((.slice (some ⟨go20, 0, none⟩) x7_2.length co20) : Value).ownBlock) v178 x8_2) ∧ Aside0 (wc.heap[gb172]? = some (.cells #[.int .i64 a0_0, .int .i64 a0_1, .int .i64 a0_2] 27 (0, 0))) ∧ Aside0 (Below w.heap.size w wc))
              case first =>
               have H := HC28.out
               clear HC28
               by_cases c32 : (wrap64 (x9_1 + x10_2)) = (l1.length : Int)
               ·rw [if_pos c32] at H
                have c32b0 : ((wrap64 (x9_1 + x10_2)) == (l1.length : Int)) = true := beq_iff_eq.mpr c32
                have c32b1 : ((wrap64 (x9_1 + x10_2)) != (l1.length : Int)) = false := bne_eq_false_iff_eq.mpr c32
                clear c32
                (first | rw [c32b0] | (simp only [i64_w, i32_w]; rw [c32b0]) | skip)
                have H' := Aside0.mk H
                clear H
                go_wp2
                go_meet
                case rel => exact ⟨_, ((t182 == 0)), zp5, H', ⟨by have := HK1.out; have := HK2.out; first | omega | exact Nat.le_refl _⟩, ⟨by (try simp only [hl7_2]); (with_reducible repeat (first | apply Kd.R_alloc | apply Kd.R_drewN | apply Kd.R_drew)); exact HO_7.out⟩, ⟨by (try simp only [hl7_2]); (with_reducible repeat (first | apply Kd.R_alloc | apply Kd.R_drewN | apply Kd.R_drew)); exact HO_8.out⟩, ⟨by (try simp only [hl7_2]); (with_reducible repeat (first | refine blk_drewN ?_ _ | refine blk_drew ?_ | refine blk_alloc ?_ _)); exact BK172.out⟩, ⟨by repeat (first | (with_reducible first | exact HB.out | apply below_alloc | apply pw_below_drewN | apply below_drew1 | refine below_set ?_ GE172.out) | exact HB.out)⟩⟩
               ·rw [if_neg c32] at H
                have c32b0 : ((wrap64 (x9_1 + x10_2)) == (l1.length : Int)) = false := beq_eq_false_iff_ne.mpr c32
                have c32b1 : ((wrap64 (x9_1 + x10_2)) != (l1.length : Int)) = true := bne_iff_ne.mpr c32
                (first | rw [c32b0] | (simp only [i64_w, i32_w]; rw [c32b0]) | skip)
                have H' := Aside0.mk H
                clear H
                go_wp2
                go_meet
                case rel => exact ⟨_, (false), zp5, H', ⟨by have := HK1.out; have := HK2.out; first | omega | exact Nat.le_refl _⟩, ⟨by (try simp only [hl7_2]); (with_reducible repeat (first | apply Kd.R_alloc | apply Kd.R_drewN | apply Kd.R_drew)); exact HO_7.out⟩, ⟨by (try simp only [hl7_2]); (with_reducible repeat (first | apply Kd.R_alloc | apply Kd.R_drewN | apply Kd.R_drew)); exact HO_8.out⟩, ⟨by (try simp only [hl7_2]); (with_reducible repeat (first | refine blk_drewN ?_ _ | refine blk_drew ?_ | refine blk_alloc ?_ _)); exact BK172.out⟩, ⟨by repeat (first | (with_reducible first | exact HB.out | apply below_alloc | apply pw_below_drewN | apply below_drew1 | refine below_set ?_ GE172.out) | exact HB.out)⟩⟩
              case rest =>
               clear HC28
               try clear c1
               try clear c2
               try clear p2
               try clear q2
               try clear hx2
               try clear hf2
               try clear c3
               try clear c4
               try clear c5
               try clear c6
               try clear c6b0
               try clear c6b1
               try clear p6
               try clear c7
               try clear c7b0
               try clear c7b1
               try clear c17
               try clear c17b0
               try clear c18
               try clear c18b0
               try clear c19
               try clear c19b0
               try clear p20
               try clear q20
               try clear hx20
               try clear hf20
               try clear c23
               try clear c23b0
               try clear c24
               try clear c24b0
               try clear c24b1
               try clear c25
               try clear c25b0
               try clear c25b1
               try clear c26
               try clear c26b0
               try clear c32
               try clear c32b0
               try clear c32b1
               try clear hcz9_0
               try clear hcz9_1
               try clear hcz9_2
               try clear hfz9_0
               try clear hfz9_1
               try clear hfz9_2
               try clear hx20_0
               try clear p2
               try clear p20
               try clear p6
               try clear q2
               try clear q20
               obtain ⟨kq, x54_27, rfl, HA, HJ27, HO_7, HO_8, BK172, HB⟩ := hcut
               cases kq with
               | zero => exact absurd HA.out (by simp [impl_BestBreaking.j2])
               | succ kj27 =>
                have H := HA.out
                clear HA
                simp only [impl_BestBreaking.j2] at H
                have HC33 := Aside0.mk H
                clear H
                go_upto_if 54 with (fail)
                go_cut [54] (fun v54 wc => ∃ (kq : Nat) (x54_32 : Bool), v54 = .bool x54_32 ∧ Aside0 (impl_BestBreaking.j3 kq l1 x7_2 x8_2 x9_1 x10_2 0 x54_32 a0_0 a0_1 a0_2 = some (r1, r2, r3)) ∧ Aside0 (kq ≤ kj27) ∧ Aside0 (Kd.R (Kd.int .i64) 3 wc w.heap.size (fun k_ => some k_ ≠ (v178 : Value).ownBlock) (.slice (some ⟨go20, 0, none⟩) x7_2.length co20) x7_2) ∧ Aside0 (Kd.R (Kd.int .i64) 3 wc w.heap.size (fun k_ => some k_ ≠ ((.slice (some ⟨go20, 0, none⟩) x7_2.length co20) : Value).ownBlock) v178 x8_2) ∧ Aside0 (wc.heap[gb172]? = some (.cells #[.int .i64 a0_0, .int .i64 a0_1, .int .i64 a0_2] 27 (0, 0))) ∧ Aside0 (Below w.heap.size w wc))
                case first =>
                 have H := HC33.out
                 clear HC33
                 by_cases c34 : x54_27 = true
                 ·subst c34
                  have H1 : (impl_BestBreaking.j3 kj27 l1 x7_2 x8_2 x9_1 x10_2 0 true a0_0 a0_1 a0_2) = some (r1, r2, r3) := by rw [if_pos rfl] at H; exact H
                  clear H
                  have H := H1
                  clear H1
                  have H' := Aside0.mk H
                  clear H
                  go_wp2
                  go_meet
                  case rel => exact ⟨_, (true), zp5, H', ⟨by have := HK1.out; have := HK2.out; have := HJ27.out; first | omega | exact Nat.le_refl _⟩, ⟨by (try simp only [hl7_2]); (with_reducible repeat (first | apply Kd.R_alloc | apply Kd.R_drewN | apply Kd.R_drew)); exact HO_7.out⟩, ⟨by (try simp only [hl7_2]); (with_reducible repeat (first | apply Kd.R_alloc | apply Kd.R_drewN | apply Kd.R_drew)); exact HO_8.out⟩, ⟨by (try simp only [hl7_2]); (with_reducible repeat (first | refine blk_drewN ?_ _ | refine blk_drew ?_ | refine blk_alloc ?_ _)); exact BK172.out⟩, ⟨by repeat (first | (with_reducible first | exact HB.out | apply below_alloc | apply pw_below_drewN | apply below_drew1 | refine below_set ?_ GE172.out) | exact HB.out)⟩⟩
                 ·replace c34 := Bool.eq_false_iff.mpr c34
                  subst c34
                  have H1 : (if (wrap64 (x9_1 + x10_2)) < (l1.length : Int) then (if t182 = 2 then (if 0 ≤ (wrap64 (x9_1 + x10_2)) then (if (wrap64 (x9_1 + x10_2)) < (x7_2.length : Int) then (impl_BestBreaking.j3 kj27 l1 x7_2 x8_2 x9_1 x10_2 0 (decide ((rd x7_2 (wrap64 (x9_1 + x10_2))) < 0)) a0_0 a0_1 a0_2) else (none)) else (none)) else (impl_BestBreaking.j3 kj27 l1 x7_2 x8_2 x9_1 x10_2 0 true a0_0 a0_1 a0_2)) else (impl_BestBreaking.j3 kj27 l1 x7_2 x8_2 x9_1 x10_2 0 false a0_0 a0_1 a0_2)) = some (r1, r2, r3) := by rw [if_neg (show ¬ (false = true) by decide)] at H; exact H
                  clear H
                  have H := H1
                  clear H1
                  by_cases c35 : (wrap64 (x9_1 + x10_2)) < (l1.length : Int)
                  ·rw [if_pos c35] at H
                   have c35b0 : decide ((wrap64 (x9_1 + x10_2)) < (l1.length : Int)) = true := decide_eq_true c35
                   clear c35
                   (first | rw [c35b0] | (simp only [i64_w, i32_w]; rw [c35b0]) | skip)
                   by_cases c36 : t182 = 2
                   ·rw [if_pos c36] at H
                    have c36b0 : (t182 == 2) = true := beq_iff_eq.mpr c36
                    have c36b1 : (t182 != 2) = false := bne_eq_false_iff_eq.mpr c36
                    clear c36
                    obtain ⟨ji37, hji37⟩ : ∃ j_ : Int, (wrap64 (x9_1 + x10_2)) = j_ := ⟨_, rfl⟩
                    replace H : (if 0 ≤ (ji37) then (if (ji37) < (x7_2.length : Int) then (impl_BestBreaking.j3 kj27 l1 x7_2 x8_2 x9_1 x10_2 0 (decide ((rd x7_2 (ji37)) < 0)) a0_0 a0_1 a0_2) else (none)) else (none)) = some (r1, r2, r3) := by first | (rw [hji37] at H; exact H) | (simp only [hji37] at H ⊢; exact H)
                    (try rw [hji37] at c23b0)
                    (try rw [hji37] at c25b0)
                    (try rw [hji37] at c25b1)
                    (try rw [hji37] at c25)
                    (try rw [hji37] at c35b0)
                    have hji37w : (IntKind.i64.wrap (x9_1 + x10_2)) = ji37 := (i64_w _).trans hji37
                    by_cases c38 : 0 ≤ (ji37)
                    ·rw [if_pos c38] at H
                     have c38b0 : decide (0 ≤ (ji37)) = true := decide_eq_true c38
                     clear c38
                     by_cases c39 : (ji37) < (x7_2.length : Int)
                     ·rw [if_pos c39] at H
                      have c39b0 : decide ((ji37) < (x7_2.length : Int)) = true := decide_eq_true c39
                      clear c39
                      have H' := Aside0.mk H
                      clear H
                      have p183 : 0 ≤ ((ji37) : Int) := of_decide_eq_true zp2
                      have q183 : (ji37) < (x7_2.length : Int) := of_decide_eq_true zp2
                      obtain ⟨ad183, e183, hx183_0⟩ := Kd.at_int (Kd.R_reads' HO_7.out).2.2 (ji37) p183 q183
                      obtain rfl : (⟨go20, 0, none⟩ : Addr) = ad183 := (by injection e183)
                      (first | simp only [add_plain] at hx183_0 | simp only [add_at] at hx183_0 | simp only [Addr.add, Nat.zero_add] at hx183_0 | skip)
                      replace p183 := eq_true p183
                      replace q183 := eq_true q183
                      go_wp2
                      go_meet
                      case rel => exact ⟨_, (decide ((rd x7_2 (ji37)) < 0)), (by first | rfl | (simp; done) | (simp only [← hji37] <;> (first | rfl | simp)) | (simp [*]; done)), H', ⟨by have := HK1.out; have := HK2.out; have := HJ27.out; first | omega | exact Nat.le_refl _⟩, ⟨by (try simp only [hl7_2]); (with_reducible repeat (first | apply Kd.R_alloc | apply Kd.R_drewN | apply Kd.R_drew)); exact HO_7.out⟩, ⟨by (try simp only [hl7_2]); (with_reducible repeat (first | apply Kd.R_alloc | apply Kd.R_drewN | apply Kd.R_drew)); exact HO_8.out⟩, ⟨by (try simp only [hl7_2]); (with_reducible repeat (first | refine blk_drewN ?_ _ | refine blk_drew ?_ | refine blk_alloc ?_ _)); exact BK172.out⟩, ⟨by repeat (first | (with_reducible first | exact HB.out | apply below_alloc | apply pw_below_drewN | apply below_drew1 | refine below_set ?_ GE172.out) | exact HB.out)⟩⟩
                     ·rw [if_neg c39] at H
                      exact absurd H zp40
                    ·rw [if_neg c38] at H
                     exact absurd H zp40
                   ·rw [if_neg c36] at H
                    have c36b0 : (t182 == 2) = false := beq_eq_false_iff_ne.mpr c36
                    have c36b1 : (t182 != 2) = true := bne_iff_ne.mpr c36
                    have H' := Aside0.mk H
                    clear H
                    go_wp2
                    go_meet
                    case rel => exact ⟨_, (true), zp5, H', ⟨by have := HK1.out; have := HK2.out; have := HJ27.out; first | omega | exact Nat.le_refl _⟩, ⟨by (try simp only [hl7_2]); (with_reducible repeat (first | apply Kd.R_alloc | apply Kd.R_drewN | apply Kd.R_drew)); exact HO_7.out⟩, ⟨by (try simp only [hl7_2]); (with_reducible repeat (first | apply Kd.R_alloc | apply Kd.R_drewN | apply Kd.R_drew)); exact HO_8.out⟩, ⟨by (try simp only [hl7_2]); (with_reducible repeat (first | refine blk_drewN ?_ _ | refine blk_drew ?_ | refine blk_alloc ?_ _)); exact BK172.out⟩, ⟨by repeat (first | (with_reducible first | exact HB.out | apply below_alloc | apply pw_below_drewN | apply below_drew1 | refine below_set ?_ GE172.out) | exact HB.out)⟩⟩
                  ·rw [if_neg c35] at H
                   have c35b0 : decide ((wrap64 (x9_1 + x10_2)) < (l1.length : Int)) = false := decide_eq_false c35
                   clear c35
                   (first | rw [c35b0] | (simp only [i64_w, i32_w]; rw [c35b0]) | skip)
                   have H' := Aside0.mk H
                   clear H
                   go_wp2
                   go_meet
                   case rel => exact ⟨_, (false), zp5, H', ⟨by have := HK1.out; have := HK2.out; have := HJ27.out; first | omega | exact Nat.le_refl _⟩, ⟨by (try simp only [hl7_2]); (with_reducible repeat (first | apply Kd.R_alloc | apply Kd.R_drewN | apply Kd.R_drew)); exact HO_7.out⟩, ⟨by (try simp only [hl7_2]); (with_reducible repeat (first | apply Kd.R_alloc | apply Kd.R_drewN | apply Kd.R_drew)); exact HO_8.out⟩, ⟨by (try simp only [hl7_2]); (with_reducible repeat (first | refine blk_drewN ?_ _ | refine blk_drew ?_ | refine blk_alloc ?_ _)); exact BK172.out⟩, ⟨by repeat (first | (with_reducible first | exact HB.out | apply below_alloc | apply pw_below_drewN | apply below_drew1 | refine below_set ?_ GE172.out) | exact HB.out)⟩⟩
                case rest =>
                 clear HC33
                 try clear c1
                 try clear p1
                 try clear q1
                 try clear hx1
                 try clear c2
                 try clear p2
                 try clear q2
                 try clear hx2
                 try clear hf2
                 try clear c3
                 try clear c4
                 try clear c5
                 try clear c6
                 try clear c6b0
                 try clear c6b1
                 try clear p6
                 try clear c7
                 try clear c7b0
                 try clear c7b1
                 try clear c17
                 try clear c17b0
                 try clear c18
                 try clear c18b0
                 try clear p18
                 try clear q18
                 try clear hx18
                 try clear c19
                 try clear c19b0
                 try clear p20
                 try clear q20
                 try clear hx20
                 try clear hf20
                 try clear c23
                 try clear c23b0
                 try clear c24
                 try clear c24b0
                 try clear c24b1
                 try clear c25
                 try clear c25b0
                 try clear c25b1
                 try clear c26
                 try clear c26b0
                 try clear c32
                 try clear c32b0
                 try clear c32b1
                 try clear c34
                 try clear c35
                 try clear c35b0
                 try clear c36
                 try clear c36b0
                 try clear c36b1
                 try clear c38
                 try clear c38b0
                 try clear c39
                 try clear c39b0
                 try clear hcz9_0
                 try clear hcz9_1
                 try clear hcz9_2
                 try clear hfz9_0
                 try clear hfz9_1
                 try clear hfz9_2
                 try clear hx183_0
                 try clear hx20_0
                 try clear p183
                 try clear p2
                 try clear p20
                 try clear p6
                 try clear q183
                 try clear q2
                 try clear q20
                 obtain ⟨kq, x54_32, rfl, HA, HJ32, HO_7, HO_8, BK172, HB⟩ := hcut
                 cases kq with
                 | zero => exact absurd HA.out (by simp [impl_BestBreaking.j3])
                 | succ kj32 =>
                  have H := HA.out
                  clear HA
                  simp only [impl_BestBreaking.j3] at H
                  by_cases c40 : x54_32 = true
                  ·subst c40
                   have H1 : (impl_BestBreaking.l1 kj32 l1 x7_2 x8_2 x9_1 (wrap64 (x10_2 + 1)) a0_0 a0_1 a0_2) = some (r1, r2, r3) := by rw [if_pos rfl] at H; exact H
                   clear H
                   have H := H1
                   clear H1
                   have H' := Aside0.mk H
                   clear H
                   go_wp2
                   (try simp only [← hl7_2])
                   go_roundg kj32
                   case measure => have := HK1.out; have := HK2.out; have := HJ27.out; have := HJ32.out; omega
                   case rel => exact ⟨(x7_2), (x8_2), (wrap64 (x10_2 + 1)), zp5, H', ⟨by have := HK1.out; have := HK2.out; have := HJ27.out; have := HJ32.out; omega⟩, ⟨by (try simp only [hl7_2]); (with_reducible repeat (first | apply Kd.R_alloc | apply Kd.R_drewN | apply Kd.R_drew)); exact HO_7.out⟩, ⟨by (try simp only [hl7_2]); (with_reducible repeat (first | apply Kd.R_alloc | apply Kd.R_drewN | apply Kd.R_drew)); exact HO_8.out⟩, ⟨by (try simp only [hl7_2]); (with_reducible repeat (first | refine blk_drewN ?_ _ | refine blk_drew ?_ | refine blk_alloc ?_ _)); exact BK172.out⟩, ⟨by repeat (first | (with_reducible first | exact HB.out | apply below_alloc | apply pw_below_drewN | apply below_drew1 | refine below_set ?_ GE172.out) | exact HB.out)⟩⟩
                  ·replace c40 := Bool.eq_false_iff.mpr c40
                   subst c40
                   have H1 : (if (wrap64 (x9_1 + x10_2)) < (l1.length : Int) then (if 0 ≤ x9_1 then (if x9_1 ≤ (wrap64 (x9_1 + x10_2)) then (if (wrap64 (x9_1 + x10_2)) ≤ (l1.length : Int) then ((impl_riseOf.f kj32 a0_0 a0_1 a0_2 ((l1.take ((wrap64 (x9_1 + x10_2)) : Int).toNat).drop (x9_1 : Int).toNat)).bind fun t185 => (if 0 ≤ (wrap64 (x9_1 + x10_2)) then (if (wrap64 (x9_1 + x10_2)) < (x7_2.length : Int) then (if x9_1 < (x7_2.length : Int) then (if (rd x7_2 x9_1) < 0 then (if x9_1 < (x8_2.length : Int) then (impl_BestBreaking.l1 kj32 l1 (x7_2.set (x9_1 : Int).toNat (wrap64 ((wrap64 (t185 * t185)) + (rd x7_2 (wrap64 (x9_1 + x10_2)))))) (x8_2.set (x9_1 : Int).toNat x10_2) x9_1 (wrap64 (x10_2 + 1)) a0_0 a0_1 a0_2) else (none)) else (if (wrap64 ((wrap64 (t185 * t185)) + (rd x7_2 (wrap64 (x9_1 + x10_2))))) < (rd x7_2 x9_1) then (if x9_1 < (x8_2.length : Int) then (impl_BestBreaking.l1 kj32 l1 (x7_2.set (x9_1 : Int).toNat (wrap64 ((wrap64 (t185 * t185)) + (rd x7_2 (wrap64 (x9_1 + x10_2)))))) (x8_2.set (x9_1 : Int).toNat x10_2) x9_1 (wrap64 (x10_2 + 1)) a0_0 a0_1 a0_2) else (none)) else (impl_BestBreaking.l1 kj32 l1 x7_2 x8_2 x9_1 (wrap64 (x10_2 + 1)) a0_0 a0_1 a0_2))) else (none)) else (none)) else (none))) else (none)) else (none)) else (none)) else (if 0 ≤ x9_1 then (if x9_1 < (x7_2.length : Int) then (if (rd x7_2 x9_1) < 0 then (if x9_1 < (x8_2.length : Int) then (impl_BestBreaking.l1 kj32 l1 (x7_2.set (x9_1 : Int).toNat 0) (x8_2.set (x9_1 : Int).toNat x10_2) x9_1 (wrap64 (x10_2 + 1)) a0_0 a0_1 a0_2) else (none)) else (if 0 < (rd x7_2 x9_1) then (if x9_1 < (x8_2.length : Int) then (impl_BestBreaking.l1 kj32 l1 (x7_2.set (x9_1 : Int).toNat 0) (x8_2.set (x9_1 : Int).toNat x10_2) x9_1 (wrap64 (x10_2 + 1)) a0_0 a0_1 a0_2) else (none)) else (impl_BestBreaking.l1 kj32 l1 x7_2 x8_2 x9_1 (wrap64 (x10_2 + 1)) a0_0 a0_1 a0_2))) else (none)) else (none))) = some (r1, r2, r3) := by rw [if_neg (show ¬ (false = true) by decide)] at H; exact H
                   clear H
                   have H := H1
                   clear H1
                   by_cases c41 : (wrap64 (x9_1 + x10_2)) < (l1.length : Int)
                   ·rw [if_pos c41] at H
                    have c41b0 : decide ((wrap64 (x9_1 + x10_2)) < (l1.length : Int)) = true := decide_eq_true c41
                    clear c41
                    by_cases c42 : 0 ≤ x9_1
                    ·rw [if_pos c42] at H
                     have c42b0 := eq_true c42
                     have c42b1 : decide (0 ≤ x9_1) = true := decide_eq_true c42
                     clear c42
                     by_cases c43 : x9_1 ≤ (wrap64 (x9_1 + x10_2))
                     ·rw [if_pos c43] at H
                      have c43b0 := eq_true c43
                      have c43b1 : decide (x9_1 ≤ (wrap64 (x9_1 + x10_2))) = true := decide_eq_true c43
                      by_cases c44 : (wrap64 (x9_1 + x10_2)) ≤ (l1.length : Int)
                      ·rw [if_pos c44] at H
                       have c44b0 := eq_true c44
                       have c44b1 : decide ((wrap64 (x9_1 + x10_2)) ≤ (l1.length : Int)) = true := decide_eq_true c44
                       replace H := Option.bind_eq_some_iff.mp H
                       obtain ⟨t185, A450, H⟩ := H
                       replace H : (if 0 ≤ (wrap64 (x9_1 + x10_2)) then (if (wrap64 (x9_1 + x10_2)) < (x7_2.length : Int) then (if x9_1 < (x7_2.length : Int) then (if (rd x7_2 x9_1) < 0 then (if x9_1 < (x8_2.length : Int) then (impl_BestBreaking.l1 kj32 l1 (x7_2.set (x9_1 : Int).toNat (wrap64 ((wrap64 (t185 * t185)) + (rd x7_2 (wrap64 (x9_1 + x10_2)))))) (x8_2.set (x9_1 : Int).toNat x10_2) x9_1 (wrap64 (x10_2 + 1)) a0_0 a0_1 a0_2) else (none)) else (if (wrap64 ((wrap64 (t185 * t185)) + (rd x7_2 (wrap64 (x9_1 + x10_2))))) < (rd x7_2 x9_1) then (if x9_1 < (x8_2.length : Int) then (impl_BestBreaking.l1 kj32 l1 (x7_2.set (x9_1 : Int).toNat (wrap64 ((wrap64 (t185 * t185)) + (rd x7_2 (wrap64 (x9_1 + x10_2)))))) (x8_2.set (x9_1 : Int).toNat x10_2) x9_1 (wrap64 (x10_2 + 1)) a0_0 a0_1 a0_2) else (none)) else (impl_BestBreaking.l1 kj32 l1 x7_2 x8_2 x9_1 (wrap64 (x10_2 + 1)) a0_0 a0_1 a0_2))) else (none)) else (none)) else (none)) = some (r1, r2, r3) := H
                       have A45 := Aside0.mk A450
                       clear A450
                       obtain ⟨ji46, hji46⟩ : ∃ j_ : Int, (wrap64 (x9_1 + x10_2)) = j_ := ⟨_, rfl⟩
                       replace H : (if 0 ≤ (ji46) then (if (ji46) < (x7_2.length : Int) then (if x9_1 < (x7_2.length : Int) then (if (rd x7_2 x9_1) < 0 then (if x9_1 < (x8_2.length : Int) then (impl_BestBreaking.l1 kj32 l1 (x7_2.set (x9_1 : Int).toNat (wrap64 ((wrap64 (t185 * t185)) + (rd x7_2 (ji46))))) (x8_2.set (x9_1 : Int).toNat x10_2) x9_1 (wrap64 (x10_2 + 1)) a0_0 a0_1 a0_2) else (none)) else (if (wrap64 ((wrap64 (t185 * t185)) + (rd x7_2 (ji46)))) < (rd x7_2 x9_1) then (if x9_1 < (x8_2.length : Int) then (impl_BestBreaking.l1 kj32 l1 (x7_2.set (x9_1 : Int).toNat (wrap64 ((wrap64 (t185 * t185)) + (rd x7_2 (ji46))))) (x8_2.set (x9_1 : Int).toNat x10_2) x9_1 (wrap64 (x10_2 + 1)) a0_0 a0_1 a0_2) else (none)) else (impl_BestBreaking.l1 kj32 l1 x7_2 x8_2 x9_1 (wrap64 (x10_2 + 1)) a0_0 a0_1 a0_2))) else (none)) else (none)) else (none)) = some (r1, r2, r3) := by first | (rw [hji46] at H; exact H) | (simp only [hji46] at H ⊢; exact H)
                       (try rw [hji46] at c23b0)
                       (try rw [hji46] at c25b0)
                       (try rw [hji46] at c25b1)
                       (try rw [hji46] at c25)
                       (try rw [hji46] at c41b0)
                       (try rw [hji46] at c43b0)
                       (try rw [hji46] at c43b1)
                       (try rw [hji46] at c43)
                       (try rw [hji46] at c44b0)
                       (try rw [hji46] at c44b1)
                       (try rw [hji46] at c44)
                       (try rw [hji46] at A45)
                       have hji46w : (IntKind.i64.wrap (x9_1 + x10_2)) = ji46 := (i64_w _).trans hji46
                       by_cases c47 : 0 ≤ (ji46)
                       ·rw [if_pos c47] at H
                        have c47b0 : decide (0 ≤ (ji46)) = true := decide_eq_true c47
                        clear c47
                        by_cases c48 : (ji46) < (x7_2.length : Int)
                        ·rw [if_pos c48] at H
                         have c48b0 : decide ((ji46) < (x7_2.length : Int)) = true := decide_eq_true c48
                         clear c48
                         by_cases c49 : x9_1 < (x7_2.length : Int)
                         ·rw [if_pos c49] at H
                          have c49b0 : decide (x9_1 < (x7_2.length : Int)) = true := decide_eq_true c49
                          clear c49
                          by_cases c50 : (rd x7_2 x9_1) < 0
                          ·rw [if_pos c50] at H
                           have c50b0 : decide ((rd x7_2 x9_1) < 0) = true := decide_eq_true c50
                           clear c50
                           obtain ⟨y188, hy188⟩ : ∃ y_ : List Int, y_ = (x7_2.set (x9_1 : Int).toNat (wrap64 ((wrap64 (t185 * t185)) + (rd x7_2 (ji46))))) := ⟨_, rfl⟩
                           replace H : (if x9_1 < (x8_2.length : Int) then (impl_BestBreaking.l1 kj32 l1 y188 (x8_2.set (x9_1 : Int).toNat x10_2) x9_1 (wrap64 (x10_2 + 1)) a0_0 a0_1 a0_2) else (none)) = some (r1, r2, r3) := by first | (rw [hy188]; with_reducible exact H) | (have H2_ := (Option.bind_some _ _).symm.trans H; rw [hy188]; with_reducible exact H2_) | (have H2_ := (Option.bind_some _ _).symm.trans H; with_reducible exact H2_) | with_reducible exact H | (rw [hy188]; exact H) | exact H
                           have Ny188 := Aside0.mk hy188
                           clear hy188
                           by_cases c52 : x9_1 < (x8_2.length : Int)
                           ·rw [if_pos c52] at H
                            have c52b0 : decide (x9_1 < (x8_2.length : Int)) = true := decide_eq_true c52
                            clear c52
                            obtain ⟨y189, hy189⟩ : ∃ y_ : List Int, y_ = (x8_2.set (x9_1 : Int).toNat x10_2) := ⟨_, rfl⟩
                            replace H : (impl_BestBreaking.l1 kj32 l1 y188 y189 x9_1 (wrap64 (x10_2 + 1)) a0_0 a0_1 a0_2) = some (r1, r2, r3) := by first | (rw [hy189]; with_reducible exact H) | (have H2_ := (Option.bind_some _ _).symm.trans H; rw [hy189]; with_reducible exact H2_) | (have H2_ := (Option.bind_some _ _).symm.trans H; with_reducible exact H2_) | with_reducible exact H | (rw [hy189]; exact H) | exact H
                            have Ny189 := Aside0.mk hy189
                            clear hy189
                            have H' := Aside0.mk H
                            clear H
                            try go_wp2
                            have n0_ := Aside0.mk (Kd.R_drew HO_7.out)
                            have n1_ := Aside0.mk (Kd.R_drew HO_8.out)
                            have n2_ := Aside0.mk (blk_drew BK172.out)
                            have n3_ := Aside0.mk (below_drew1 HB.out)
                            clear HO_7
                            clear HO_8
                            clear BK172
                            clear HB
                            have HO_7 := n0_
                            have HO_8 := n1_
                            have BK172 := n2_
                            have HB := n3_
                            clear n0_ n1_ n2_ n3_
                            obtain ⟨i055, hi055, _, hsz55, _⟩ := info_parts info3
                            obtain ⟨A55, hcut55, hA55, hC55⟩ := print_mid_of (P := Try.prog) (Value.int .i64) 0 24 3 .i64 .i64 Try.underlying24 hi055 hsz55 A1 c1 l1 x9_1 (ji46) (of_decide_eq_true zp2) zp41 (of_decide_eq_true zp2) HC1.out
                            have HR184 := Aside0.mk (Kd.C_of_reads (h1 := fun _ => rfl) (hA55 _ (Kd.reads_of_C HR1.out)))
                            have HC184 := Aside0.mk hC55
                            clear hA55 hC55 hi055 hsz55
                            refine start_ (n := 9) (S := fun w' => w'.cell? ⟨gb172, 0, none⟩ = some (.int .i64 a0_0) ∧ w'.cell? ⟨gb172, 1, none⟩ = some (.int .i64 a0_1) ∧ w'.cell? ⟨gb172, 2, none⟩ = some (.int .i64 a0_2)) (ds := []) #[false, false, false, false, false, false, false, false, false] (by kernel_rfl) rfl rfl ⟨(blk_cell BK172.out 0).trans rfl, (blk_cell BK172.out 1).trans rfl, (blk_cell BK172.out 2).trans rfl⟩ (fun hHeld => ?_); refine with_tabW impl_BestBreaking.tab15 impl_BestBreaking.bits15 (fun HT_ HW_ => ?_)
                            generalize wc.drew = w54 at HO_7 HO_8 BK172 HB HR184 hHeld ⊢
                            refine pure_ (i := 1) (N := some 92) (v := ?_) (a' := ?_) #[false, true, false, false, false, false, false, false, false] rfl rfl (any_of HT_.out (by kernel_rfl)) (fun _ _ _ h => h) (Or.inl ⟨by rfl, ?_⟩) ?_ ?_
                            rotate_left
                            ·intro w'
                             go_simp
                             with_reducible rfl
                            rotate_left
                            ·simp only [Act.put, List.setIfInBounds_toArray, List.set_cons_zero, List.set_cons_succ, i64_w, i32_w]
                             rfl
                            refine pure_ (i := 2) (N := some 93) (v := ?_) (a' := ?_) #[false, true, true, false, false, false, false, false, false] rfl rfl (any_of HT_.out (by kernel_rfl)) (fun _ _ _ h => h) (Or.inl ⟨by rfl, ?_⟩) ?_ ?_
                            rotate_left
                            ·intro w'
                             go_simp
                             with_reducible rfl
                            rotate_left
                            ·simp only [Act.put, List.setIfInBounds_toArray, List.set_cons_zero, List.set_cons_succ, i64_w, i32_w]
                             rfl
                            refine pure_ (i := 3) (N := some 94) (v := ?_) (a' := ?_) #[false, true, true, true, false, false, false, false, false] rfl rfl (any_of HT_.out (by kernel_rfl)) (fun _ _ _ h => h) (Or.inl ⟨by rfl, ?_⟩) ?_ ?_
                            rotate_left
                            ·intro w'
                             go_simp
                             with_reducible rfl
                            rotate_left
                            ·simp only [Act.put, List.setIfInBounds_toArray, List.set_cons_zero, List.set_cons_succ, i64_w, i32_w]
                             rfl
                            refine pure_ (i := 4) (N := some 95) (v := ?_) (a' := ?_) #[false, true, true, true, true, false, false, false, false] rfl rfl (any_of HT_.out (by kernel_rfl)) (fun _ _ _ h => h) (Or.inl ⟨by rfl, ?_⟩) ?_ ?_
                            rotate_left
                            ·intro w'
                             go_simp
                             with_reducible rfl
                            rotate_left
                            ·simp only [Act.put, List.setIfInBounds_toArray, List.set_cons_zero, List.set_cons_succ, i64_w, i32_w]
                             rfl
                            refine pure_ (i := 5) (N := some 96) (v := ?_) (a' := ?_) #[false, true, true, true, true, true, false, false, false] rfl rfl (any_of HT_.out (by kernel_rfl)) (fun _ _ _ h => h) (Or.inl ⟨by rfl, ?_⟩) ?_ ?_
                            rotate_left
                            ·intro w'
                             go_simp
                             with_reducible rfl
                            rotate_left
                            ·simp only [Act.put, List.setIfInBounds_toArray, List.set_cons_zero, List.set_cons_succ, i64_w, i32_w]
                             rfl
                            refine pure_ (i := 6) (N := some 97) (v := ?_) (a' := ?_) #[false, true, true, true, true, true, true, false, false] rfl rfl (any_of HT_.out (by kernel_rfl)) (fun _ _ _ h => h) (Or.inl ⟨by rfl, ?_⟩) ?_ ?_
                            rotate_left
                            ·intro w'
                             go_simp
                             with_reducible rfl
                            rotate_left
                            ·simp only [Act.put, List.setIfInBounds_toArray, List.set_cons_zero, List.set_cons_succ, i64_w, i32_w]
                             rfl
                            refine take_ (i := 0) (N := some 91) (v := ?_) (a' := ?_) #[true, true, true, true, true, true, true, false, false] rfl rfl (take_ofW HT_.out HW_.out (by kernel_rfl)) (fun _ _ _ h => h) (Or.inl ⟨by rfl, ?_⟩) hHeld ?_ ?_
                            rotate_left
                            ·rintro w' ⟨s0, s1, s2⟩
                             go_simp
                             with_reducible rfl
                            rotate_left
                            ·simp only [Act.put, List.setIfInBounds_toArray, List.set_cons_zero, List.set_cons_succ, i64_w, i32_w]
                             rfl
                            refine one_ (i := 7) (N := some 98) #[true, true, true, true, true, true, true, true, false] rfl rfl (one_of HT_.out (by kernel_rfl)) (by decide) (fun K hK => ?_)
                            refine goes_ Try.func54 (by kernel_rfl) rfl #[.agg #[.int .i64 a0_0, .int .i64 a0_1, .int .i64 a0_2], .slice A55 ((l1.take ((ji46) : Int).toNat).drop (x9_1 : Int).toNat).length (c1 - x9_1.toNat)] (by rfl) rfl rfl zp37 ?_
                            with_reducible refine (impl_riseOf.calls kj32 a0_0 a0_1 a0_2 _ _ ((l1.take ((ji46) : Int).toNat).drop (x9_1 : Int).toNat) t185 _ ?side1 ?side2 A45.out).mono ?_
                            (case side1 => repeat (first | exact (Kd.C_below HR184.out HB.out) | (with_reducible refine Kd.C_alloc ?_ _) | (with_reducible refine Kd.C_drewN ?_ _) | (with_reducible refine Kd.C_drew ?_)))
                            (case side2 => exact HC184.out)
                            rintro e w56 ⟨rfl, hb⟩
                            refine ⟨_, rfl, ?_⟩
                            have n0_ := Aside0.mk (Kd.R_below zp35 hb)
                            have n1_ := Aside0.mk (Kd.R_below zp29 hb)
                            have n2_ := Aside0.mk (blk_below (g := gb172) (o := .cells #[.int .i64 a0_0, .int .i64 a0_1, .int .i64 a0_2] 27 (0, 0)) zp14 hb)
                            have n3_ := Aside0.mk (below_step zp10 hb)
                            clear HO_7
                            clear HO_8
                            clear BK172
                            clear HB
                            have HO_7 := n0_
                            have HO_8 := n1_
                            have BK172 := n2_
                            have HB := n3_
                            clear n0_ n1_ n2_ n3_
                            (try clear hb)
                            (try clear hb2)
                            (try clear hk)
                            (try clear hi)
                            refine hK.out _ _ ⟨(blk_cell BK172.out 0).trans rfl, (blk_cell BK172.out 1).trans rfl, (blk_cell BK172.out 2).trans rfl⟩ (fun hHeld => ?_)
                            clear hK K
                            refine norm_ (a' := ?_) ?_ ?_
                            rotate_left
                            ·show Act.put _ (some 98) _ = _
                             simp only [Act.put, List.setIfInBounds_toArray, List.set_cons_zero, List.set_cons_succ, i64_w, i32_w]
                             rfl
                            refine pure_ (i := 8) (N := some 13) (v := ?_) (a' := ?_) #[true, true, true, true, true, true, true, true, true] rfl rfl (any_of HT_.out (by kernel_rfl)) (fun _ _ _ h => h) (Or.inl ⟨by rfl, ?_⟩) ?_ ?_
                            rotate_left
                            ·intro w'
                             go_simp
                             with_reducible rfl
                            rotate_left
                            ·simp only [Act.put, List.setIfInBounds_toArray, List.set_cons_zero, List.set_cons_succ, i64_w, i32_w]
                             rfl
                            refine done_ (done_of HT_.out (by kernel_rfl)) ?_
                            have p186 : 0 ≤ ((ji46) : Int) := of_decide_eq_true zp2
                            have q186 : (ji46) < (x7_2.length : Int) := of_decide_eq_true zp2
                            obtain ⟨ad186, e186, hx186_0⟩ := Kd.at_int (Kd.R_reads' HO_7.out).2.2 (ji46) p186 q186
                            obtain rfl : (⟨go20, 0, none⟩ : Addr) = ad186 := (by injection e186)
                            (first | simp only [add_plain] at hx186_0 | simp only [add_at] at hx186_0 | simp only [Addr.add, Nat.zero_add] at hx186_0 | skip)
                            replace p186 := eq_true p186
                            replace q186 := eq_true q186
                            have p187 : 0 ≤ (x9_1 : Int) := of_decide_eq_true zp2
                            have q187 : x9_1 < (x7_2.length : Int) := of_decide_eq_true zp2
                            obtain ⟨ad187, e187, hx187_0⟩ := Kd.at_int (Kd.R_reads' HO_7.out).2.2 x9_1 p187 q187
                            obtain rfl : (⟨go20, 0, none⟩ : Addr) = ad187 := (by injection e187)
                            (first | simp only [add_plain] at hx187_0 | simp only [add_at] at hx187_0 | simp only [Addr.add, Nat.zero_add] at hx187_0 | skip)
                            replace p187 := eq_true p187
                            replace q187 := eq_true q187
                            have p51 : 0 ≤ (x9_1 : Int) := of_decide_eq_true zp2
                            have q51 : (x9_1 : Int) < ((x7_2.length : Int) : Int) := of_decide_eq_true zp2
                            obtain ⟨hx51_0, hf51_0⟩ := Kd.R_celln 0 HO_7.out (x9_1 : Int) p51 q51
                            replace p51 := eq_true p51
                            replace q51 := eq_true q51
                            obtain ⟨hy57_, hz57_⟩ := Kd.R_celln 0 HO_7.out (x9_1 : Int) (of_decide_eq_true zp2) (of_decide_eq_true zp2)
                            have HP57 := Kd.R_putg HO_7.out (x9_1 : Int) (wrap64 ((wrap64 (t185 * t185)) + (rd x7_2 (ji46))))
                            try go_wp2_with (first | ((with_reducible refine gate_store (t := 3) (p := 128) rfl ?_); refine store_event (t := 3) (p := 128) (v := ?vo_w58) (w1 := (w56.setCell ⟨go20, (x9_1 : Int).toNat, none⟩ (.int .i64 (wrap64 ((wrap64 (t185 * t185)) + (rd x7_2 (ji46))))))) ?hg ?ho ?hn ?hr ?_; (case ho => rfl); (case hg => rfl); (case hn => rfl); (case hr => first | (go_simp; done) | (go_simp; rfl)); intro w58 hw; have hg : w56.grownBy w58 (some go20) := (by rw [hw]; exact HP57.2); have hp_ : Kd.R (Kd.int .i64) 3 w58 w.heap.size (fun k_ => some k_ ≠ (v178 : Value).ownBlock) (.slice (some ⟨go20, 0, none⟩) x7_2.length co20) y188 := (by rw [hw, Ny188.out]; exact HP57.1); clear HP57; have n0_ := Aside0.mk (hp_); have n1_ := Aside0.mk (Kd.R_after (v := (.slice (some ⟨go20, 0, none⟩) x7_2.length co20)) (v1 := (.slice (some ⟨go20, 0, none⟩) x7_2.length co20)) (ok := (fun _ => True)) zp42 hg (.inl rfl)); have n2_ := Aside0.mk (blk_grown (g := gb172) (o := .cells #[.int .i64 a0_0, .int .i64 a0_1, .int .i64 a0_2] 27 (0, 0)) zp14 hg (Kd.R_ne HO_7.out BK172.out (by decide))); have n3_ := Aside0.mk ((by rw [hw]; exact below_set (HB.out) GB20.out : Below w.heap.size w w58)); clear HO_7; clear HO_8; clear BK172; clear HB; have HO_7 := n0_; have HO_8 := n1_; have BK172 := n2_; have HB := n3_; clear n0_ n1_ n2_ n3_; clear hg hw hp_; have p53 : 0 ≤ (x9_1 : Int) := of_decide_eq_true zp2; have q53 : (x9_1 : Int) < ((x8_2.length : Int) : Int) := of_decide_eq_true zp2; obtain ⟨go53, co53, eo53, gb53, gl53, cl53, HG53⟩ := Kd.R_form HO_8.out zp74; (first | cases eo53 | (injection eo53 with ea_ en_ ec_; (first | subst ea_ | (injection ea_ with ea_; subst ea_)); subst ec_; clear en_)); have GB53 := Aside0.mk gb53; have GG53 := Aside0.mk HG53; clear gb53 gl53 HG53; obtain ⟨hx53_0, hf53_0⟩ := Kd.R_celln 0 HO_8.out (x9_1 : Int) p53 q53; replace p53 := eq_true p53; replace q53 := eq_true q53; have n_ := Aside0.mk (Kd.R_mono (ok' := (fun k_ => some k_ ≠ (.slice (some ⟨go20, 0, none⟩) x7_2.length co20 : Value).ownBlock)) HO_8.out (fun k_ hk => hk.2)); clear HO_8; have HO_8 := n_; clear n_; obtain ⟨hy59_, hz59_⟩ := Kd.R_celln 0 HO_8.out (x9_1 : Int) (of_decide_eq_true zp2) (of_decide_eq_true zp2); have HP59 := Kd.R_putg HO_8.out (x9_1 : Int) x10_2) | ((with_reducible refine gate_store (t := 3) (p := 129) rfl ?_); refine store_event (t := 3) (p := 129) (v := ?vo_w60) (w1 := (w58.setCell ⟨go53, (x9_1 : Int).toNat, none⟩ (.int .i64 x10_2))) ?hg ?ho ?hn ?hr ?_; (case ho => rfl); (case hg => rfl); (case hn => rfl); (case hr => first | (go_simp; done) | (go_simp; rfl)); intro w60 hw; have hg : w58.grownBy w60 (some go53) := (by rw [hw]; exact HP59.2); have hp_ : Kd.R (Kd.int .i64) 3 w60 w.heap.size (fun k_ => some k_ ≠ (.slice (some ⟨go20, 0, none⟩) x7_2.length co20 : Value).ownBlock) (.slice (some ⟨go53, 0, none⟩) x8_2.length co53) y189 := (by rw [hw, Ny189.out]; exact HP59.1); clear HP59; have n0_ := Aside0.mk (Kd.R_after (v := (.slice (some ⟨go53, 0, none⟩) x8_2.length co53)) (v1 := (.slice (some ⟨go53, 0, none⟩) x8_2.length co53)) (ok := (fun _ => True)) zp71 hg (.inl rfl)); have n1_ := Aside0.mk (hp_); have n2_ := Aside0.mk (blk_grown (g := gb172) (o := .cells #[.int .i64 a0_0, .int .i64 a0_1, .int .i64 a0_2] 27 (0, 0)) zp14 hg (Kd.R_ne HO_8.out BK172.out (by decide))); have n3_ := Aside0.mk ((by rw [hw]; exact below_set (HB.out) GB53.out : Below w.heap.size w w60)); clear HO_7; clear HO_8; clear BK172; clear HB; have HO_7 := n0_; have HO_8 := n1_; have BK172 := n2_; have HB := n3_; clear n0_ n1_ n2_ n3_; clear hg hw hp_))
                            (try simp only [← hl7_2])
                            go_roundg kj32
                            case measure => have := HK1.out; have := HK2.out; have := HJ27.out; have := HJ32.out; omega
                            case rel => exact ⟨(y188), (y189), (wrap64 (x10_2 + 1)), zp5, H', ⟨by have := HK1.out; have := HK2.out; have := HJ27.out; have := HJ32.out; omega⟩, ⟨by (try simp only [hl7_2]); (with_reducible repeat (first | apply Kd.R_alloc | apply Kd.R_drewN | apply Kd.R_drew)); exact Kd.R_mono HO_7.out (fun _ hk => hk.2)⟩, ⟨by (try simp only [hl7_2]); (with_reducible repeat (first | apply Kd.R_alloc | apply Kd.R_drewN | apply Kd.R_drew)); exact HO_8.out⟩, ⟨by (try simp only [hl7_2]); (with_reducible repeat (first | refine blk_drewN ?_ _ | refine blk_drew ?_ | refine blk_alloc ?_ _)); exact BK172.out⟩, ⟨by repeat (first | (with_reducible first | exact HB.out | apply below_alloc | apply pw_below_drewN | apply below_drew1 | refine below_set ?_ GE172.out) | exact HB.out)⟩⟩
                           ·rw [if_neg c52] at H
                            exact absurd H zp40
                          ·rw [if_neg c50] at H
                           have c50b0 : decide ((rd x7_2 x9_1) < 0) = false := decide_eq_false c50
                           clear c50
                           by_cases c61 : (wrap64 ((wrap64 (t185 * t185)) + (rd x7_2 (ji46)))) < (rd x7_2 x9_1)
                           ·rw [if_pos c61] at H
                            have c61b0 : decide ((wrap64 ((wrap64 (t185 * t185)) + (rd x7_2 (ji46)))) < (rd x7_2 x9_1)) = true := decide_eq_true c61
                            clear c61
                            obtain ⟨y191, hy191⟩ : ∃ y_ : List Int, y_ = (x7_2.set (x9_1 : Int).toNat (wrap64 ((wrap64 (t185 * t185)) + (rd x7_2 (ji46))))) := ⟨_, rfl⟩
                            replace H : (if x9_1 < (x8_2.length : Int) then (impl_BestBreaking.l1 kj32 l1 y191 (x8_2.set (x9_1 : Int).toNat x10_2) x9_1 (wrap64 (x10_2 + 1)) a0_0 a0_1 a0_2) else (none)) = some (r1, r2, r3) := by first | (rw [hy191]; with_reducible exact H) | (have H2_ := (Option.bind_some _ _).symm.trans H; rw [hy191]; with_reducible exact H2_) | (have H2_ := (Option.bind_some _ _).symm.trans H; with_reducible exact H2_) | with_reducible exact H | (rw [hy191]; exact H) | exact H
                            have Ny191 := Aside0.mk hy191
                            clear hy191
                            by_cases c63 : x9_1 < (x8_2.length : Int)
                            ·rw [if_pos c63] at H
                             have c63b0 : decide (x9_1 < (x8_2.length : Int)) = true := decide_eq_true c63
                             clear c63
                             obtain ⟨y192, hy192⟩ : ∃ y_ : List Int, y_ = (x8_2.set (x9_1 : Int).toNat x10_2) := ⟨_, rfl⟩
                             replace H : (impl_BestBreaking.l1 kj32 l1 y191 y192 x9_1 (wrap64 (x10_2 + 1)) a0_0 a0_1 a0_2) = some (r1, r2, r3) := by first | (rw [hy192]; with_reducible exact H) | (have H2_ := (Option.bind_some _ _).symm.trans H; rw [hy192]; with_reducible exact H2_) | (have H2_ := (Option.bind_some _ _).symm.trans H; with_reducible exact H2_) | with_reducible exact H | (rw [hy192]; exact H) | exact H
                             have Ny192 := Aside0.mk hy192
                             clear hy192
                             have H' := Aside0.mk H
                             clear H
                             try go_wp2
                             have n0_ := Aside0.mk (Kd.R_drew HO_7.out)
                             have n1_ := Aside0.mk (Kd.R_drew HO_8.out)
                             have n2_ := Aside0.mk (blk_drew BK172.out)
                             have n3_ := Aside0.mk (below_drew1 HB.out)
                             clear HO_7
                             clear HO_8
                             clear BK172
                             clear HB
                             have HO_7 := n0_
                             have HO_8 := n1_
                             have BK172 := n2_
                             have HB := n3_
                             clear n0_ n1_ n2_ n3_
                             obtain ⟨i066, hi066, _, hsz66, _⟩ := info_parts info3
                             obtain ⟨A66, hcut66, hA66, hC66⟩ := print_mid_of (P := Try.prog) (Value.int .i64) 0 24 3 .i64 .i64 Try.underlying24 hi066 hsz66 A1 c1 l1 x9_1 (ji46) (of_decide_eq_true zp2) zp41 (of_decide_eq_true zp2) HC1.out
                             have HR184 := Aside0.mk (Kd.C_of_reads (h1 := fun _ => rfl) (hA66 _ (Kd.reads_of_C HR1.out)))
                             have HC184 := Aside0.mk hC66
                             clear hA66 hC66 hi066 hsz66
                             refine start_ (n := 9) (S := fun w' => w'.cell? ⟨gb172, 0, none⟩ = some (.int .i64 a0_0) ∧ w'.cell? ⟨gb172, 1, none⟩ = some (.int .i64 a0_1) ∧ w'.cell? ⟨gb172, 2, none⟩ = some (.int .i64 a0_2)) (ds := []) #[false, false, false, false, false, false, false, false, false] (by kernel_rfl) rfl rfl ⟨(blk_cell BK172.out 0).trans rfl, (blk_cell BK172.out 1).trans rfl, (blk_cell BK172.out 2).trans rfl⟩ (fun hHeld => ?_); refine with_tabW impl_BestBreaking.tab15 impl_BestBreaking.bits15 (fun HT_ HW_ => ?_)
                             generalize wc.drew = w65 at HO_7 HO_8 BK172 HB HR184 hHeld ⊢
                             refine pure_ (i := 1) (N := some 92) (v := ?_) (a' := ?_) #[false, true, false, false, false, false, false, false, false] rfl rfl (any_of HT_.out (by kernel_rfl)) (fun _ _ _ h => h) (Or.inl ⟨by rfl, ?_⟩) ?_ ?_
                             rotate_left
                             ·intro w'
                              go_simp
                              with_reducible rfl
                             rotate_left
                             ·simp only [Act.put, List.setIfInBounds_toArray, List.set_cons_zero, List.set_cons_succ, i64_w, i32_w]
                              rfl
                             refine pure_ (i := 2) (N := some 93) (v := ?_) (a' := ?_) #[false, true, true, false, false, false, false, false, false] rfl rfl (any_of HT_.out (by kernel_rfl)) (fun _ _ _ h => h) (Or.inl ⟨by rfl, ?_⟩) ?_ ?_
                             rotate_left
                             ·intro w'
                              go_simp
                              with_reducible rfl
                             rotate_left
                             ·simp only [Act.put, List.setIfInBounds_toArray, List.set_cons_zero, List.set_cons_succ, i64_w, i32_w]
                              rfl
                             refine pure_ (i := 3) (N := some 94) (v := ?_) (a' := ?_) #[false, true, true, true, false, false, false, false, false] rfl rfl (any_of HT_.out (by kernel_rfl)) (fun _ _ _ h => h) (Or.inl ⟨by rfl, ?_⟩) ?_ ?_
                             rotate_left
                             ·intro w'
                              go_simp
                              with_reducible rfl
                             rotate_left
                             ·simp only [Act.put, List.setIfInBounds_toArray, List.set_cons_zero, List.set_cons_succ, i64_w, i32_w]
                              rfl
                             refine pure_ (i := 4) (N := some 95) (v := ?_) (a' := ?_) #[false, true, true, true, true, false, false, false, false] rfl rfl (any_of HT_.out (by kernel_rfl)) (fun _ _ _ h => h) (Or.inl ⟨by rfl, ?_⟩) ?_ ?_
                             rotate_left
                             ·intro w'
                              go_simp
                              with_reducible rfl
                             rotate_left
                             ·simp only [Act.put, List.setIfInBounds_toArray, List.set_cons_zero, List.set_cons_succ, i64_w, i32_w]
                              rfl
                             refine pure_ (i := 5) (N := some 96) (v := ?_) (a' := ?_) #[false, true, true, true, true, true, false, false, false] rfl rfl (any_of HT_.out (by kernel_rfl)) (fun _ _ _ h => h) (Or.inl ⟨by rfl, ?_⟩) ?_ ?_
                             rotate_left
                             ·intro w'
                              go_simp
                              with_reducible rfl
                             rotate_left
                             ·simp only [Act.put, List.setIfInBounds_toArray, List.set_cons_zero, List.set_cons_succ, i64_w, i32_w]
                              rfl
                             refine pure_ (i := 6) (N := some 97) (v := ?_) (a' := ?_) #[false, true, true, true, true, true, true, false, false] rfl rfl (any_of HT_.out (by kernel_rfl)) (fun _ _ _ h => h) (Or.inl ⟨by rfl, ?_⟩) ?_ ?_
                             rotate_left
                             ·intro w'
                              go_simp
                              with_reducible rfl
                             rotate_left
                             ·simp only [Act.put, List.setIfInBounds_toArray, List.set_cons_zero, List.set_cons_succ, i64_w, i32_w]
                              rfl
                             refine take_ (i := 0) (N := some 91) (v := ?_) (a' := ?_) #[true, true, true, true, true, true, true, false, false] rfl rfl (take_ofW HT_.out HW_.out (by kernel_rfl)) (fun _ _ _ h => h) (Or.inl ⟨by rfl, ?_⟩) hHeld ?_ ?_
                             rotate_left
                             ·rintro w' ⟨s0, s1, s2⟩
                              go_simp
                              with_reducible rfl
                             rotate_left
                             ·simp only [Act.put, List.setIfInBounds_toArray, List.set_cons_zero, List.set_cons_succ, i64_w, i32_w]
                              rfl
                             refine one_ (i := 7) (N := some 98) #[true, true, true, true, true, true, true, true, false] rfl rfl (one_of HT_.out (by kernel_rfl)) (by decide) (fun K hK => ?_)
                             refine goes_ Try.func54 (by kernel_rfl) rfl #[.agg #[.int .i64 a0_0, .int .i64 a0_1, .int .i64 a0_2], .slice A66 ((l1.take ((ji46) : Int).toNat).drop (x9_1 : Int).toNat).length (c1 - x9_1.toNat)] (by rfl) rfl rfl zp37 ?_
                             with_reducible refine (impl_riseOf.calls kj32 a0_0 a0_1 a0_2 _ _ ((l1.take ((ji46) : Int).toNat).drop (x9_1 : Int).toNat) t185 _ ?side1 ?side2 A45.out).mono ?_
                             (case side1 => repeat (first | exact (Kd.C_below HR184.out HB.out) | (with_reducible refine Kd.C_alloc ?_ _) | (with_reducible refine Kd.C_drewN ?_ _) | (with_reducible refine Kd.C_drew ?_)))
                             (case side2 => exact HC184.out)
                             rintro e w67 ⟨rfl, hb⟩
                             refine ⟨_, rfl, ?_⟩
                             have n0_ := Aside0.mk (Kd.R_below zp35 hb)
                             have n1_ := Aside0.mk (Kd.R_below zp29 hb)
                             have n2_ := Aside0.mk (blk_below (g := gb172) (o := .cells #[.int .i64 a0_0, .int .i64 a0_1, .int .i64 a0_2] 27 (0, 0)) zp14 hb)
                             have n3_ := Aside0.mk (below_step zp10 hb)
                             clear HO_7
                             clear HO_8
                             clear BK172
                             clear HB
                             have HO_7 := n0_
                             have HO_8 := n1_
                             have BK172 := n2_
                             have HB := n3_
                             clear n0_ n1_ n2_ n3_
                             (try clear hb)
                             (try clear hb2)
                             (try clear hk)
                             (try clear hi)
                             refine hK.out _ _ ⟨(blk_cell BK172.out 0).trans rfl, (blk_cell BK172.out 1).trans rfl, (blk_cell BK172.out 2).trans rfl⟩ (fun hHeld => ?_)
                             clear hK K
                             refine norm_ (a' := ?_) ?_ ?_
                             rotate_left
                             ·show Act.put _ (some 98) _ = _
                              simp only [Act.put, List.setIfInBounds_toArray, List.set_cons_zero, List.set_cons_succ, i64_w, i32_w]
                              rfl
                             refine pure_ (i := 8) (N := some 13) (v := ?_) (a' := ?_) #[true, true, true, true, true, true, true, true, true] rfl rfl (any_of HT_.out (by kernel_rfl)) (fun _ _ _ h => h) (Or.inl ⟨by rfl, ?_⟩) ?_ ?_
                             rotate_left
                             ·intro w'
                              go_simp
                              with_reducible rfl
                             rotate_left
                             ·simp only [Act.put, List.setIfInBounds_toArray, List.set_cons_zero, List.set_cons_succ, i64_w, i32_w]
                              rfl
                             refine done_ (done_of HT_.out (by kernel_rfl)) ?_
                             have p186 : 0 ≤ ((ji46) : Int) := of_decide_eq_true zp2
                             have q186 : (ji46) < (x7_2.length : Int) := of_decide_eq_true zp2
                             obtain ⟨ad186, e186, hx186_0⟩ := Kd.at_int (Kd.R_reads' HO_7.out).2.2 (ji46) p186 q186
                             obtain rfl : (⟨go20, 0, none⟩ : Addr) = ad186 := (by injection e186)
                             (first | simp only [add_plain] at hx186_0 | simp only [add_at] at hx186_0 | simp only [Addr.add, Nat.zero_add] at hx186_0 | skip)
                             replace p186 := eq_true p186
                             replace q186 := eq_true q186
                             have p187 : 0 ≤ (x9_1 : Int) := of_decide_eq_true zp2
                             have q187 : x9_1 < (x7_2.length : Int) := of_decide_eq_true zp2
                             obtain ⟨ad187, e187, hx187_0⟩ := Kd.at_int (Kd.R_reads' HO_7.out).2.2 x9_1 p187 q187
                             obtain rfl : (⟨go20, 0, none⟩ : Addr) = ad187 := (by injection e187)
                             (first | simp only [add_plain] at hx187_0 | simp only [add_at] at hx187_0 | simp only [Addr.add, Nat.zero_add] at hx187_0 | skip)
                             replace p187 := eq_true p187
                             replace q187 := eq_true q187
                             have p190 : 0 ≤ (x9_1 : Int) := of_decide_eq_true zp2
                             have q190 : x9_1 < (x7_2.length : Int) := of_decide_eq_true zp2
                             obtain ⟨ad190, e190, hx190_0⟩ := Kd.at_int (Kd.R_reads' HO_7.out).2.2 x9_1 p190 q190
                             obtain rfl : (⟨go20, 0, none⟩ : Addr) = ad190 := (by injection e190)
                             (first | simp only [add_plain] at hx190_0 | simp only [add_at] at hx190_0 | simp only [Addr.add, Nat.zero_add] at hx190_0 | skip)
                             replace p190 := eq_true p190
                             replace q190 := eq_true q190
                             have p62 : 0 ≤ (x9_1 : Int) := of_decide_eq_true zp2
                             have q62 : (x9_1 : Int) < ((x7_2.length : Int) : Int) := of_decide_eq_true zp2
                             obtain ⟨hx62_0, hf62_0⟩ := Kd.R_celln 0 HO_7.out (x9_1 : Int) p62 q62
                             replace p62 := eq_true p62
                             replace q62 := eq_true q62
                             obtain ⟨hy68_, hz68_⟩ := Kd.R_celln 0 HO_7.out (x9_1 : Int) (of_decide_eq_true zp2) (of_decide_eq_true zp2)
                             have HP68 := Kd.R_putg HO_7.out (x9_1 : Int) (wrap64 ((wrap64 (t185 * t185)) + (rd x7_2 (ji46))))
                             try go_wp2_with (first | ((with_reducible refine gate_store (t := 3) (p := 128) rfl ?_); refine store_event (t := 3) (p := 128) (v := ?vo_w69) (w1 := (w67.setCell ⟨go20, (x9_1 : Int).toNat, none⟩ (.int .i64 (wrap64 ((wrap64 (t185 * t185)) + (rd x7_2 (ji46))))))) ?hg ?ho ?hn ?hr ?_; (case ho => rfl); (case hg => rfl); (case hn => rfl); (case hr => first | (go_simp; done) | (go_simp; rfl)); intro w69 hw; have hg : w67.grownBy w69 (some go20) := (by rw [hw]; exact HP68.2); have hp_ : Kd.R (Kd.int .i64) 3 w69 w.heap.size (fun k_ => some k_ ≠ (v178 : Value).ownBlock) (.slice (some ⟨go20, 0, none⟩) x7_2.length co20) y191 := (by rw [hw, Ny191.out]; exact HP68.1); clear HP68; have n0_ := Aside0.mk (hp_); have n1_ := Aside0.mk (Kd.R_after (v := (.slice (some ⟨go20, 0, none⟩) x7_2.length co20)) (v1 := (.slice (some ⟨go20, 0, none⟩) x7_2.length co20)) (ok := (fun _ => True)) zp42 hg (.inl rfl)); have n2_ := Aside0.mk (blk_grown (g := gb172) (o := .cells #[.int .i64 a0_0, .int .i64 a0_1, .int .i64 a0_2] 27 (0, 0)) zp14 hg (Kd.R_ne HO_7.out BK172.out (by decide))); have n3_ := Aside0.mk ((by rw [hw]; exact below_set (HB.out) GB20.out : Below w.heap.size w w69)); clear HO_7; clear HO_8; clear BK172; clear HB; have HO_7 := n0_; have HO_8 := n1_; have BK172 := n2_; have HB := n3_; clear n0_ n1_ n2_ n3_; clear hg hw hp_; have p64 : 0 ≤ (x9_1 : Int) := of_decide_eq_true zp2; have q64 : (x9_1 : Int) < ((x8_2.length : Int) : Int) := of_decide_eq_true zp2; obtain ⟨go64, co64, eo64, gb64, gl64, cl64, HG64⟩ := Kd.R_form HO_8.out zp74; (first | cases eo64 | (injection eo64 with ea_ en_ ec_; (first | subst ea_ | (injection ea_ with ea_; subst ea_)); subst ec_; clear en_)); have GB64 := Aside0.mk gb64; have GG64 := Aside0.mk HG64; clear gb64 gl64 HG64; obtain ⟨hx64_0, hf64_0⟩ := Kd.R_celln 0 HO_8.out (x9_1 : Int) p64 q64; replace p64 := eq_true p64; replace q64 := eq_true q64; have n_ := Aside0.mk (Kd.R_mono (ok' := (fun k_ => some k_ ≠ (.slice (some ⟨go20, 0, none⟩) x7_2.length co20 : Value).ownBlock)) HO_8.out (fun k_ hk => hk.2)); clear HO_8; have HO_8 := n_; clear n_; obtain ⟨hy70_, hz70_⟩ := Kd.R_celln 0 HO_8.out (x9_1 : Int) (of_decide_eq_true zp2) (of_decide_eq_true zp2); have HP70 := Kd.R_putg HO_8.out (x9_1 : Int) x10_2) | ((with_reducible refine gate_store (t := 3) (p := 129) rfl ?_); refine store_event (t := 3) (p := 129) (v := ?vo_w71) (w1 := (w69.setCell ⟨go64, (x9_1 : Int).toNat, none⟩ (.int .i64 x10_2))) ?hg ?ho ?hn ?hr ?_; (case ho => rfl); (case hg => rfl); (case hn => rfl); (case hr => first | (go_simp; done) | (go_simp; rfl)); intro w71 hw; have hg : w69.grownBy w71 (some go64) := (by rw [hw]; exact HP70.2); have hp_ : Kd.R (Kd.int .i64) 3 w71 w.heap.size (fun k_ => some k_ ≠ (.slice (some ⟨go20, 0, none⟩) x7_2.length co20 : Value).ownBlock) (.slice (some ⟨go64, 0, none⟩) x8_2.length co64) y192 := (by rw [hw, Ny192.out]; exact HP70.1); clear HP70; have n0_ := Aside0.mk (Kd.R_after (v := (.slice (some ⟨go64, 0, none⟩) x8_2.length co64)) (v1 := (.slice (some ⟨go64, 0, none⟩) x8_2.length co64)) (ok := (fun _ => True)) zp71 hg (.inl rfl)); have n1_ := Aside0.mk (hp_); have n2_ := Aside0.mk (blk_grown (g := gb172) (o := .cells #[.int .i64 a0_0, .int .i64 a0_1, .int .i64 a0_2] 27 (0, 0)) zp14 hg (Kd.R_ne HO_8.out BK172.out (by decide))); have n3_ := Aside0.mk ((by rw [hw]; exact below_set (HB.out) GB64.out : Below w.heap.size w w71)); clear HO_7; clear HO_8; clear BK172; clear HB; have HO_7 := n0_; have HO_8 := n1_; have BK172 := n2_; have HB := n3_; clear n0_ n1_ n2_ n3_; clear hg hw hp_))
                             (try simp only [← hl7_2])
                             go_roundg kj32
                             case measure => have := HK1.out; have := HK2.out; have := HJ27.out; have := HJ32.out; omega
                             case rel => exact ⟨(y191), (y192), (wrap64 (x10_2 + 1)), zp5, H', ⟨by have := HK1.out; have := HK2.out; have := HJ27.out; have := HJ32.out; omega⟩, ⟨by (try simp only [hl7_2]); (with_reducible repeat (first | apply Kd.R_alloc | apply Kd.R_drewN | apply Kd.R_drew)); exact Kd.R_mono HO_7.out (fun _ hk => hk.2)⟩, ⟨by (try simp only [hl7_2]); (with_reducible repeat (first | apply Kd.R_alloc | apply Kd.R_drewN | apply Kd.R_drew)); exact HO_8.out⟩, ⟨by (try simp only [hl7_2]); (with_reducible repeat (first | refine blk_drewN ?_ _ | refine blk_drew ?_ | refine blk_alloc ?_ _)); exact BK172.out⟩, ⟨by repeat (first | (with_reducible first | exact HB.out | apply below_alloc | apply pw_below_drewN | apply below_drew1 | refine below_set ?_ GE172.out) | exact HB.out)⟩⟩
                            ·rw [if_neg c63] at H
                             exact absurd H zp40
                           ·rw [if_neg c61] at H
                            have c61b0 : decide ((wrap64 ((wrap64 (t185 * t185)) + (rd x7_2 (ji46)))) < (rd x7_2 x9_1)) = false := decide_eq_false c61
                            clear c61
                            have H' := Aside0.mk H
                            clear H
                            try go_wp2
                            have n0_ := Aside0.mk (Kd.R_drew HO_7.out)
                            have n1_ := Aside0.mk (Kd.R_drew HO_8.out)
                            have n2_ := Aside0.mk (blk_drew BK172.out)
                            have n3_ := Aside0.mk (below_drew1 HB.out)
                            clear HO_7
                            clear HO_8
                            clear BK172
                            clear HB
                            have HO_7 := n0_
                            have HO_8 := n1_
                            have BK172 := n2_
                            have HB := n3_
                            clear n0_ n1_ n2_ n3_
                            obtain ⟨i073, hi073, _, hsz73, _⟩ := info_parts info3
                            obtain ⟨A73, hcut73, hA73, hC73⟩ := print_mid_of (P := Try.prog) (Value.int .i64) 0 24 3 .i64 .i64 Try.underlying24 hi073 hsz73 A1 c1 l1 x9_1 (ji46) (of_decide_eq_true zp2) zp41 (of_decide_eq_true zp2) HC1.out
                            have HR184 := Aside0.mk (Kd.C_of_reads (h1 := fun _ => rfl) (hA73 _ (Kd.reads_of_C HR1.out)))
                            have HC184 := Aside0.mk hC73
                            clear hA73 hC73 hi073 hsz73
                            refine start_ (n := 9) (S := fun w' => w'.cell? ⟨gb172, 0, none⟩ = some (.int .i64 a0_0) ∧ w'.cell? ⟨gb172, 1, none⟩ = some (.int .i64 a0_1) ∧ w'.cell? ⟨gb172, 2, none⟩ = some (.int .i64 a0_2)) (ds := []) #[false, false, false, false, false, false, false, false, false] (by kernel_rfl) rfl rfl ⟨(blk_cell BK172.out 0).trans rfl, (blk_cell BK172.out 1).trans rfl, (blk_cell BK172.out 2).trans rfl⟩ (fun hHeld => ?_); refine with_tabW impl_BestBreaking.tab15 impl_BestBreaking.bits15 (fun HT_ HW_ => ?_)
                            generalize wc.drew = w72 at HO_7 HO_8 BK172 HB HR184 hHeld ⊢
                            refine pure_ (i := 1) (N := some 92) (v := ?_) (a' := ?_) #[false, true, false, false, false, false, false, false, false] rfl rfl (any_of HT_.out (by kernel_rfl)) (fun _ _ _ h => h) (Or.inl ⟨by rfl, ?_⟩) ?_ ?_
                            rotate_left
                            ·intro w'
                             go_simp
                             with_reducible rfl
                            rotate_left
                            ·simp only [Act.put, List.setIfInBounds_toArray, List.set_cons_zero, List.set_cons_succ, i64_w, i32_w]
                             rfl
                            refine pure_ (i := 2) (N := some 93) (v := ?_) (a' := ?_) #[false, true, true, false, false, false, false, false, false] rfl rfl (any_of HT_.out (by kernel_rfl)) (fun _ _ _ h => h) (Or.inl ⟨by rfl, ?_⟩) ?_ ?_
                            rotate_left
                            ·intro w'
                             go_simp
                             with_reducible rfl
                            rotate_left
                            ·simp only [Act.put, List.setIfInBounds_toArray, List.set_cons_zero, List.set_cons_succ, i64_w, i32_w]
                             rfl
                            refine pure_ (i := 3) (N := some 94) (v := ?_) (a' := ?_) #[false, true, true, true, false, false, false, false, false] rfl rfl (any_of HT_.out (by kernel_rfl)) (fun _ _ _ h => h) (Or.inl ⟨by rfl, ?_⟩) ?_ ?_
                            rotate_left
                            ·intro w'
                             go_simp
                             with_reducible rfl
                            rotate_left
                            ·simp only [Act.put, List.setIfInBounds_toArray, List.set_cons_zero, List.set_cons_succ, i64_w, i32_w]
                             rfl
                            refine pure_ (i := 4) (N := some 95) (v := ?_) (a' := ?_) #[false, true, true, true, true, false, false, false, false] rfl rfl (any_of HT_.out (by kernel_rfl)) (fun _ _ _ h => h) (Or.inl ⟨by rfl, ?_⟩) ?_ ?_
                            rotate_left
                            ·intro w'
                             go_simp
                             with_reducible rfl
                            rotate_left
                            ·simp only [Act.put, List.setIfInBounds_toArray, List.set_cons_zero, List.set_cons_succ, i64_w, i32_w]
                             rfl
                            refine pure_ (i := 5) (N := some 96) (v := ?_) (a' := ?_) #[false, true, true, true, true, true, false, false, false] rfl rfl (any_of HT_.out (by kernel_rfl)) (fun _ _ _ h => h) (Or.inl ⟨by rfl, ?_⟩) ?_ ?_
                            rotate_left
                            ·intro w'
                             go_simp
                             with_reducible rfl
                            rotate_left
                            ·simp only [Act.put, List.setIfInBounds_toArray, List.set_cons_zero, List.set_cons_succ, i64_w, i32_w]
                             rfl
                            refine pure_ (i := 6) (N := some 97) (v := ?_) (a' := ?_) #[false, true, true, true, true, true, true, false, false] rfl rfl (any_of HT_.out (by kernel_rfl)) (fun _ _ _ h => h) (Or.inl ⟨by rfl, ?_⟩) ?_ ?_
                            rotate_left
                            ·intro w'
                             go_simp
                             with_reducible rfl
                            rotate_left
                            ·simp only [Act.put, List.setIfInBounds_toArray, List.set_cons_zero, List.set_cons_succ, i64_w, i32_w]
                             rfl
                            refine take_ (i := 0) (N := some 91) (v := ?_) (a' := ?_) #[true, true, true, true, true, true, true, false, false] rfl rfl (take_ofW HT_.out HW_.out (by kernel_rfl)) (fun _ _ _ h => h) (Or.inl ⟨by rfl, ?_⟩) hHeld ?_ ?_
                            rotate_left
                            ·rintro w' ⟨s0, s1, s2⟩
                             go_simp
                             with_reducible rfl
                            rotate_left
                            ·simp only [Act.put, List.setIfInBounds_toArray, List.set_cons_zero, List.set_cons_succ, i64_w, i32_w]
                             rfl
                            refine one_ (i := 7) (N := some 98) #[true, true, true, true, true, true, true, true, false] rfl rfl (one_of HT_.out (by kernel_rfl)) (by decide) (fun K hK => ?_)
                            refine goes_ Try.func54 (by kernel_rfl) rfl #[.agg #[.int .i64 a0_0, .int .i64 a0_1, .int .i64 a0_2], .slice A73 ((l1.take ((ji46) : Int).toNat).drop (x9_1 : Int).toNat).length (c1 - x9_1.toNat)] (by rfl) rfl rfl zp37 ?_
                            with_reducible refine (impl_riseOf.calls kj32 a0_0 a0_1 a0_2 _ _ ((l1.take ((ji46) : Int).toNat).drop (x9_1 : Int).toNat) t185 _ ?side1 ?side2 A45.out).mono ?_
                            (case side1 => repeat (first | exact (Kd.C_below HR184.out HB.out) | (with_reducible refine Kd.C_alloc ?_ _) | (with_reducible refine Kd.C_drewN ?_ _) | (with_reducible refine Kd.C_drew ?_)))
                            (case side2 => exact HC184.out)
                            rintro e w74 ⟨rfl, hb⟩
                            refine ⟨_, rfl, ?_⟩
                            have n0_ := Aside0.mk (Kd.R_below zp35 hb)
                            have n1_ := Aside0.mk (Kd.R_below zp29 hb)
                            have n2_ := Aside0.mk (blk_below (g := gb172) (o := .cells #[.int .i64 a0_0, .int .i64 a0_1, .int .i64 a0_2] 27 (0, 0)) zp14 hb)
                            have n3_ := Aside0.mk (below_step zp10 hb)
                            clear HO_7
                            clear HO_8
                            clear BK172
                            clear HB
                            have HO_7 := n0_
                            have HO_8 := n1_
                            have BK172 := n2_
                            have HB := n3_
                            clear n0_ n1_ n2_ n3_
                            (try clear hb)
                            (try clear hb2)
                            (try clear hk)
                            (try clear hi)
                            refine hK.out _ _ ⟨(blk_cell BK172.out 0).trans rfl, (blk_cell BK172.out 1).trans rfl, (blk_cell BK172.out 2).trans rfl⟩ (fun hHeld => ?_)
                            clear hK K
                            refine norm_ (a' := ?_) ?_ ?_
                            rotate_left
                            ·show Act.put _ (some 98) _ = _
                             simp only [Act.put, List.setIfInBounds_toArray, List.set_cons_zero, List.set_cons_succ, i64_w, i32_w]
                             rfl
                            refine pure_ (i := 8) (N := some 13) (v := ?_) (a' := ?_) #[true, true, true, true, true, true, true, true, true] rfl rfl (any_of HT_.out (by kernel_rfl)) (fun _ _ _ h => h) (Or.inl ⟨by rfl, ?_⟩) ?_ ?_
                            rotate_left
                            ·intro w'
                             go_simp
                             with_reducible rfl
                            rotate_left
                            ·simp only [Act.put, List.setIfInBounds_toArray, List.set_cons_zero, List.set_cons_succ, i64_w, i32_w]
                             rfl
                            refine done_ (done_of HT_.out (by kernel_rfl)) ?_
                            have p186 : 0 ≤ ((ji46) : Int) := of_decide_eq_true zp2
                            have q186 : (ji46) < (x7_2.length : Int) := of_decide_eq_true zp2
                            obtain ⟨ad186, e186, hx186_0⟩ := Kd.at_int (Kd.R_reads' HO_7.out).2.2 (ji46) p186 q186
                            obtain rfl : (⟨go20, 0, none⟩ : Addr) = ad186 := (by injection e186)
                            (first | simp only [add_plain] at hx186_0 | simp only [add_at] at hx186_0 | simp only [Addr.add, Nat.zero_add] at hx186_0 | skip)
                            replace p186 := eq_true p186
                            replace q186 := eq_true q186
                            have p187 : 0 ≤ (x9_1 : Int) := of_decide_eq_true zp2
                            have q187 : x9_1 < (x7_2.length : Int) := of_decide_eq_true zp2
                            obtain ⟨ad187, e187, hx187_0⟩ := Kd.at_int (Kd.R_reads' HO_7.out).2.2 x9_1 p187 q187
                            obtain rfl : (⟨go20, 0, none⟩ : Addr) = ad187 := (by injection e187)
                            (first | simp only [add_plain] at hx187_0 | simp only [add_at] at hx187_0 | simp only [Addr.add, Nat.zero_add] at hx187_0 | skip)
                            replace p187 := eq_true p187
                            replace q187 := eq_true q187
                            have p190 : 0 ≤ (x9_1 : Int) := of_decide_eq_true zp2
                            have q190 : x9_1 < (x7_2.length : Int) := of_decide_eq_true zp2
                            obtain ⟨ad190, e190, hx190_0⟩ := Kd.at_int (Kd.R_reads' HO_7.out).2.2 x9_1 p190 q190
                            obtain rfl : (⟨go20, 0, none⟩ : Addr) = ad190 := (by injection e190)
                            (first | simp only [add_plain] at hx190_0 | simp only [add_at] at hx190_0 | simp only [Addr.add, Nat.zero_add] at hx190_0 | skip)
                            replace p190 := eq_true p190
                            replace q190 := eq_true q190
                            try go_wp2
                            (try simp only [← hl7_2])
                            go_roundg kj32
                            case measure => have := HK1.out; have := HK2.out; have := HJ27.out; have := HJ32.out; omega
                            case rel => exact ⟨(x7_2), (x8_2), (wrap64 (x10_2 + 1)), zp5, H', ⟨by have := HK1.out; have := HK2.out; have := HJ27.out; have := HJ32.out; omega⟩, ⟨by (try simp only [hl7_2]); (with_reducible repeat (first | apply Kd.R_alloc | apply Kd.R_drewN | apply Kd.R_drew)); exact HO_7.out⟩, ⟨by (try simp only [hl7_2]); (with_reducible repeat (first | apply Kd.R_alloc | apply Kd.R_drewN | apply Kd.R_drew)); exact HO_8.out⟩, ⟨by (try simp only [hl7_2]); (with_reducible repeat (first | refine blk_drewN ?_ _ | refine blk_drew ?_ | refine blk_alloc ?_ _)); exact BK172.out⟩, ⟨by repeat (first | (with_reducible first | exact HB.out | apply below_alloc | apply pw_below_drewN | apply below_drew1 | refine below_set ?_ GE172.out) | exact HB.out)⟩⟩
                         ·rw [if_neg c49] at H
                          exact absurd H zp40
                        ·rw [if_neg c48] at H
                         exact absurd H zp40
                       ·rw [if_neg c47] at H
                        exact absurd H zp40
                      ·rw [if_neg c44] at H
                       exact absurd H zp40
                     ·rw [if_neg c43] at H
                      exact absurd H zp40
                    ·rw [if_neg c42] at H
                     exact absurd H zp40
                   ·rw [if_neg c41] at H
                    have c41b0 : decide ((wrap64 (x9_1 + x10_2)) < (l1.length : Int)) = false := decide_eq_false c41
                    clear c41
                    by_cases c75 : 0 ≤ x9_1
                    ·rw [if_pos c75] at H
                     have c75b0 : decide (0 ≤ x9_1) = true := decide_eq_true c75
                     clear c75
                     by_cases c76 : x9_1 < (x7_2.length : Int)
                     ·rw [if_pos c76] at H
                      have c76b0 : decide (x9_1 < (x7_2.length : Int)) = true := decide_eq_true c76
                      clear c76
                      by_cases c77 : (rd x7_2 x9_1) < 0
                      ·rw [if_pos c77] at H
                       have c77b0 : decide ((rd x7_2 x9_1) < 0) = true := decide_eq_true c77
                       clear c77
                       obtain ⟨y194, hy194⟩ : ∃ y_ : List Int, y_ = (x7_2.set (x9_1 : Int).toNat 0) := ⟨_, rfl⟩
                       replace H : (if x9_1 < (x8_2.length : Int) then (impl_BestBreaking.l1 kj32 l1 y194 (x8_2.set (x9_1 : Int).toNat x10_2) x9_1 (wrap64 (x10_2 + 1)) a0_0 a0_1 a0_2) else (none)) = some (r1, r2, r3) := by first | (rw [hy194]; with_reducible exact H) | (have H2_ := (Option.bind_some _ _).symm.trans H; rw [hy194]; with_reducible exact H2_) | (have H2_ := (Option.bind_some _ _).symm.trans H; with_reducible exact H2_) | with_reducible exact H | (rw [hy194]; exact H) | exact H
                       have Ny194 := Aside0.mk hy194
                       clear hy194
                       by_cases c79 : x9_1 < (x8_2.length : Int)
                       ·rw [if_pos c79] at H
                        have c79b0 : decide (x9_1 < (x8_2.length : Int)) = true := decide_eq_true c79
                        clear c79
                        obtain ⟨y195, hy195⟩ : ∃ y_ : List Int, y_ = (x8_2.set (x9_1 : Int).toNat x10_2) := ⟨_, rfl⟩
                        replace H : (impl_BestBreaking.l1 kj32 l1 y194 y195 x9_1 (wrap64 (x10_2 + 1)) a0_0 a0_1 a0_2) = some (r1, r2, r3) := by first | (rw [hy195]; with_reducible exact H) | (have H2_ := (Option.bind_some _ _).symm.trans H; rw [hy195]; with_reducible exact H2_) | (have H2_ := (Option.bind_some _ _).symm.trans H; with_reducible exact H2_) | with_reducible exact H | (rw [hy195]; exact H) | exact H
                        have Ny195 := Aside0.mk hy195
                        clear hy195
                        have H' := Aside0.mk H
                        clear H
                        have p193 : 0 ≤ (x9_1 : Int) := of_decide_eq_true zp2
                        have q193 : x9_1 < (x7_2.length : Int) := of_decide_eq_true zp2
                        obtain ⟨ad193, e193, hx193_0⟩ := Kd.at_int (Kd.R_reads' HO_7.out).2.2 x9_1 p193 q193
                        obtain rfl : (⟨go20, 0, none⟩ : Addr) = ad193 := (by injection e193)
                        (first | simp only [add_plain] at hx193_0 | simp only [add_at] at hx193_0 | simp only [Addr.add, Nat.zero_add] at hx193_0 | skip)
                        replace p193 := eq_true p193
                        replace q193 := eq_true q193
                        have p78 : 0 ≤ (x9_1 : Int) := of_decide_eq_true zp2
                        have q78 : (x9_1 : Int) < ((x7_2.length : Int) : Int) := of_decide_eq_true zp2
                        obtain ⟨hx78_0, hf78_0⟩ := Kd.R_celln 0 HO_7.out (x9_1 : Int) p78 q78
                        replace p78 := eq_true p78
                        replace q78 := eq_true q78
                        have HP81 := Kd.R_putg HO_7.out (x9_1 : Int) 0
                        go_wp2_with (first | ((with_reducible refine gate_store (t := 3) (p := 128) rfl ?_); refine store_event (t := 3) (p := 128) (v := ?vo_w82) (w1 := (wc.setCell ⟨go20, (x9_1 : Int).toNat, none⟩ (.int .i64 0))) ?hg ?ho ?hn ?hr ?_; (case ho => rfl); (case hg => rfl); (case hn => rfl); (case hr => first | (go_simp; done) | (go_simp; rfl)); intro w82 hw; have hg : wc.grownBy w82 (some go20) := (by rw [hw]; exact HP81.2); have hp_ : Kd.R (Kd.int .i64) 3 w82 w.heap.size (fun k_ => some k_ ≠ (v178 : Value).ownBlock) (.slice (some ⟨go20, 0, none⟩) x7_2.length co20) y194 := (by rw [hw, Ny194.out]; exact HP81.1); clear HP81; have n0_ := Aside0.mk (hp_); have n1_ := Aside0.mk (Kd.R_after (v := (.slice (some ⟨go20, 0, none⟩) x7_2.length co20)) (v1 := (.slice (some ⟨go20, 0, none⟩) x7_2.length co20)) (ok := (fun _ => True)) zp42 hg (.inl rfl)); have n2_ := Aside0.mk (blk_grown (g := gb172) (o := .cells #[.int .i64 a0_0, .int .i64 a0_1, .int .i64 a0_2] 27 (0, 0)) zp14 hg (Kd.R_ne HO_7.out BK172.out (by decide))); have n3_ := Aside0.mk ((by rw [hw]; exact below_set (HB.out) GB20.out : Below w.heap.size w w82)); clear HO_7; clear HO_8; clear BK172; clear HB; have HO_7 := n0_; have HO_8 := n1_; have BK172 := n2_; have HB := n3_; clear n0_ n1_ n2_ n3_; clear hg hw hp_; have p80 : 0 ≤ (x9_1 : Int) := of_decide_eq_true zp2; have q80 : (x9_1 : Int) < ((x8_2.length : Int) : Int) := of_decide_eq_true zp2; obtain ⟨go80, co80, eo80, gb80, gl80, cl80, HG80⟩ := Kd.R_form HO_8.out zp74; (first | cases eo80 | (injection eo80 with ea_ en_ ec_; (first | subst ea_ | (injection ea_ with ea_; subst ea_)); subst ec_; clear en_)); have GB80 := Aside0.mk gb80; have GG80 := Aside0.mk HG80; clear gb80 gl80 HG80; obtain ⟨hx80_0, hf80_0⟩ := Kd.R_celln 0 HO_8.out (x9_1 : Int) p80 q80; replace p80 := eq_true p80; replace q80 := eq_true q80; have n_ := Aside0.mk (Kd.R_mono (ok' := (fun k_ => some k_ ≠ (.slice (some ⟨go20, 0, none⟩) x7_2.length co20 : Value).ownBlock)) HO_8.out (fun k_ hk => hk.2)); clear HO_8; have HO_8 := n_; clear n_; obtain ⟨hy83_, hz83_⟩ := Kd.R_celln 0 HO_8.out (x9_1 : Int) (of_decide_eq_true zp2) (of_decide_eq_true zp2); have HP83 := Kd.R_putg HO_8.out (x9_1 : Int) x10_2) | ((with_reducible refine gate_store (t := 3) (p := 129) rfl ?_); refine store_event (t := 3) (p := 129) (v := ?vo_w84) (w1 := (w82.setCell ⟨go80, (x9_1 : Int).toNat, none⟩ (.int .i64 x10_2))) ?hg ?ho ?hn ?hr ?_; (case ho => rfl); (case hg => rfl); (case hn => rfl); (case hr => first | (go_simp; done) | (go_simp; rfl)); intro w84 hw; have hg : w82.grownBy w84 (some go80) := (by rw [hw]; exact HP83.2); have hp_ : Kd.R (Kd.int .i64) 3 w84 w.heap.size (fun k_ => some k_ ≠ (.slice (some ⟨go20, 0, none⟩) x7_2.length co20 : Value).ownBlock) (.slice (some ⟨go80, 0, none⟩) x8_2.length co80) y195 := (by rw [hw, Ny195.out]; exact HP83.1); clear HP83; have n0_ := Aside0.mk (Kd.R_after (v := (.slice (some ⟨go80, 0, none⟩) x8_2.length co80)) (v1 := (.slice (some ⟨go80, 0, none⟩) x8_2.length co80)) (ok := (fun _ => True)) zp71 hg (.inl rfl)); have n1_ := Aside0.mk (hp_); have n2_ := Aside0.mk (blk_grown (g := gb172) (o := .cells #[.int .i64 a0_0, .int .i64 a0_1, .int .i64 a0_2] 27 (0, 0)) zp14 hg (Kd.R_ne HO_8.out BK172.out (by decide))); have n3_ := Aside0.mk ((by rw [hw]; exact below_set (HB.out) GB80.out : Below w.heap.size w w84)); clear HO_7; clear HO_8; clear BK172; clear HB; have HO_7 := n0_; have HO_8 := n1_; have BK172 := n2_; have HB := n3_; clear n0_ n1_ n2_ n3_; clear hg hw hp_))
                        (try simp only [← hl7_2])
                        go_roundg kj32
                        case measure => have := HK1.out; have := HK2.out; have := HJ27.out; have := HJ32.out; omega
                        case rel => exact ⟨(y194), (y195), (wrap64 (x10_2 + 1)), zp5, H', ⟨by have := HK1.out; have := HK2.out; have := HJ27.out; have := HJ32.out; omega⟩, ⟨by (try simp only [hl7_2]); (with_reducible repeat (first | apply Kd.R_alloc | apply Kd.R_drewN | apply Kd.R_drew)); exact Kd.R_mono HO_7.out (fun _ hk => hk.2)⟩, ⟨by (try simp only [hl7_2]); (with_reducible repeat (first | apply Kd.R_alloc | apply Kd.R_drewN | apply Kd.R_drew)); exact HO_8.out⟩, ⟨by (try simp only [hl7_2]); (with_reducible repeat (first | refine blk_drewN ?_ _ | refine blk_drew ?_ | refine blk_alloc ?_ _)); exact BK172.out⟩, ⟨by repeat (first | (with_reducible first | exact HB.out | apply below_alloc | apply pw_below_drewN | apply below_drew1 | refine below_set ?_ GE172.out) | exact HB.out)⟩⟩
                       ·rw [if_neg c79] at H
                        exact absurd H zp40
                      ·rw [if_neg c77] at H
                       have c77b0 : decide ((rd x7_2 x9_1) < 0) = false := decide_eq_false c77
                       clear c77
                       by_cases c85 : 0 < (rd x7_2 x9_1)
                       ·rw [if_pos c85] at H
                        have c85b0 : decide (0 < (rd x7_2 x9_1)) = true := decide_eq_true c85
                        clear c85
                        obtain ⟨y197, hy197⟩ : ∃ y_ : List Int, y_ = (x7_2.set (x9_1 : Int).toNat 0) := ⟨_, rfl⟩
                        replace H : (if x9_1 < (x8_2.length : Int) then (impl_BestBreaking.l1 kj32 l1 y197 (x8_2.set (x9_1 : Int).toNat x10_2) x9_1 (wrap64 (x10_2 + 1)) a0_0 a0_1 a0_2) else (none)) = some (r1, r2, r3) := by first | (rw [hy197]; with_reducible exact H) | (have H2_ := (Option.bind_some _ _).symm.trans H; rw [hy197]; with_reducible exact H2_) | (have H2_ := (Option.bind_some _ _).symm.trans H; with_reducible exact H2_) | with_reducible exact H | (rw [hy197]; exact H) | exact H
                        have Ny197 := Aside0.mk hy197
                        clear hy197
                        by_cases c87 : x9_1 < (x8_2.length : Int)
                        ·rw [if_pos c87] at H
                         have c87b0 : decide (x9_1 < (x8_2.length : Int)) = true := decide_eq_true c87
                         clear c87
                         obtain ⟨y198, hy198⟩ : ∃ y_ : List Int, y_ = (x8_2.set (x9_1 : Int).toNat x10_2) := ⟨_, rfl⟩
                         replace H : (impl_BestBreaking.l1 kj32 l1 y197 y198 x9_1 (wrap64 (x10_2 + 1)) a0_0 a0_1 a0_2) = some (r1, r2, r3) := by first | (rw [hy198]; with_reducible exact H) | (have H2_ := (Option.bind_some _ _).symm.trans H; rw [hy198]; with_reducible exact H2_) | (have H2_ := (Option.bind_some _ _).symm.trans H; with_reducible exact H2_) | with_reducible exact H | (rw [hy198]; exact H) | exact H
                         have Ny198 := Aside0.mk hy198
                         clear hy198
                         have H' := Aside0.mk H
                         clear H
                         have p193 : 0 ≤ (x9_1 : Int) := of_decide_eq_true zp2
                         have q193 : x9_1 < (x7_2.length : Int) := of_decide_eq_true zp2
                         obtain ⟨ad193, e193, hx193_0⟩ := Kd.at_int (Kd.R_reads' HO_7.out).2.2 x9_1 p193 q193
                         obtain rfl : (⟨go20, 0, none⟩ : Addr) = ad193 := (by injection e193)
                         (first | simp only [add_plain] at hx193_0 | simp only [add_at] at hx193_0 | simp only [Addr.add, Nat.zero_add] at hx193_0 | skip)
                         replace p193 := eq_true p193
                         replace q193 := eq_true q193
                         have p196 : 0 ≤ (x9_1 : Int) := of_decide_eq_true zp2
                         have q196 : x9_1 < (x7_2.length : Int) := of_decide_eq_true zp2
                         obtain ⟨ad196, e196, hx196_0⟩ := Kd.at_int (Kd.R_reads' HO_7.out).2.2 x9_1 p196 q196
                         obtain rfl : (⟨go20, 0, none⟩ : Addr) = ad196 := (by injection e196)
                         (first | simp only [add_plain] at hx196_0 | simp only [add_at] at hx196_0 | simp only [Addr.add, Nat.zero_add] at hx196_0 | skip)
                         replace p196 := eq_true p196
                         replace q196 := eq_true q196
                         have p86 : 0 ≤ (x9_1 : Int) := of_decide_eq_true zp2
                         have q86 : (x9_1 : Int) < ((x7_2.length : Int) : Int) := of_decide_eq_true zp2
                         obtain ⟨hx86_0, hf86_0⟩ := Kd.R_celln 0 HO_7.out (x9_1 : Int) p86 q86
                         replace p86 := eq_true p86
                         replace q86 := eq_true q86
                         have HP89 := Kd.R_putg HO_7.out (x9_1 : Int) 0
                         go_wp2_with (first | ((with_reducible refine gate_store (t := 3) (p := 128) rfl ?_); refine store_event (t := 3) (p := 128) (v := ?vo_w90) (w1 := (wc.setCell ⟨go20, (x9_1 : Int).toNat, none⟩ (.int .i64 0))) ?hg ?ho ?hn ?hr ?_; (case ho => rfl); (case hg => rfl); (case hn => rfl); (case hr => first | (go_simp; done) | (go_simp; rfl)); intro w90 hw; have hg : wc.grownBy w90 (some go20) := (by rw [hw]; exact HP89.2); have hp_ : Kd.R (Kd.int .i64) 3 w90 w.heap.size (fun k_ => some k_ ≠ (v178 : Value).ownBlock) (.slice (some ⟨go20, 0, none⟩) x7_2.length co20) y197 := (by rw [hw, Ny197.out]; exact HP89.1); clear HP89; have n0_ := Aside0.mk (hp_); have n1_ := Aside0.mk (Kd.R_after (v := (.slice (some ⟨go20, 0, none⟩) x7_2.length co20)) (v1 := (.slice (some ⟨go20, 0, none⟩) x7_2.length co20)) (ok := (fun _ => True)) zp42 hg (.inl rfl)); have n2_ := Aside0.mk (blk_grown (g := gb172) (o := .cells #[.int .i64 a0_0, .int .i64 a0_1, .int .i64 a0_2] 27 (0, 0)) zp14 hg (Kd.R_ne HO_7.out BK172.out (by decide))); have n3_ := Aside0.mk ((by rw [hw]; exact below_set (HB.out) GB20.out : Below w.heap.size w w90)); clear HO_7; clear HO_8; clear BK172; clear HB; have HO_7 := n0_; have HO_8 := n1_; have BK172 := n2_; have HB := n3_; clear n0_ n1_ n2_ n3_; clear hg hw hp_; have p88 : 0 ≤ (x9_1 : Int) := of_decide_eq_true zp2; have q88 : (x9_1 : Int) < ((x8_2.length : Int) : Int) := of_decide_eq_true zp2; obtain ⟨go88, co88, eo88, gb88, gl88, cl88, HG88⟩ := Kd.R_form HO_8.out zp74; (first | cases eo88 | (injection eo88 with ea_ en_ ec_; (first | subst ea_ | (injection ea_ with ea_; subst ea_)); subst ec_; clear en_)); have GB88 := Aside0.mk gb88; have GG88 := Aside0.mk HG88; clear gb88 gl88 HG88; obtain ⟨hx88_0, hf88_0⟩ := Kd.R_celln 0 HO_8.out (x9_1 : Int) p88 q88; replace p88 := eq_true p88; replace q88 := eq_true q88; have n_ := Aside0.mk (Kd.R_mono (ok' := (fun k_ => some k_ ≠ (.slice (some ⟨go20, 0, none⟩) x7_2.length co20 : Value).ownBlock)) HO_8.out (fun k_ hk => hk.2)); clear HO_8; have HO_8 := n_; clear n_; obtain ⟨hy91_, hz91_⟩ := Kd.R_celln 0 HO_8.out (x9_1 : Int) (of_decide_eq_true zp2) (of_decide_eq_true zp2); have HP91 := Kd.R_putg HO_8.out (x9_1 : Int) x10_2) | ((with_reducible refine gate_store (t := 3) (p := 129) rfl ?_); refine store_event (t := 3) (p := 129) (v := ?vo_w92) (w1 := (w90.setCell ⟨go88, (x9_1 : Int).toNat, none⟩ (.int .i64 x10_2))) ?hg ?ho ?hn ?hr ?_; (case ho => rfl); (case hg => rfl); (case hn => rfl); (case hr => first | (go_simp; done) | (go_simp; rfl)); intro w92 hw; have hg : w90.grownBy w92 (some go88) := (by rw [hw]; exact HP91.2); have hp_ : Kd.R (Kd.int .i64) 3 w92 w.heap.size (fun k_ => some k_ ≠ (.slice (some ⟨go20, 0, none⟩) x7_2.length co20 : Value).ownBlock) (.slice (some ⟨go88, 0, none⟩) x8_2.length co88) y198 := (by rw [hw, Ny198.out]; exact HP91.1); clear HP91; have n0_ := Aside0.mk (Kd.R_after (v := (.slice (some ⟨go88, 0, none⟩) x8_2.length co88)) (v1 := (.slice (some ⟨go88, 0, none⟩) x8_2.length co88)) (ok := (fun _ => True)) zp71 hg (.inl rfl)); have n1_ := Aside0.mk (hp_); have n2_ := Aside0.mk (blk_grown (g := gb172) (o := .cells #[.int .i64 a0_0, .int .i64 a0_1, .int .i64 a0_2] 27 (0, 0)) zp14 hg (Kd.R_ne HO_8.out BK172.out (by decide))); have n3_ := Aside0.mk ((by rw [hw]; exact below_set (HB.out) GB88.out : Below w.heap.size w w92)); clear HO_7; clear HO_8; clear BK172; clear HB; have HO_7 := n0_; have HO_8 := n1_; have BK172 := n2_; have HB := n3_; clear n0_ n1_ n2_ n3_; clear hg hw hp_))
                         (try simp only [← hl7_2])
                         go_roundg kj32
                         case measure => have := HK1.out; have := HK2.out; have := HJ27.out; have := HJ32.out; omega
                         case rel => exact ⟨(y197), (y198), (wrap64 (x10_2 + 1)), zp5, H', ⟨by have := HK1.out; have := HK2.out; have := HJ27.out; have := HJ32.out; omega⟩, ⟨by (try simp only [hl7_2]); (with_reducible repeat (first | apply Kd.R_alloc | apply Kd.R_drewN | apply Kd.R_drew)); exact Kd.R_mono HO_7.out (fun _ hk => hk.2)⟩, ⟨by (try simp only [hl7_2]); (with_reducible repeat (first | apply Kd.R_alloc | apply Kd.R_drewN | apply Kd.R_drew)); exact HO_8.out⟩, ⟨by (try simp only [hl7_2]); (with_reducible repeat (first | refine blk_drewN ?_ _ | refine blk_drew ?_ | refine blk_alloc ?_ _)); exact BK172.out⟩, ⟨by repeat (first | (with_reducible first | exact HB.out | apply below_alloc | apply pw_below_drewN | apply below_drew1 | refine below_set ?_ GE172.out) | exact HB.out)⟩⟩
                        ·rw [if_neg c87] at H
                         exact absurd H zp40
                       ·rw [if_neg c85] at H
                        have c85b0 : decide (0 < (rd x7_2 x9_1)) = false := decide_eq_false c85
                        clear c85
                        have H' := Aside0.mk H
                        clear H
                        have p193 : 0 ≤ (x9_1 : Int) := of_decide_eq_true zp2
                        have q193 : x9_1 < (x7_2.length : Int) := of_decide_eq_true zp2
                        obtain ⟨ad193, e193, hx193_0⟩ := Kd.at_int (Kd.R_reads' HO_7.out).2.2 x9_1 p193 q193
                        obtain rfl : (⟨go20, 0, none⟩ : Addr) = ad193 := (by injection e193)
                        (first | simp only [add_plain] at hx193_0 | simp only [add_at] at hx193_0 | simp only [Addr.add, Nat.zero_add] at hx193_0 | skip)
                        replace p193 := eq_true p193
                        replace q193 := eq_true q193
                        have p196 : 0 ≤ (x9_1 : Int) := of_decide_eq_true zp2
                        have q196 : x9_1 < (x7_2.length : Int) := of_decide_eq_true zp2
                        obtain ⟨ad196, e196, hx196_0⟩ := Kd.at_int (Kd.R_reads' HO_7.out).2.2 x9_1 p196 q196
                        obtain rfl : (⟨go20, 0, none⟩ : Addr) = ad196 := (by injection e196)
                        (first | simp only [add_plain] at hx196_0 | simp only [add_at] at hx196_0 | simp only [Addr.add, Nat.zero_add] at hx196_0 | skip)
                        replace p196 := eq_true p196
                        replace q196 := eq_true q196
                        go_wp2
                        (try simp only [← hl7_2])
                        go_roundg kj32
                        case measure => have := HK1.out; have := HK2.out; have := HJ27.out; have := HJ32.out; omega
                        case rel => exact ⟨(x7_2), (x8_2), (wrap64 (x10_2 + 1)), zp5, H', ⟨by have := HK1.out; have := HK2.out; have := HJ27.out; have := HJ32.out; omega⟩, ⟨by (try simp only [hl7_2]); (with_reducible repeat (first | apply Kd.R_alloc | apply Kd.R_drewN | apply Kd.R_drew)); exact HO_7.out⟩, ⟨by (try simp only [hl7_2]); (with_reducible repeat (first | apply Kd.R_alloc | apply Kd.R_drewN | apply Kd.R_drew)); exact HO_8.out⟩, ⟨by (try simp only [hl7_2]); (with_reducible repeat (first | refine blk_drewN ?_ _ | refine blk_drew ?_ | refine blk_alloc ?_ _)); exact BK172.out⟩, ⟨by repeat (first | (with_reducible first | exact HB.out | apply below_alloc | apply pw_below_drewN | apply below_drew1 | refine below_set ?_ GE172.out) | exact HB.out)⟩⟩
                     ·rw [if_neg c76] at H
                      exact absurd H zp40
                    ·rw [if_neg c75] at H
                     exact absurd H zp40
             ·rw [if_neg c25] at H
              exact absurd H zp40
            ·rw [if_neg c24] at H
             exact absurd H zp40
           ·rw [if_neg c23] at H
            have c23b0 : decide ((wrap64 (x9_1 + x10_2)) ≤ (l1.length : Int)) = false := decide_eq_false c23
            clear c23
            have H' := Aside0.mk H
            clear H
            go_wp2
            (try simp only [← hl7_2])
            go_roundg k2
            case measure => have := HK1.out; have := HK2.out; omega
            case rel => exact ⟨(x7_2), (x8_2), (wrap64 (x9_1 - 1)), zp5, H', ⟨by have := HK1.out; have := HK2.out; omega⟩, ⟨by (try simp only [hl7_2]); (with_reducible repeat (first | apply Kd.R_alloc | apply Kd.R_drewN | apply Kd.R_drew)); exact HO_7.out⟩, ⟨by (try simp only [hl7_2]); (with_reducible repeat (first | apply Kd.R_alloc | apply Kd.R_drewN | apply Kd.R_drew)); exact HO_8.out⟩, ⟨by (try simp only [hl7_2]); (with_reducible repeat (first | refine blk_drewN ?_ _ | refine blk_drew ?_ | refine blk_alloc ?_ _)); exact BK172.out⟩, ⟨by repeat (first | (with_reducible first | exact HB.out | apply below_alloc | apply pw_below_drewN | apply below_drew1 | refine below_set ?_ GE172.out) | exact HB.out)⟩⟩
        ·rw [if_neg c19] at H
         exact absurd H zp40
       ·rw [if_neg c18] at H
        exact absurd H zp40
      ·rw [if_neg c17] at H
       have c17b0 : decide (0 ≤ x9_1) = false := decide_eq_false c17
       clear c17
       by_cases c93 : 0 < (x7_1.length : Int)
       ·rw [if_pos c93] at H
        have c93b0 : decide (0 < (x7_1.length : Int)) = true := decide_eq_true c93
        have c93b1 : decide (0 < x7_1.length) = true := decide_eq_true zp74
        clear c93
        by_cases c94 : (rd x7_1 0) < 0
        ·rw [if_pos c94] at H
         have c94b0 : decide ((rd x7_1 0) < 0) = true := decide_eq_true c94
         clear c94
         simp only [Option.some.injEq, Prod.mk.injEq] at H
         obtain ⟨rfl, rfl, rfl⟩ := H
         obtain ⟨Ao95, co95, eo95⟩ := Kd.R_slice HO_7.out
         subst eo95
         have p199 : 0 ≤ (0 : Int) := zp74
         have q199 : 0 < (x7_1.length : Int) := of_decide_eq_true zp2
         obtain ⟨ad199, e199, hx199_0⟩ := Kd.at_int (Kd.R_reads' HO_7.out).2.2 0 p199 q199
         cases e199
         have qi199 : (0 < x7_1.length) = True := eq_true zp74
         (try rw [show ((0 : Int)).toNat = 0 from rfl] at hx199_0)
         (try rw [Addr.add_zero'] at hx199_0)
         replace p199 := eq_true p199
         replace q199 := eq_true q199
         go_wp2
         go_ret3
         exact ⟨_, by first | rfl | (simp [errW_none, errW_some] <;> rfl) | (simp only [← hji5]; first | rfl | (simp [errW_none, errW_some] <;> rfl)) | (simp [*, errW_none, errW_some] <;> rfl), by first | exact Kd.R_nil _ _ _ _ _ | exact Kd.N_nil _ _ _ _ _ | exact Kd.V_nil _ _ _ _ _ | exact Kd.Q_nil _ _ _ _ _ | exact Kd.S_nil _ _ _ _ _, by repeat (first | (with_reducible first | exact HB.out | apply below_alloc | apply pw_below_drewN | apply below_drew1 | refine below_set ?_ GE172.out) | exact HB.out)⟩
        ·rw [if_neg c94] at H
         have c94b0 : decide ((rd x7_1 0) < 0) = false := decide_eq_false c94
         clear c94
         obtain ⟨y200, hy200⟩ : ∃ y_ : List Int, y_ = (([] : List Int)) := ⟨_, rfl⟩
         replace H : (impl_BestBreaking.l2 k1 l1 x7_1 x8_1 y200 0) = some (r1, r2, r3) := by first | (rw [hy200]; with_reducible exact H) | (have H2_ := (Option.bind_some _ _).symm.trans H; rw [hy200]; with_reducible exact H2_) | (have H2_ := (Option.bind_some _ _).symm.trans H; with_reducible exact H2_) | with_reducible exact H | (rw [hy200]; exact H) | exact H
         have Ny200 := Aside0.mk hy200
         clear hy200
         have H' := Aside0.mk H
         clear H
         obtain ⟨Ao96, co96, eo96⟩ := Kd.R_slice HO_7.out
         subst eo96
         have p199 : 0 ≤ (0 : Int) := zp74
         have q199 : 0 < (x7_1.length : Int) := of_decide_eq_true zp2
         obtain ⟨ad199, e199, hx199_0⟩ := Kd.at_int (Kd.R_reads' HO_7.out).2.2 0 p199 q199
         cases e199
         have qi199 : (0 < x7_1.length) = True := eq_true zp74
         (try rw [show ((0 : Int)).toNat = 0 from rfl] at hx199_0)
         (try rw [Addr.add_zero'] at hx199_0)
         replace p199 := eq_true p199
         replace q199 := eq_true q199
         go_wp2_with (first | ((with_reducible refine gate_dst (N := 134) rfl ?_); refine Kd.R_lit (Kd.int .i64) _ 3 ?hg (N := 134) ?hd (xs := ([] : List Int)) (inner := []) (ok := fun _ => True) (okp := fun _ => True) ?hr ?hp (fun _ hk => hk) trivial (Below.refl _ _) (Nat.le_refl _) zp40 ?_; (case hd => rfl); (case hg => rfl); (case hr => first | (go_simp; done) | (go_simp; rfl)); (case hp => exact (Reps.none _ _)); intro v201 w97 ho98 hb hg_ hnew_; clear hg_ hnew_; (first | rw [← Ny200.out] at ho98 | (simp only [Int.reduceToNat] at ho98; rw [← Ny200.out] at ho98)); have n0_ := Aside0.mk (Kd.R_elder' zp35 (Kd.R_base ho98) hb); have n1_ := Aside0.mk (Kd.R_elder' zp29 (Kd.R_base ho98) hb); have n2_ := Aside0.mk (Kd.R_lower (Kd.R_new' (Kd.R_new' ho98 (Kd.R_lt zp35)) (Kd.R_lt zp29)) (below_size zp10)); have n3_ := Aside0.mk (blk_below (g := gb172) (o := .cells #[.int .i64 a0_0, .int .i64 a0_1, .int .i64 a0_2] 27 (0, 0)) zp14 hb); have n4_ := Aside0.mk (below_step zp10 hb); clear HO_7; clear HO_8; clear BK172; clear HB; have HO_7 := n0_; have HO_8 := n1_; have HO202 := n2_; have BK172 := n3_; have HB := n4_; clear n0_ n1_ n2_ n3_ n4_; clear hb ho98))
         go_loopg [14, 15] k1 (fun kq v14 v15 w' => ∃ (x14_2 : List Int) (x15_2 : Int), v15 = .int .i64 x15_2 ∧ Aside0 (impl_BestBreaking.l2 kq l1 x7_1 x8_1 x14_2 x15_2 = some (r1, r2, r3)) ∧ Aside0 (kq ≤ k1) ∧ Aside0 (Kd.R (Kd.int .i64) 3 w' w.heap.size (fun k_ => some k_ ≠ (v178 : Value).ownBlock ∧ some k_ ≠ (v14 : Value).ownBlock) (.slice (some ad199) x7_1.length co96) x7_1) ∧ Aside0 (Kd.R (Kd.int .i64) 3 w' w.heap.size (fun k_ => some k_ ≠ ((.slice (some ad199) x7_1.length co96) : Value).ownBlock ∧ some k_ ≠ (v14 : Value).ownBlock) v178 x8_1) ∧ Aside0 (Kd.R (Kd.int .i64) 3 w' w.heap.size (fun k_ => some k_ ≠ ((.slice (some ad199) x7_1.length co96) : Value).ownBlock ∧ some k_ ≠ (v178 : Value).ownBlock) v14 x14_2) ∧ Aside0 (w'.heap[gb172]? = some (.cells #[.int .i64 a0_0, .int .i64 a0_1, .int .i64 a0_2] 27 (0, 0))) ∧ Aside0 (Below w.heap.size w w'))
         case atStart => exact ⟨(y200), (0), zp5, H', ⟨Nat.le_refl _⟩, ⟨by (with_reducible repeat (first | apply Kd.R_alloc | apply Kd.R_drewN | apply Kd.R_drew)); exact HO_7.out⟩, ⟨by (with_reducible repeat (first | apply Kd.R_alloc | apply Kd.R_drewN | apply Kd.R_drew)); exact HO_8.out⟩, ⟨by (with_reducible repeat (first | apply Kd.R_alloc | apply Kd.R_drewN | apply Kd.R_drew)); exact Kd.R_mono HO202.out (fun _ hk => ⟨hk.1.2, hk.2⟩)⟩, ⟨by (with_reducible repeat (first | refine blk_drewN ?_ _ | refine blk_drew ?_ | refine blk_alloc ?_ _)); exact BK172.out⟩, ⟨by repeat (first | (with_reducible first | exact HB.out | apply below_alloc | apply pw_below_drewN | apply below_drew1 | refine below_set ?_ GE172.out) | exact HB.out)⟩⟩
         case round =>
          clear H'
          try clear c1
          try clear p1
          try clear q1
          try clear hx1
          try clear qi1
          try clear c2
          try clear p2
          try clear c4
          try clear c5
          try clear p5
          try clear q5
          try clear hx5
          try clear hf5
          try clear c6
          try clear p6
          try clear q6
          try clear hx6
          try clear hf6
          try clear c7
          try clear p7
          try clear q7
          try clear hx7
          try clear hf7
          try clear c8
          try clear p8
          try clear q8
          try clear hx8
          try clear hf8
          try clear c9
          try clear c17
          try clear c17b0
          try clear c18
          try clear p18
          try clear q18
          try clear hx18
          try clear c19
          try clear p19
          try clear q19
          try clear hx19
          try clear qi19
          try clear c23
          try clear c23b0
          try clear c24
          try clear c25
          try clear c41
          try clear c41b0
          try clear c42
          try clear c43
          try clear c44
          try clear c47
          try clear c48
          try clear c49
          try clear c50
          try clear c50b0
          try clear p51
          try clear q51
          try clear hx51
          try clear hf51
          try clear c52
          try clear p53
          try clear q53
          try clear hx53
          try clear hf53
          try clear c54
          try clear c61
          try clear c61b0
          try clear p62
          try clear q62
          try clear hx62
          try clear hf62
          try clear c63
          try clear c63b0
          try clear p64
          try clear q64
          try clear hx64
          try clear hf64
          try clear c75
          try clear c75b0
          try clear c76
          try clear c76b0
          try clear c77
          try clear c77b0
          try clear p78
          try clear q78
          try clear hx78
          try clear hf78
          try clear c79
          try clear c79b0
          try clear p80
          try clear q80
          try clear hx80
          try clear hf80
          try clear c85
          try clear c85b0
          try clear p86
          try clear q86
          try clear hx86
          try clear hf86
          try clear c87
          try clear c87b0
          try clear p88
          try clear q88
          try clear hx88
          try clear hf88
          try clear c93
          try clear c93b0
          try clear c93b1
          try clear c94
          try clear c94b0
          try clear hx186_0
          try clear hx187_0
          try clear hx190_0
          try clear hx193_0
          try clear hx196_0
          try clear hx199_0
          try clear hx51_0
          try clear hx53_0
          try clear hx62_0
          try clear hx64_0
          try clear hx78_0
          try clear hx80_0
          try clear hx86_0
          try clear hx88_0
          try clear p186
          try clear p187
          try clear p190
          try clear p193
          try clear p196
          try clear p199
          try clear p51
          try clear p53
          try clear p62
          try clear p64
          try clear p78
          try clear p80
          try clear p86
          try clear p88
          try clear q186
          try clear q187
          try clear q190
          try clear q193
          try clear q196
          try clear q199
          try clear q51
          try clear q53
          try clear q62
          try clear q64
          try clear q78
          try clear q80
          try clear q86
          try clear q88
          obtain ⟨x14_2, x15_2, rfl, HA, HK2, HO_7, HO_8, HO_14, BK172, HB⟩ := hrel
          cases gk with
          | zero => exact absurd HA.out (by simp [impl_BestBreaking.l2])
          | succ k2 =>
           have H := HA.out
           clear HA
           simp only [impl_BestBreaking.l2] at H
           by_cases c99 : x15_2 < (l1.length : Int)
           ·rw [if_pos c99] at H
            have c99b0 : decide (x15_2 < (l1.length : Int)) = true := decide_eq_true c99
            clear c99
            by_cases c100 : 0 ≤ x15_2
            ·rw [if_pos c100] at H
             have c100b0 : decide (0 ≤ x15_2) = true := decide_eq_true c100
             clear c100
             by_cases c101 : x15_2 < (x8_1.length : Int)
             ·rw [if_pos c101] at H
              have c101b0 : decide (x15_2 < (x8_1.length : Int)) = true := decide_eq_true c101
              clear c101
              by_cases c102 : x14_2.length < 17592186044416
              ·rw [if_pos c102] at H
               have LMc102 := Aside0.mk c102
               clear c102
               obtain ⟨y204, hy204⟩ : ∃ y_ : List Int, y_ = (x14_2 ++ [rd x8_1 x15_2]) := ⟨_, rfl⟩
               replace H : (impl_BestBreaking.l2 k2 l1 x7_1 x8_1 y204 (wrap64 (x15_2 + (rd x8_1 x15_2)))) = some (r1, r2, r3) := by first | (rw [hy204]; with_reducible exact H) | (have H2_ := (Option.bind_some _ _).symm.trans H; rw [hy204]; with_reducible exact H2_) | (have H2_ := (Option.bind_some _ _).symm.trans H; with_reducible exact H2_) | with_reducible exact H | (rw [hy204]; exact H) | exact H
               have Ny204 := Aside0.mk hy204
               clear hy204
               have H' := Aside0.mk H
               clear H
               obtain ⟨Ao103, co103, eo103⟩ := Kd.R_slice HO_8.out
               subst eo103
               have p203 : 0 ≤ (x15_2 : Int) := of_decide_eq_true zp2
               have q203 : x15_2 < (x8_1.length : Int) := of_decide_eq_true zp2
               obtain ⟨ad203, e203, hx203_0⟩ := Kd.at_int (Kd.R_reads' HO_8.out).2.2 x15_2 p203 q203
               cases e203
               replace p203 := eq_true p203
               replace q203 := eq_true q203
               go_wp2_with (first | ((with_reducible refine gate_builtin (b := .append) (xs := #[.tmp 145, .tmp 150]) rfl ?_); at_builtin; refine Kd.R_append (Kd.int .i64) (w0 := w) w.heap.size rfl (.tmp 145) (.tmp 150) 24 3 (.int .i64 0) 8 rfl Try.underlying24 info3 rfl (by decide) zp74 u14 x14_2 (rd x8_1 x15_2) [.int .i64 (rd x8_1 x15_2)] (fun k_ => some k_ ≠ (.slice (some ad199) x7_1.length co96 : Value).ownBlock ∧ some k_ ≠ (.slice (some ad203) x8_1.length co103 : Value).ownBlock) (fun _ => False) rfl rfl ?aP (fun _ hk => hk.elim) ?aF ?aO ?aB ?aS ?aL ?_; (case aP => exact rfl); (case aB => exact zp10); (case aF => exact (fun k_ hk => ⟨Kd.fresh' (Kd.R_lt zp35) k_ hk, Kd.fresh' (Kd.R_lt zp29) k_ hk⟩)); (case aO => exact (by (with_reducible repeat (first | apply Kd.R_alloc | apply Kd.R_drewN | apply Kd.R_drew)); exact HO_14.out)); (case aS => exact (below_size zp10)); (case aL => have := LMc102.out; omega); intro v205 w104 ho hb hg hat; rw [← Ny204.out] at ho; have n0_ := Aside0.mk (Kd.R_after (ok := (fun k_ => some k_ ≠ (.slice (some ad203) x8_1.length co103 : Value).ownBlock)) zp35 hg hat); have n1_ := Aside0.mk (Kd.R_after (ok := (fun k_ => some k_ ≠ (.slice (some ad199) x7_1.length co96 : Value).ownBlock)) zp29 hg hat); have n2_ := Aside0.mk (blk_grown (g := gb172) (o := .cells #[.int .i64 a0_0, .int .i64 a0_1, .int .i64 a0_2] 27 (0, 0)) zp14 hg (Kd.R_ne HO_14.out BK172.out (by decide))); have n3_ := Aside0.mk (hb); have n4_ := Aside0.mk (ho); clear HO_7; clear HO_8; clear BK172; clear HB; clear HO_14; have HO_7 := n0_; have HO_8 := n1_; have BK172 := n2_; have HB := n3_; have HO206 := n4_; clear n0_ n1_ n2_ n3_ n4_; clear ho hb hg hat; have p207 : 0 ≤ (x15_2 : Int) := of_decide_eq_true zp2; have q207 : x15_2 < (x8_1.length : Int) := of_decide_eq_true zp2; obtain ⟨ad207, e207, hx207_0⟩ := Kd.at_int (Kd.R_reads' HO_8.out).2.2 x15_2 p207 q207; obtain rfl : ad203 = ad207 := (by injection e207); replace p207 := eq_true p207; replace q207 := eq_true q207))
               go_roundg k2
               case measure => have := HK1.out; have := HK2.out; omega
               case rel => exact ⟨(y204), (wrap64 (x15_2 + (rd x8_1 x15_2))), zp5, H', ⟨by have := HK1.out; have := HK2.out; omega⟩, ⟨by (with_reducible repeat (first | apply Kd.R_alloc | apply Kd.R_drewN | apply Kd.R_drew)); exact HO_7.out⟩, ⟨by (with_reducible repeat (first | apply Kd.R_alloc | apply Kd.R_drewN | apply Kd.R_drew)); exact HO_8.out⟩, ⟨by (with_reducible repeat (first | apply Kd.R_alloc | apply Kd.R_drewN | apply Kd.R_drew)); exact HO206.out⟩, ⟨by (with_reducible repeat (first | refine blk_drewN ?_ _ | refine blk_drew ?_ | refine blk_alloc ?_ _)); exact BK172.out⟩, ⟨by repeat (first | (with_reducible first | exact HB.out | apply below_alloc | apply pw_below_drewN | apply below_drew1 | refine below_set ?_ GE172.out) | exact HB.out)⟩⟩
              ·rw [if_neg c102] at H
               exact absurd H zp40
             ·rw [if_neg c101] at H
              exact absurd H zp40
            ·rw [if_neg c100] at H
             exact absurd H zp40
           ·rw [if_neg c99] at H
            have c99b0 : decide (x15_2 < (l1.length : Int)) = false := decide_eq_false c99
            clear c99
            by_cases c105 : 0 < (x7_1.length : Int)
            ·rw [if_pos c105] at H
             have c105b0 : decide (0 < (x7_1.length : Int)) = true := decide_eq_true c105
             have c105b1 : decide (0 < x7_1.length) = true := decide_eq_true zp74
             clear c105
             simp only [Option.some.injEq, Prod.mk.injEq] at H
             obtain ⟨rfl, rfl, rfl⟩ := H
             try go_wp2
             have n0_ := Aside0.mk (Kd.R_drew HO_7.out)
             have n1_ := Aside0.mk (Kd.R_drew HO_8.out)
             have n2_ := Aside0.mk (Kd.R_drew HO_14.out)
             have n3_ := Aside0.mk (blk_drew BK172.out)
             have n4_ := Aside0.mk (below_drew1 HB.out)
             clear HO_7
             clear HO_8
             clear HO_14
             clear BK172
             clear HB
             have HO_7 := n0_
             have HO_8 := n1_
             have HO_14 := n2_
             have BK172 := n3_
             have HB := n4_
             clear n0_ n1_ n2_ n3_ n4_
             have p208 : 0 ≤ (0 : Int) := zp74
             have q208 : 0 < (x7_1.length : Int) := of_decide_eq_true zp2
             obtain ⟨ad208, e208, hx208_0⟩ := Kd.at_int (Kd.R_reads' HO_7.out).2.2 0 p208 q208
             obtain rfl : ad199 = ad208 := (by injection e208)
             have qi208 : (0 < x7_1.length) = True := eq_true zp74
             (try rw [show ((0 : Int)).toNat = 0 from rfl] at hx208_0)
             (try rw [Addr.add_zero'] at hx208_0)
             replace p208 := eq_true p208
             replace q208 := eq_true q208
             refine start_ (n := 7) (S := fun w' => w'.cell? ad199 = some (.int .i64 (rd x7_1 0))) (ds := []) #[false, false, false, false, false, false, false] (by kernel_rfl) rfl rfl (hx208_0) (fun hHeld => ?_)
             generalize wr.drew = w106 at HO_7 HO_8 HO_14 BK172 HB hx208_0 hHeld ⊢
             refine pure_ (i := 0) (N := some 152) (v := ?_) (a' := ?_) #[true, false, false, false, false, false, false] rfl rfl (by kernel_rfl) (fun _ _ _ h => h) (Or.inl ⟨by rfl, ?_⟩) ?_ ?_
             rotate_left
             ·intro w'
              go_simp
              with_reducible rfl
             rotate_left
             ·simp only [Act.put, List.setIfInBounds_toArray, List.set_cons_zero, List.set_cons_succ, i64_w, i32_w]
              rfl
             refine pure_ (i := 1) (N := some 153) (v := ?_) (a' := ?_) #[true, true, false, false, false, false, false] rfl rfl (by kernel_rfl) (fun _ _ _ h => h) (Or.inl ⟨by rfl, ?_⟩) ?_ ?_
             rotate_left
             ·intro w'
              go_simp
              with_reducible rfl
             rotate_left
             ·simp only [Act.put, List.setIfInBounds_toArray, List.set_cons_zero, List.set_cons_succ, i64_w, i32_w]
              rfl
             refine pure_ (i := 2) (N := some 154) (v := ?_) (a' := ?_) #[true, true, true, false, false, false, false] rfl rfl (by kernel_rfl) (fun _ _ _ h => h) (Or.inl ⟨by rfl, ?_⟩) ?_ ?_
             rotate_left
             ·intro w'
              go_simp
              with_reducible rfl
             rotate_left
             ·simp only [Act.put, List.setIfInBounds_toArray, List.set_cons_zero, List.set_cons_succ, i64_w, i32_w]
              rfl
             refine pure_ (i := 4) (N := some 4) (v := ?_) (a' := ?_) #[true, true, true, false, true, false, false] rfl rfl (by kernel_rfl) (fun _ _ _ h => h) (Or.inl ⟨by rfl, ?_⟩) ?_ ?_
             rotate_left
             ·intro w'
              go_simp
              with_reducible rfl
             rotate_left
             ·simp only [Act.put, List.setIfInBounds_toArray, List.set_cons_zero, List.set_cons_succ, i64_w, i32_w]
              rfl
             refine take_ (i := 3) (N := some 155) (v := ?_) (a' := ?_) #[true, true, true, true, true, false, false] rfl rfl (by kernel_rfl) (fun _ _ _ h => h) (Or.inl ⟨by rfl, ?_⟩) hHeld ?_ ?_
             rotate_left
             ·intro w' s0
              go_simp
              with_reducible rfl
             rotate_left
             ·simp only [Act.put, List.setIfInBounds_toArray, List.set_cons_zero, List.set_cons_succ, i64_w, i32_w]
              rfl
             refine pure_ (i := 5) (N := some 5) (v := ?_) (a' := ?_) #[true, true, true, true, true, true, false] rfl rfl (by kernel_rfl) (fun _ _ _ h => h) (Or.inl ⟨by rfl, ?_⟩) ?_ ?_
             rotate_left
             ·intro w'
              go_simp
              with_reducible rfl
             rotate_left
             ·simp only [Act.put, List.setIfInBounds_toArray, List.set_cons_zero, List.set_cons_succ, i64_w, i32_w]
              rfl
             refine pure_ (i := 6) (N := some 6) (v := ?_) (a' := ?_) #[true, true, true, true, true, true, true] rfl rfl (by kernel_rfl) (fun _ _ _ h => h) (Or.inl ⟨by rfl, ?_⟩) ?_ ?_
             rotate_left
             ·intro w'
              go_simp
              with_reducible rfl
             rotate_left
             ·simp only [Act.put, List.setIfInBounds_toArray, List.set_cons_zero, List.set_cons_succ, i64_w, i32_w]
              rfl
             refine done_ (by kernel_rfl) ?_
             try go_wp2
             go_ret3
             exact ⟨_, by first | rfl | (simp [errW_none, errW_some] <;> rfl) | (simp only [← hji5]; first | rfl | (simp [errW_none, errW_some] <;> rfl)) | (simp [*, errW_none, errW_some] <;> rfl), by (with_reducible repeat (first | apply Kd.R_alloc | apply Kd.R_drewN | apply Kd.R_drew)); exact Kd.R_mono HO_14.out (fun _ hk => trivial), by repeat (first | (with_reducible first | exact HB.out | apply below_alloc | apply pw_below_drewN | apply below_drew1 | refine below_set ?_ GE172.out) | exact HB.out)⟩
            ·rw [if_neg c105] at H
             exact absurd H zp40
       ·rw [if_neg c93] at H
        exact absurd H zp40
   ·rw [if_neg c7] at H
    exact absurd H zp40
  ·rw [if_neg c6] at H
   exact absurd H zp40
 ·replace c4 := Bool.eq_false_iff.mpr c4
  subst c4
  have H1 : (some (([] : List Int), 0, false)) = some (r1, r2, r3) := by rw [if_neg (show ¬ (false = true) by decide)] at H; exact H
  clear H
  have H := H1
  clear H1
  simp only [Option.some.injEq, Prod.mk.injEq] at H
  obtain ⟨rfl, rfl, rfl⟩ := H
  go_enter Try.func39, Try.ntmps39
  go_wp2_with (first | ((with_reducible refine gate_dst (N := 2) rfl ?_); refine box_event ?hg (N := 2) ?hd (cs := #[.int .i64 a0_0, .int .i64 a0_1, .int .i64 a0_2]) (t := 27) ?hr ?_; (case hd => rfl); (case hg => rfl); (case hr => first | (go_simp; done) | (go_simp; rfl)); intro gb172 hg w107 hbox hb; have n0_ := Aside0.mk (below_step zp0 hb); have n1_ := Aside0.mk (hbox); have n2_ := Aside0.mk ((zp6 : w.heap.size ≤ gb172)); have n3_ := Aside0.mk ((zp6 : w.heap.size ≤ gb172)); clear HB; have HB := n0_; have BK172 := n1_; have GW172 := n2_; have GE172 := n3_; clear n0_ n1_ n2_ n3_; clear hb hbox hg; have hcz108_0 : w107.cell? ⟨gb172, 0, none⟩ = some (.int .i64 a0_0) := (blk_cell BK172.out 0).trans rfl; have hcz108_1 : w107.cell? ⟨gb172, 1, none⟩ = some (.int .i64 a0_1) := (blk_cell BK172.out 1).trans rfl; have hcz108_2 : w107.cell? ⟨gb172, 2, none⟩ = some (.int .i64 a0_2) := (blk_cell BK172.out 2).trans rfl; have hfz108_0 := blk_frozen BK172.out 0; have hfz108_1 := blk_frozen BK172.out 1; have hfz108_2 := blk_frozen BK172.out 2) | ((with_reducible refine gate_callee (f := 50) rfl ?_); refine goesL_ (some 18) rfl rfl Try.func50 (by kernel_rfl) rfl #[.agg #[.int .i64 a0_0, .int .i64 a0_1, .int .i64 a0_2], .slice A1 l1.length c1] rfl zp1 ?_; (with_reducible refine (impl_both.calls a0_0 a0_1 a0_2 _ _ l1 false _ ?side1 ?side2 A3.out).mono ?_); (case side1 => repeat (first | exact (Kd.C_below HR1.out HB.out) | (with_reducible refine Kd.C_alloc ?_ _) | (with_reducible refine Kd.C_drewN ?_ _) | (with_reducible refine Kd.C_drew ?_))); (case side2 => exact HC1.out); rintro e w109 ⟨rfl, hb⟩; refine ⟨_, rfl, ?_⟩; have n0_ := Aside0.mk (blk_below (g := gb172) (o := .cells #[.int .i64 a0_0, .int .i64 a0_1, .int .i64 a0_2] 27 (0, 0)) zp14 hb); have n1_ := Aside0.mk (below_step zp10 hb); clear BK172; clear HB; have BK172 := n0_; have HB := n1_; clear n0_ n1_; (try clear hb); (try clear hb2); (try clear hk); (try clear hi)))
  go_ret3
  exact ⟨_, by first | rfl | (simp [errW_none, errW_some] <;> rfl) | (simp [*, errW_none, errW_some] <;> rfl), by first | exact Kd.R_nil _ _ _ _ _ | exact Kd.N_nil _ _ _ _ _ | exact Kd.V_nil _ _ _ _ _ | exact Kd.Q_nil _ _ _ _ _ | exact Kd.S_nil _ _ _ _ _, by repeat (first | (with_reducible first | exact HB.out | apply below_alloc | apply pw_below_drewN | apply below_drew1 | refine below_set ?_ GE172.out) | exact HB.out)⟩
end Go.Proofs.Ytnbmlblcmjaclaa.PFnBest
