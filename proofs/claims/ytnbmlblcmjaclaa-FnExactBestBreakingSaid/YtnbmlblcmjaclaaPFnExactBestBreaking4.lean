/- Written by a program of this session with the help of the kit's print: of each Go function a Lean function, and the proof that its call comes to just what that tells. No condition beyond those that each theorem states. -/
import Derived.Test.YtnbmlblcmjaclaaPFnExactBestBreaking0
import Derived.Test.YtnbmlblcmjaclaaPFnExactBestBreaking1
import Derived.Test.YtnbmlblcmjaclaaPFnExactBestBreaking2
import Derived.Test.YtnbmlblcmjaclaaPFnExactBestBreaking3
namespace Go.Proofs.Ytnbmlblcmjaclaa.PFnExactBestBreaking
open Go.RowKit Go.Proofs.YtnbmlblcmjaclaaW.PrintWords Go.Proofs.YtnbmlblcmjaclaaW.PrintLast Go.Proofs.YtnbmlblcmjaclaaW.PrintMore
attribute [local go_sem] max2_int min2_int max_two min_two max_three min_three max_four min_four
set_option linter.unusedVariables false
set_option linter.unusedSimpArgs false
mutual
def spec_BestBreaking.j0 : Nat → List Int → Bool → Int → Int → Int → Option (List Int × Int × Bool)
 | 0, _, _, _, _, _ => none
 | k + 1, x1, x25, x151000, x151001, x151002 => if x25 = true then (some (([] : List Int), 0, false)) else ((spec_l4Ways.f k x151000 x151001 x151002 x1).bind fun t153 => (if 0 ≤ (wrap64 ((x1.length : Int) + 1)) then (if (wrap64 ((x1.length : Int) + 1) : Int).toNat ≤ 35184372088832 then (spec_BestBreaking.l0 k x1 t153 (List.replicate (wrap64 ((x1.length : Int) + 1) : Int).toNat 0) (List.replicate (wrap64 ((x1.length : Int) + 1) : Int).toNat 0) (wrap64 ((x1.length : Int) - 1)) x151000 x151001 x151002) else (none)) else (none)))
def spec_BestBreaking.l0 : Nat → List Int → List Int → List Int → List Int → Int → Int → Int → Int → Option (List Int × Int × Bool)
 | 0, _, _, _, _, _, _, _, _ => none
 | k + 1, x1, x7, x8, x9, x10, x151000, x151001, x151002 => if x10 ≥ 0 then (spec_BestBreaking.l1 k x1 x7 x8 x9 x10 1 x151000 x151001 x151002) else (spec_BestBreaking.l2 k x1 x8 x9 (([] : List Int)) 0)
def spec_BestBreaking.l1 : Nat → List Int → List Int → List Int → List Int → Int → Int → Int → Int → Int → Option (List Int × Int × Bool)
 | 0, _, _, _, _, _, _, _, _, _ => none
 | k + 1, x1, x7, x8, x9, x10, x11, x151000, x151001, x151002 => if (wrap64 (x10 + x11)) ≤ (x1.length : Int) then ((spec_l4Goes.f k x151000 x151001 x151002 x1 x10 x11).bind fun t162 => (if t162 = true then (if 0 ≤ (wrap64 (x10 + x11)) then (if (wrap64 (x10 + x11)) < (x7.length : Int) then (spec_BestBreaking.j3 k x1 x7 x8 x9 x10 x11 ((rd x7 (wrap64 (x10 + x11))) == 0) x151000 x151001 x151002) else (none)) else (none)) else (spec_BestBreaking.j3 k x1 x7 x8 x9 x10 x11 true x151000 x151001 x151002))) else (spec_BestBreaking.l0 k x1 x7 x8 x9 (wrap64 (x10 - 1)) x151000 x151001 x151002)
def spec_BestBreaking.j3 : Nat → List Int → List Int → List Int → List Int → Int → Int → Bool → Int → Int → Int → Option (List Int × Int × Bool)
 | 0, _, _, _, _, _, _, _, _, _, _ => none
 | k + 1, x1, x7, x8, x9, x10, x11, x66, x151000, x151001, x151002 => if x66 = true then (spec_BestBreaking.l1 k x1 x7 x8 x9 x10 (wrap64 (x11 + 1)) x151000 x151001 x151002) else (if 0 ≤ x10 then (if x10 ≤ (wrap64 (x10 + x11)) then (if (wrap64 (x10 + x11)) ≤ (x1.length : Int) then ((spec_l4Rise.f k x151000 x151001 x151002 ((x1.take ((wrap64 (x10 + x11)) : Int).toNat).drop (x10 : Int).toNat)).bind fun t165 => (if (wrap64 (x10 + x11)) = (x1.length : Int) then (if 0 ≤ (wrap64 (x10 + x11)) then (if (wrap64 (x10 + x11)) < (x8.length : Int) then (if x10 < (x9.length : Int) then (if (rd x9 x10) = 0 then (if x10 < (x8.length : Int) then (spec_BestBreaking.l1 k x1 x7 (x8.set (x10 : Int).toNat (wrap64 ((rd x8 (wrap64 (x10 + x11)))))) (x9.set (x10 : Int).toNat x11) x10 (wrap64 (x11 + 1)) x151000 x151001 x151002) else (none)) else (if x10 < (x8.length : Int) then (if (wrap64 ((rd x8 (wrap64 (x10 + x11))))) < (rd x8 x10) then (spec_BestBreaking.l1 k x1 x7 (x8.set (x10 : Int).toNat (wrap64 ((rd x8 (wrap64 (x10 + x11)))))) (x9.set (x10 : Int).toNat x11) x10 (wrap64 (x11 + 1)) x151000 x151001 x151002) else (spec_BestBreaking.l1 k x1 x7 x8 x9 x10 (wrap64 (x11 + 1)) x151000 x151001 x151002)) else (none))) else (none)) else (none)) else (none)) else (if 0 ≤ (wrap64 (x10 + x11)) then (if (wrap64 (x10 + x11)) < (x8.length : Int) then (if x10 < (x9.length : Int) then (if (rd x9 x10) = 0 then (if x10 < (x8.length : Int) then (spec_BestBreaking.l1 k x1 x7 (x8.set (x10 : Int).toNat (wrap64 ((wrap64 (t165 * t165)) + (rd x8 (wrap64 (x10 + x11)))))) (x9.set (x10 : Int).toNat x11) x10 (wrap64 (x11 + 1)) x151000 x151001 x151002) else (none)) else (if x10 < (x8.length : Int) then (if (wrap64 ((wrap64 (t165 * t165)) + (rd x8 (wrap64 (x10 + x11))))) < (rd x8 x10) then (spec_BestBreaking.l1 k x1 x7 (x8.set (x10 : Int).toNat (wrap64 ((wrap64 (t165 * t165)) + (rd x8 (wrap64 (x10 + x11)))))) (x9.set (x10 : Int).toNat x11) x10 (wrap64 (x11 + 1)) x151000 x151001 x151002) else (spec_BestBreaking.l1 k x1 x7 x8 x9 x10 (wrap64 (x11 + 1)) x151000 x151001 x151002)) else (none))) else (none)) else (none)) else (none)))) else (none)) else (none)) else (none))
def spec_BestBreaking.l2 : Nat → List Int → List Int → List Int → List Int → Int → Option (List Int × Int × Bool)
 | 0, _, _, _, _, _ => none
 | k + 1, x1, x8, x9, x14, x15 => if x15 < (x1.length : Int) then (if 0 ≤ x15 then (if x15 < (x9.length : Int) then (if x14.length < 17592186044416 then (spec_BestBreaking.l2 k x1 x8 x9 (x14 ++ [rd x9 x15]) (wrap64 (x15 + (rd x9 x15)))) else (none)) else (none)) else (none)) else (if 0 < (x8.length : Int) then (some (x14, rd x8 0, true)) else (none))
end
def spec_BestBreaking.f (k : Nat) (a0_0 : Int) (a0_1 : Int) (a0_2 : Int) (l1 : List Int) : Option (List Int × Int × Bool) := (spec_l4Ok.f k a0_0 a0_1 a0_2 l1).bind fun t151 => (if t151 = true then ((spec_CountBreakings.f k a0_0 a0_1 a0_2 l1).bind fun t152 => (spec_BestBreaking.j0 k l1 (t152 == 0) a0_0 a0_1 a0_2)) else (spec_BestBreaking.j0 k l1 true a0_0 a0_1 a0_2))
theorem spec_BestBreaking.mono_l : ∀ k, (∀ y0 y1 y2 y3 y4, LeO (spec_BestBreaking.j0 k y0 y1 y2 y3 y4) (spec_BestBreaking.j0 (k + 1) y0 y1 y2 y3 y4)) ∧ (∀ y0 y1 y2 y3 y4 y5 y6 y7, LeO (spec_BestBreaking.l0 k y0 y1 y2 y3 y4 y5 y6 y7) (spec_BestBreaking.l0 (k + 1) y0 y1 y2 y3 y4 y5 y6 y7)) ∧ (∀ y0 y1 y2 y3 y4 y5 y6 y7 y8, LeO (spec_BestBreaking.l1 k y0 y1 y2 y3 y4 y5 y6 y7 y8) (spec_BestBreaking.l1 (k + 1) y0 y1 y2 y3 y4 y5 y6 y7 y8)) ∧ (∀ y0 y1 y2 y3 y4 y5 y6 y7 y8 y9, LeO (spec_BestBreaking.j3 k y0 y1 y2 y3 y4 y5 y6 y7 y8 y9) (spec_BestBreaking.j3 (k + 1) y0 y1 y2 y3 y4 y5 y6 y7 y8 y9)) ∧ (∀ y0 y1 y2 y3 y4, LeO (spec_BestBreaking.l2 k y0 y1 y2 y3 y4) (spec_BestBreaking.l2 (k + 1) y0 y1 y2 y3 y4))
 | 0 => ⟨fun _ _ _ _ _ r h => by simp [spec_BestBreaking.j0] at h, fun _ _ _ _ _ _ _ _ r h => by simp [spec_BestBreaking.l0] at h, fun _ _ _ _ _ _ _ _ _ r h => by simp [spec_BestBreaking.l1] at h, fun _ _ _ _ _ _ _ _ _ _ r h => by simp [spec_BestBreaking.j3] at h, fun _ _ _ _ _ r h => by simp [spec_BestBreaking.l2] at h⟩
 | k + 1 => by
  obtain ⟨ih0, ih1, ih2, ih3, ih4⟩ := spec_BestBreaking.mono_l k
  refine ⟨?_, ?_, ?_, ?_, ?_⟩
  ·intro y0 y1 y2 y3 y4
   unfold spec_BestBreaking.j0
   repeat' first
   | (with_reducible exact ih0 _ _ _ _ _)
   | (with_reducible exact ih1 _ _ _ _ _ _ _ _)
   | (with_reducible exact ih2 _ _ _ _ _ _ _ _ _)
   | (with_reducible exact ih3 _ _ _ _ _ _ _ _ _ _)
   | (with_reducible exact ih4 _ _ _ _ _)
   | (with_reducible exact spec_CountBreakings.mono _ _ _ _ _)
   | (with_reducible exact spec_l4Goes.mono _ _ _ _ _ _ _)
   | (with_reducible exact spec_l4Ok.mono _ _ _ _ _)
   | (with_reducible exact spec_l4Rise.mono _ _ _ _ _)
   | (with_reducible exact spec_l4Ways.mono _ _ _ _ _)
   | (with_reducible exact LeO.refl _)
   | (with_reducible exact LeO.none _)
   | (with_reducible refine LeO.ite ?_ ?_)
   | (with_reducible refine LeO.bind ?_ (fun _ => ?_))
   | exact ih0 _ _ _ _ _
   | exact ih1 _ _ _ _ _ _ _ _
   | exact ih2 _ _ _ _ _ _ _ _ _
   | exact ih3 _ _ _ _ _ _ _ _ _ _
   | exact ih4 _ _ _ _ _
   | exact spec_CountBreakings.mono _ _ _ _ _
   | exact spec_l4Goes.mono _ _ _ _ _ _ _
   | exact spec_l4Ok.mono _ _ _ _ _
   | exact spec_l4Rise.mono _ _ _ _ _
   | exact spec_l4Ways.mono _ _ _ _ _
   | exact LeO.none _
   | refine LeO.ite ?_ ?_
   | refine LeO.bind ?_ (fun _ => ?_)
  ·intro y0 y1 y2 y3 y4 y5 y6 y7
   unfold spec_BestBreaking.l0
   repeat' first
   | (with_reducible exact ih0 _ _ _ _ _)
   | (with_reducible exact ih1 _ _ _ _ _ _ _ _)
   | (with_reducible exact ih2 _ _ _ _ _ _ _ _ _)
   | (with_reducible exact ih3 _ _ _ _ _ _ _ _ _ _)
   | (with_reducible exact ih4 _ _ _ _ _)
   | (with_reducible exact spec_CountBreakings.mono _ _ _ _ _)
   | (with_reducible exact spec_l4Goes.mono _ _ _ _ _ _ _)
   | (with_reducible exact spec_l4Ok.mono _ _ _ _ _)
   | (with_reducible exact spec_l4Rise.mono _ _ _ _ _)
   | (with_reducible exact spec_l4Ways.mono _ _ _ _ _)
   | (with_reducible exact LeO.refl _)
   | (with_reducible exact LeO.none _)
   | (with_reducible refine LeO.ite ?_ ?_)
   | (with_reducible refine LeO.bind ?_ (fun _ => ?_))
   | exact ih0 _ _ _ _ _
   | exact ih1 _ _ _ _ _ _ _ _
   | exact ih2 _ _ _ _ _ _ _ _ _
   | exact ih3 _ _ _ _ _ _ _ _ _ _
   | exact ih4 _ _ _ _ _
   | exact spec_CountBreakings.mono _ _ _ _ _
   | exact spec_l4Goes.mono _ _ _ _ _ _ _
   | exact spec_l4Ok.mono _ _ _ _ _
   | exact spec_l4Rise.mono _ _ _ _ _
   | exact spec_l4Ways.mono _ _ _ _ _
   | exact LeO.none _
   | refine LeO.ite ?_ ?_
   | refine LeO.bind ?_ (fun _ => ?_)
  ·intro y0 y1 y2 y3 y4 y5 y6 y7 y8
   unfold spec_BestBreaking.l1
   repeat' first
   | (with_reducible exact ih0 _ _ _ _ _)
   | (with_reducible exact ih1 _ _ _ _ _ _ _ _)
   | (with_reducible exact ih2 _ _ _ _ _ _ _ _ _)
   | (with_reducible exact ih3 _ _ _ _ _ _ _ _ _ _)
   | (with_reducible exact ih4 _ _ _ _ _)
   | (with_reducible exact spec_CountBreakings.mono _ _ _ _ _)
   | (with_reducible exact spec_l4Goes.mono _ _ _ _ _ _ _)
   | (with_reducible exact spec_l4Ok.mono _ _ _ _ _)
   | (with_reducible exact spec_l4Rise.mono _ _ _ _ _)
   | (with_reducible exact spec_l4Ways.mono _ _ _ _ _)
   | (with_reducible exact LeO.refl _)
   | (with_reducible exact LeO.none _)
   | (with_reducible refine LeO.ite ?_ ?_)
   | (with_reducible refine LeO.bind ?_ (fun _ => ?_))
   | exact ih0 _ _ _ _ _
   | exact ih1 _ _ _ _ _ _ _ _
   | exact ih2 _ _ _ _ _ _ _ _ _
   | exact ih3 _ _ _ _ _ _ _ _ _ _
   | exact ih4 _ _ _ _ _
   | exact spec_CountBreakings.mono _ _ _ _ _
   | exact spec_l4Goes.mono _ _ _ _ _ _ _
   | exact spec_l4Ok.mono _ _ _ _ _
   | exact spec_l4Rise.mono _ _ _ _ _
   | exact spec_l4Ways.mono _ _ _ _ _
   | exact LeO.none _
   | refine LeO.ite ?_ ?_
   | refine LeO.bind ?_ (fun _ => ?_)
  ·intro y0 y1 y2 y3 y4 y5 y6 y7 y8 y9
   unfold spec_BestBreaking.j3
   repeat' first
   | (with_reducible exact ih0 _ _ _ _ _)
   | (with_reducible exact ih1 _ _ _ _ _ _ _ _)
   | (with_reducible exact ih2 _ _ _ _ _ _ _ _ _)
   | (with_reducible exact ih3 _ _ _ _ _ _ _ _ _ _)
   | (with_reducible exact ih4 _ _ _ _ _)
   | (with_reducible exact spec_CountBreakings.mono _ _ _ _ _)
   | (with_reducible exact spec_l4Goes.mono _ _ _ _ _ _ _)
   | (with_reducible exact spec_l4Ok.mono _ _ _ _ _)
   | (with_reducible exact spec_l4Rise.mono _ _ _ _ _)
   | (with_reducible exact spec_l4Ways.mono _ _ _ _ _)
   | (with_reducible exact LeO.refl _)
   | (with_reducible exact LeO.none _)
   | (with_reducible refine LeO.ite ?_ ?_)
   | (with_reducible refine LeO.bind ?_ (fun _ => ?_))
   | exact ih0 _ _ _ _ _
   | exact ih1 _ _ _ _ _ _ _ _
   | exact ih2 _ _ _ _ _ _ _ _ _
   | exact ih3 _ _ _ _ _ _ _ _ _ _
   | exact ih4 _ _ _ _ _
   | exact spec_CountBreakings.mono _ _ _ _ _
   | exact spec_l4Goes.mono _ _ _ _ _ _ _
   | exact spec_l4Ok.mono _ _ _ _ _
   | exact spec_l4Rise.mono _ _ _ _ _
   | exact spec_l4Ways.mono _ _ _ _ _
   | exact LeO.none _
   | refine LeO.ite ?_ ?_
   | refine LeO.bind ?_ (fun _ => ?_)
  ·intro y0 y1 y2 y3 y4
   unfold spec_BestBreaking.l2
   repeat' first
   | (with_reducible exact ih0 _ _ _ _ _)
   | (with_reducible exact ih1 _ _ _ _ _ _ _ _)
   | (with_reducible exact ih2 _ _ _ _ _ _ _ _ _)
   | (with_reducible exact ih3 _ _ _ _ _ _ _ _ _ _)
   | (with_reducible exact ih4 _ _ _ _ _)
   | (with_reducible exact spec_CountBreakings.mono _ _ _ _ _)
   | (with_reducible exact spec_l4Goes.mono _ _ _ _ _ _ _)
   | (with_reducible exact spec_l4Ok.mono _ _ _ _ _)
   | (with_reducible exact spec_l4Rise.mono _ _ _ _ _)
   | (with_reducible exact spec_l4Ways.mono _ _ _ _ _)
   | (with_reducible exact LeO.refl _)
   | (with_reducible exact LeO.none _)
   | (with_reducible refine LeO.ite ?_ ?_)
   | (with_reducible refine LeO.bind ?_ (fun _ => ?_))
   | exact ih0 _ _ _ _ _
   | exact ih1 _ _ _ _ _ _ _ _
   | exact ih2 _ _ _ _ _ _ _ _ _
   | exact ih3 _ _ _ _ _ _ _ _ _ _
   | exact ih4 _ _ _ _ _
   | exact spec_CountBreakings.mono _ _ _ _ _
   | exact spec_l4Goes.mono _ _ _ _ _ _ _
   | exact spec_l4Ok.mono _ _ _ _ _
   | exact spec_l4Rise.mono _ _ _ _ _
   | exact spec_l4Ways.mono _ _ _ _ _
   | exact LeO.none _
   | refine LeO.ite ?_ ?_
   | refine LeO.bind ?_ (fun _ => ?_)
theorem spec_BestBreaking.mono : ∀ a0 a1 a2 a3 k, LeO (spec_BestBreaking.f k a0 a1 a2 a3) (spec_BestBreaking.f (k + 1) a0 a1 a2 a3) := by
 intro a0 a1 a2 a3 k
 obtain ⟨ih0, ih1, ih2, ih3, ih4⟩ := spec_BestBreaking.mono_l k
 unfold spec_BestBreaking.f
 repeat' first
  | (with_reducible exact ih0 _ _ _ _ _)
  | (with_reducible exact ih1 _ _ _ _ _ _ _ _)
  | (with_reducible exact ih2 _ _ _ _ _ _ _ _ _)
  | (with_reducible exact ih3 _ _ _ _ _ _ _ _ _ _)
  | (with_reducible exact ih4 _ _ _ _ _)
  | (with_reducible exact spec_CountBreakings.mono _ _ _ _ _)
  | (with_reducible exact spec_l4Goes.mono _ _ _ _ _ _ _)
  | (with_reducible exact spec_l4Ok.mono _ _ _ _ _)
  | (with_reducible exact spec_l4Rise.mono _ _ _ _ _)
  | (with_reducible exact spec_l4Ways.mono _ _ _ _ _)
  | (with_reducible exact LeO.refl _)
  | (with_reducible exact LeO.none _)
  | (with_reducible refine LeO.ite ?_ ?_)
  | (with_reducible refine LeO.bind ?_ (fun _ => ?_))
  | exact ih0 _ _ _ _ _
  | exact ih1 _ _ _ _ _ _ _ _
  | exact ih2 _ _ _ _ _ _ _ _ _
  | exact ih3 _ _ _ _ _ _ _ _ _ _
  | exact ih4 _ _ _ _ _
  | exact spec_CountBreakings.mono _ _ _ _ _
  | exact spec_l4Goes.mono _ _ _ _ _ _ _
  | exact spec_l4Ok.mono _ _ _ _ _
  | exact spec_l4Rise.mono _ _ _ _ _
  | exact spec_l4Ways.mono _ _ _ _ _
  | exact LeO.none _
  | refine LeO.ite ?_ ?_
  | refine LeO.bind ?_ (fun _ => ?_)
def spec_BestBreaking.T13 : Bool × List (List Nat × List Nat) := (true, [([], []), ([], []), ([], []), ([], []), ([], []), ([3, 4], [3, 4]), ([1, 2, 5], [1, 2, 5]), ([0, 6], [0, 6]), ([7, 7, 0, 1, 2, 3, 4, 5, 6, 7], [7])])
def spec_BestBreaking.B13 : List Nat := [0, 0, 0, 0, 0, 24, 62, 127, 255]
theorem spec_BestBreaking.tab13 : rtab .any (opsOf Try.f38 13) = spec_BestBreaking.T13 := by kernel_rfl
theorem spec_BestBreaking.bits13 : waitsOk spec_BestBreaking.T13.2 spec_BestBreaking.B13 = true := by kernel_rfl
set_option maxHeartbeats 8000000 in
set_option maxRecDepth 100000 in
theorem spec_BestBreaking.calls (k : Nat) (a0_0 : Int) (a0_1 : Int) (a0_2 : Int) (A1 : Option Addr) (c1 : Nat) (l1 : List Int) (r1 : List Int) (r2 : Int) (r3 : Bool) (w : World) (hr1 : Kd.C (Kd.int .i64) w A1 l1.length l1) (hc1 : l1.length ≤ c1) (h : spec_BestBreaking.f k a0_0 a0_1 a0_2 l1 = some (r1, r2, r3)) :
 Calls Try.prog 38 #[.agg #[.int .i64 a0_0, .int .i64 a0_1, .int .i64 a0_2], .slice A1 l1.length c1] w fun e w' => ∃ v0_ : Value, e = .returned (.tuple #[v0_, .int .i64 r2, .bool r3]) ∧ Kd.R (Kd.int .i64) 3 w' w.heap.size (fun _ => True) v0_ r1 ∧ Below w.heap.size w w' := by
 have hu27 := Try.underlying27
 have HR1 := Aside0.mk hr1
 have HC1 := Aside0.mk hc1
 clear hr1 hc1
 have HB := Aside0.mk (Below.refl w.heap.size w)
 have H : ((spec_l4Ok.f k a0_0 a0_1 a0_2 l1).bind fun t151 => (if t151 = true then ((spec_CountBreakings.f k a0_0 a0_1 a0_2 l1).bind fun t152 => (spec_BestBreaking.j0 k l1 (t152 == 0) a0_0 a0_1 a0_2)) else (spec_BestBreaking.j0 k l1 true a0_0 a0_1 a0_2))) = some (r1, r2, r3) := h
 clear h
 have HC3 := Aside0.mk H
 clear H
 go_enter Try.func38, Try.ntmps38
 go_upto_region 1 with (first | ((with_reducible refine gate_dst (N := 2) rfl ?_); refine box_event ?hg (N := 2) ?hd (cs := #[.int .i64 a0_0, .int .i64 a0_1, .int .i64 a0_2]) (t := 27) ?hr ?_; (case hd => rfl); (case hg => rfl); (case hr => first | (go_simp; done) | (go_simp; rfl)); intro gb150 hg w4 hbox hb; have n0_ := Aside0.mk (below_step zp0 hb); have n1_ := Aside0.mk (hbox); have n2_ := Aside0.mk ((zp4 : w.heap.size ≤ gb150)); have n3_ := Aside0.mk ((zp4 : w.heap.size ≤ gb150)); clear HB; have HB := n0_; have BK150 := n1_; have GW150 := n2_; have GE150 := n3_; clear n0_ n1_ n2_ n3_; clear hb hbox hg))
 (try simp only [Act.put, List.setIfInBounds_toArray, List.set_cons_zero, List.set_cons_succ])
 go_cut [25] (fun v25 wc => ∃ (kq : Nat) (x25_2 : Bool), v25 = .bool x25_2 ∧ Aside0 (spec_BestBreaking.j0 kq l1 x25_2 a0_0 a0_1 a0_2 = some (r1, r2, r3)) ∧ Aside0 (kq ≤ k) ∧ Aside0 (wc.heap[gb150]? = some (.cells #[.int .i64 a0_0, .int .i64 a0_1, .int .i64 a0_2] 27 (0, 0))) ∧ Aside0 (Below w.heap.size w wc))
 case first =>
  have H := HC3.out
  clear HC3
  replace H := Option.bind_eq_some_iff.mp H
  obtain ⟨t151, A50, H⟩ := H
  replace H : (if t151 = true then ((spec_CountBreakings.f k a0_0 a0_1 a0_2 l1).bind fun t152 => (spec_BestBreaking.j0 k l1 (t152 == 0) a0_0 a0_1 a0_2)) else (spec_BestBreaking.j0 k l1 true a0_0 a0_1 a0_2)) = some (r1, r2, r3) := H
  have A5 := Aside0.mk A50
  clear A50
  by_cases c6 : t151 = true
  ·subst c6
   have H1 : ((spec_CountBreakings.f k a0_0 a0_1 a0_2 l1).bind fun t152 => (spec_BestBreaking.j0 k l1 (t152 == 0) a0_0 a0_1 a0_2)) = some (r1, r2, r3) := by rw [if_pos rfl] at H; exact H
   clear H
   have H := H1
   clear H1
   replace H := Option.bind_eq_some_iff.mp H
   obtain ⟨t152, A70, H⟩ := H
   replace H : (spec_BestBreaking.j0 k l1 (t152 == 0) a0_0 a0_1 a0_2) = some (r1, r2, r3) := H
   have A7 := Aside0.mk A70
   clear A70
   have H' := Aside0.mk H
   clear H
   have hcz8_0 : w4.cell? ⟨gb150, 0, none⟩ = some (.int .i64 a0_0) := (blk_cell BK150.out 0).trans rfl
   have hcz8_1 : w4.cell? ⟨gb150, 1, none⟩ = some (.int .i64 a0_1) := (blk_cell BK150.out 1).trans rfl
   have hcz8_2 : w4.cell? ⟨gb150, 2, none⟩ = some (.int .i64 a0_2) := (blk_cell BK150.out 2).trans rfl
   have hfz8_0 := blk_frozen BK150.out 0
   have hfz8_1 := blk_frozen BK150.out 1
   have hfz8_2 := blk_frozen BK150.out 2
   go_wp2_with (first | ((with_reducible refine gate_callee (f := 48) rfl ?_); refine goesL_ (some 18) rfl rfl Try.func48 (by kernel_rfl) rfl #[.agg #[.int .i64 a0_0, .int .i64 a0_1, .int .i64 a0_2], .slice A1 l1.length c1] rfl zp2 ?_; (with_reducible refine (spec_l4Ok.calls k a0_0 a0_1 a0_2 _ _ l1 true _ ?side1 ?side2 A5.out).mono ?_); (case side1 => repeat (first | exact (Kd.C_below HR1.out HB.out) | (with_reducible refine Kd.C_alloc ?_ _) | (with_reducible refine Kd.C_drewN ?_ _) | (with_reducible refine Kd.C_drew ?_))); (case side2 => exact HC1.out); rintro e w9 ⟨rfl, hb⟩; refine ⟨_, rfl, ?_⟩; have n0_ := Aside0.mk (blk_below (g := gb150) (o := .cells #[.int .i64 a0_0, .int .i64 a0_1, .int .i64 a0_2] 27 (0, 0)) zp9 hb); have n1_ := Aside0.mk (below_step zp3 hb); clear BK150; clear HB; have BK150 := n0_; have HB := n1_; clear n0_ n1_; (try clear hb); (try clear hb2); (try clear hk); (try clear hi); have hcz10_0 : w9.cell? ⟨gb150, 0, none⟩ = some (.int .i64 a0_0) := (blk_cell BK150.out 0).trans rfl; have hcz10_1 : w9.cell? ⟨gb150, 1, none⟩ = some (.int .i64 a0_1) := (blk_cell BK150.out 1).trans rfl; have hcz10_2 : w9.cell? ⟨gb150, 2, none⟩ = some (.int .i64 a0_2) := (blk_cell BK150.out 2).trans rfl; have hfz10_0 := blk_frozen BK150.out 0; have hfz10_1 := blk_frozen BK150.out 1; have hfz10_2 := blk_frozen BK150.out 2) | (go_at_call 43; (with_reducible refine (spec_CountBreakings.calls k a0_0 a0_1 a0_2 _ _ l1 t152 _ ?side1 ?side2 A7.out).mono ?_); (case side1 => repeat (first | exact (Kd.C_below HR1.out HB.out) | (with_reducible refine Kd.C_alloc ?_ _) | (with_reducible refine Kd.C_drewN ?_ _) | (with_reducible refine Kd.C_drew ?_))); (case side2 => exact HC1.out); rintro e w11 ⟨rfl, hb⟩; have n0_ := Aside0.mk (blk_below (g := gb150) (o := .cells #[.int .i64 a0_0, .int .i64 a0_1, .int .i64 a0_2] 27 (0, 0)) zp9 hb); have n1_ := Aside0.mk (below_step zp3 hb); clear BK150; clear HB; have BK150 := n0_; have HB := n1_; clear n0_ n1_; (try clear hb); (try clear hb2); (try clear hk); (try clear hi)))
   go_meet
   case rel => exact ⟨_, ((t152 == 0)), zp6, H', ⟨by first | omega | exact Nat.le_refl _⟩, ⟨by (with_reducible repeat (first | refine blk_drewN ?_ _ | refine blk_drew ?_ | refine blk_alloc ?_ _)); exact BK150.out⟩, ⟨by repeat (first | (with_reducible first | exact HB.out | apply below_alloc | apply pw_below_drewN | apply below_drew1 | refine below_set ?_ GE150.out) | exact HB.out)⟩⟩
  ·replace c6 := Bool.eq_false_iff.mpr c6
   subst c6
   have H1 : (spec_BestBreaking.j0 k l1 true a0_0 a0_1 a0_2) = some (r1, r2, r3) := by rw [if_neg (show ¬ (false = true) by decide)] at H; exact H
   clear H
   have H := H1
   clear H1
   have H' := Aside0.mk H
   clear H
   have hcz12_0 : w4.cell? ⟨gb150, 0, none⟩ = some (.int .i64 a0_0) := (blk_cell BK150.out 0).trans rfl
   have hcz12_1 : w4.cell? ⟨gb150, 1, none⟩ = some (.int .i64 a0_1) := (blk_cell BK150.out 1).trans rfl
   have hcz12_2 : w4.cell? ⟨gb150, 2, none⟩ = some (.int .i64 a0_2) := (blk_cell BK150.out 2).trans rfl
   have hfz12_0 := blk_frozen BK150.out 0
   have hfz12_1 := blk_frozen BK150.out 1
   have hfz12_2 := blk_frozen BK150.out 2
   go_wp2_with (first | ((with_reducible refine gate_callee (f := 48) rfl ?_); refine goesL_ (some 18) rfl rfl Try.func48 (by kernel_rfl) rfl #[.agg #[.int .i64 a0_0, .int .i64 a0_1, .int .i64 a0_2], .slice A1 l1.length c1] rfl zp2 ?_; (with_reducible refine (spec_l4Ok.calls k a0_0 a0_1 a0_2 _ _ l1 false _ ?side1 ?side2 A5.out).mono ?_); (case side1 => repeat (first | exact (Kd.C_below HR1.out HB.out) | (with_reducible refine Kd.C_alloc ?_ _) | (with_reducible refine Kd.C_drewN ?_ _) | (with_reducible refine Kd.C_drew ?_))); (case side2 => exact HC1.out); rintro e w13 ⟨rfl, hb⟩; refine ⟨_, rfl, ?_⟩; have n0_ := Aside0.mk (blk_below (g := gb150) (o := .cells #[.int .i64 a0_0, .int .i64 a0_1, .int .i64 a0_2] 27 (0, 0)) zp9 hb); have n1_ := Aside0.mk (below_step zp3 hb); clear BK150; clear HB; have BK150 := n0_; have HB := n1_; clear n0_ n1_; (try clear hb); (try clear hb2); (try clear hk); (try clear hi)))
   go_meet
   case rel => exact ⟨_, (true), zp6, H', ⟨by first | omega | exact Nat.le_refl _⟩, ⟨by (with_reducible repeat (first | refine blk_drewN ?_ _ | refine blk_drew ?_ | refine blk_alloc ?_ _)); exact BK150.out⟩, ⟨by repeat (first | (with_reducible first | exact HB.out | apply below_alloc | apply pw_below_drewN | apply below_drew1 | refine below_set ?_ GE150.out) | exact HB.out)⟩⟩
 case rest =>
  clear HC3
  try clear c1
  try clear p2
  try clear c3
  try clear c4
  try clear c6
  try clear hcz10_0
  try clear hcz10_1
  try clear hcz10_2
  try clear hcz12_0
  try clear hcz12_1
  try clear hcz12_2
  try clear hcz8_0
  try clear hcz8_1
  try clear hcz8_2
  try clear hfz10_0
  try clear hfz10_1
  try clear hfz10_2
  try clear hfz12_0
  try clear hfz12_1
  try clear hfz12_2
  try clear hfz8_0
  try clear hfz8_1
  try clear hfz8_2
  obtain ⟨kq, x25_2, rfl, HA, HJ2, BK150, HB⟩ := hcut
  cases kq with
  | zero => exact absurd HA.out (by simp [spec_BestBreaking.j0])
  | succ kj2 =>
   have H := HA.out
   clear HA
   simp only [spec_BestBreaking.j0] at H
   by_cases c14 : x25_2 = true
   ·subst c14
    have H1 : (some (([] : List Int), 0, false)) = some (r1, r2, r3) := by rw [if_pos rfl] at H; exact H
    clear H
    have H := H1
    clear H1
    simp only [Option.some.injEq, Prod.mk.injEq] at H
    obtain ⟨rfl, rfl, rfl⟩ := H
    go_wp2
    go_ret3
    exact ⟨_, by first | rfl | (simp [errW_none, errW_some] <;> rfl) | (simp [*, errW_none, errW_some] <;> rfl), by first | exact Kd.R_nil _ _ _ _ _ | exact Kd.N_nil _ _ _ _ _ | exact Kd.V_nil _ _ _ _ _ | exact Kd.Q_nil _ _ _ _ _ | exact Kd.S_nil _ _ _ _ _, by repeat (first | (with_reducible first | exact HB.out | apply below_alloc | apply pw_below_drewN | apply below_drew1 | refine below_set ?_ GE150.out) | exact HB.out)⟩
   ·replace c14 := Bool.eq_false_iff.mpr c14
    subst c14
    have H1 : ((spec_l4Ways.f kj2 a0_0 a0_1 a0_2 l1).bind fun t153 => (if 0 ≤ (wrap64 ((l1.length : Int) + 1)) then (if (wrap64 ((l1.length : Int) + 1) : Int).toNat ≤ 35184372088832 then (spec_BestBreaking.l0 kj2 l1 t153 (List.replicate (wrap64 ((l1.length : Int) + 1) : Int).toNat 0) (List.replicate (wrap64 ((l1.length : Int) + 1) : Int).toNat 0) (wrap64 ((l1.length : Int) - 1)) a0_0 a0_1 a0_2) else (none)) else (none))) = some (r1, r2, r3) := by rw [if_neg (show ¬ (false = true) by decide)] at H; exact H
    clear H
    have H := H1
    clear H1
    replace H := Option.bind_eq_some_iff.mp H
    obtain ⟨t153, A150, H⟩ := H
    replace H : (if 0 ≤ (wrap64 ((l1.length : Int) + 1)) then (if (wrap64 ((l1.length : Int) + 1) : Int).toNat ≤ 35184372088832 then (spec_BestBreaking.l0 kj2 l1 t153 (List.replicate (wrap64 ((l1.length : Int) + 1) : Int).toNat 0) (List.replicate (wrap64 ((l1.length : Int) + 1) : Int).toNat 0) (wrap64 ((l1.length : Int) - 1)) a0_0 a0_1 a0_2) else (none)) else (none)) = some (r1, r2, r3) := H
    have A15 := Aside0.mk A150
    clear A150
    obtain ⟨ji16, hji16⟩ : ∃ j_ : Int, (wrap64 ((l1.length : Int) + 1)) = j_ := ⟨_, rfl⟩
    replace H : (if 0 ≤ (ji16) then (if (ji16 : Int).toNat ≤ 35184372088832 then (spec_BestBreaking.l0 kj2 l1 t153 (List.replicate (ji16 : Int).toNat 0) (List.replicate (ji16 : Int).toNat 0) (wrap64 ((l1.length : Int) - 1)) a0_0 a0_1 a0_2) else (none)) else (none)) = some (r1, r2, r3) := by first | (rw [hji16] at H; exact H) | (simp only [hji16] at H ⊢; exact H)
    (try rw [hji16] at A15)
    have hji16w : (IntKind.i64.wrap ((l1.length : Int) + 1)) = ji16 := (i64_w _).trans hji16
    by_cases c17 : 0 ≤ (ji16)
    ·rw [if_pos c17] at H
     have c17b0 := eq_true c17
     have c17b1 : decide (0 ≤ (ji16)) = true := decide_eq_true c17
     clear c17
     by_cases c18 : (ji16 : Int).toNat ≤ 35184372088832
     ·rw [if_pos c18] at H
      have c18b0 := eq_true c18
      have c18b1 : decide ((ji16 : Int).toNat ≤ 35184372088832) = true := decide_eq_true c18
      clear c18
      obtain ⟨y156, hy156⟩ : ∃ y_ : List Int, y_ = (List.replicate (ji16 : Int).toNat 0) := ⟨_, rfl⟩
      replace H : (spec_BestBreaking.l0 kj2 l1 t153 y156 (List.replicate (ji16 : Int).toNat 0) (wrap64 ((l1.length : Int) - 1)) a0_0 a0_1 a0_2) = some (r1, r2, r3) := by first | (rw [hy156]; with_reducible exact H) | (have H2_ := (Option.bind_some _ _).symm.trans H; rw [hy156]; with_reducible exact H2_) | (have H2_ := (Option.bind_some _ _).symm.trans H; with_reducible exact H2_) | with_reducible exact H | (rw [hy156]; exact H) | exact H
      have Ny156 := Aside0.mk hy156
      clear hy156
      obtain ⟨y159, hy159⟩ : ∃ y_ : List Int, y_ = (List.replicate (ji16 : Int).toNat 0) := ⟨_, rfl⟩
      replace H : (spec_BestBreaking.l0 kj2 l1 t153 y156 y159 (wrap64 ((l1.length : Int) - 1)) a0_0 a0_1 a0_2) = some (r1, r2, r3) := by first | (rw [hy159]; with_reducible exact H) | (have H2_ := (Option.bind_some _ _).symm.trans H; rw [hy159]; with_reducible exact H2_) | (have H2_ := (Option.bind_some _ _).symm.trans H; with_reducible exact H2_) | with_reducible exact H | (rw [hy159]; exact H) | exact H
      have Ny159 := Aside0.mk hy159
      clear hy159
      have H' := Aside0.mk H
      clear H
      have hcz19_0 : wc.cell? ⟨gb150, 0, none⟩ = some (.int .i64 a0_0) := (blk_cell BK150.out 0).trans rfl
      have hcz19_1 : wc.cell? ⟨gb150, 1, none⟩ = some (.int .i64 a0_1) := (blk_cell BK150.out 1).trans rfl
      have hcz19_2 : wc.cell? ⟨gb150, 2, none⟩ = some (.int .i64 a0_2) := (blk_cell BK150.out 2).trans rfl
      have hfz19_0 := blk_frozen BK150.out 0
      have hfz19_1 := blk_frozen BK150.out 1
      have hfz19_2 := blk_frozen BK150.out 2
      go_wp2_with (first | ((with_reducible refine gate_callee (f := 60) rfl ?_); refine goesL_ (some 28) rfl rfl Try.func60 (by kernel_rfl) rfl #[.agg #[.int .i64 a0_0, .int .i64 a0_1, .int .i64 a0_2], .slice A1 l1.length c1] rfl zp2 ?_; (with_reducible refine (spec_l4Ways.calls kj2 a0_0 a0_1 a0_2 _ _ l1 t153 _ ?side1 ?side2 A15.out).mono ?_); (case side1 => repeat (first | exact (Kd.C_below HR1.out HB.out) | (with_reducible refine Kd.C_alloc ?_ _) | (with_reducible refine Kd.C_drewN ?_ _) | (with_reducible refine Kd.C_drew ?_))); (case side2 => exact HC1.out); rintro e w20 ⟨v154, rfl, ho0, hb⟩; refine ⟨_, rfl, ?_⟩; have n0_ := Aside0.mk (Kd.R_lower ho0 (below_size zp3)); have n1_ := Aside0.mk (blk_below (g := gb150) (o := .cells #[.int .i64 a0_0, .int .i64 a0_1, .int .i64 a0_2] 27 (0, 0)) zp9 hb); have n2_ := Aside0.mk (below_step zp3 hb); clear BK150; clear HB; have HO155 := n0_; have BK150 := n1_; have HB := n2_; clear n0_ n1_ n2_; (try clear hb); (try clear hb2); (try clear hk); (try clear hi); (try clear ho0)) | ((with_reducible refine gate_dst (N := 32) rfl ?_); refine Kd.R_make (Kd.int .i64) _ 3 rfl (N := 32) rfl 24 _ _ rfl ji16 rfl rfl Try.underlying24 (.int .i64 0) 8 info3 rfl (by decide) zp38 0 (ok := fun _ => True) (okp := fun _ => True) rfl (fun _ hk => hk) trivial (of_decide_eq_true zp1) (Nat.le_trans (Nat.mul_le_mul_right _ (of_decide_eq_true zp1 : ji16.toNat ≤ 35184372088832)) zp38) (Below.refl _ _) (Nat.le_refl _) ?_; intro v157 w21 ho22 hb hg_ hnew_; clear hg_ hnew_; (first | rw [← Ny156.out] at ho22 | (simp only [Int.reduceToNat] at ho22; rw [← Ny156.out] at ho22)); have n0_ := Aside0.mk (Kd.R_elder' zp43 (Kd.R_base ho22) hb); have n1_ := Aside0.mk (Kd.R_lower (Kd.R_new' ho22 (Kd.R_lt zp43)) (below_size zp3)); have n2_ := Aside0.mk (blk_below (g := gb150) (o := .cells #[.int .i64 a0_0, .int .i64 a0_1, .int .i64 a0_2] 27 (0, 0)) zp9 hb); have n3_ := Aside0.mk (below_step zp3 hb); clear HO155; clear BK150; clear HB; have HO155 := n0_; have HO158 := n1_; have BK150 := n2_; have HB := n3_; clear n0_ n1_ n2_ n3_; clear hb ho22) | ((with_reducible refine gate_dst (N := 36) rfl ?_); refine Kd.R_make (Kd.int .i64) _ 3 rfl (N := 36) rfl 24 _ _ rfl ji16 rfl rfl Try.underlying24 (.int .i64 0) 8 info3 rfl (by decide) zp38 0 (ok := fun _ => True) (okp := fun _ => True) rfl (fun _ hk => hk) trivial (of_decide_eq_true zp1) (Nat.le_trans (Nat.mul_le_mul_right _ (of_decide_eq_true zp1 : ji16.toNat ≤ 35184372088832)) zp38) (Below.refl _ _) (Nat.le_refl _) ?_; intro v160 w23 ho24 hb hg_ hnew_; clear hg_ hnew_; (first | rw [← Ny159.out] at ho24 | (simp only [Int.reduceToNat] at ho24; rw [← Ny159.out] at ho24)); have n0_ := Aside0.mk (Kd.R_elder' zp43 (Kd.R_base ho24) hb); have n1_ := Aside0.mk (Kd.R_elder' (by (with_reducible repeat (first | apply Kd.R_alloc | apply Kd.R_drewN | apply Kd.R_drew)); exact HO158.out) (Kd.R_base ho24) hb); have n2_ := Aside0.mk (Kd.R_lower (Kd.R_new' (Kd.R_new' ho24 (Kd.R_lt zp43)) (Kd.R_lt (by (with_reducible repeat (first | apply Kd.R_alloc | apply Kd.R_drewN | apply Kd.R_drew)); exact HO158.out))) (below_size zp3)); have n3_ := Aside0.mk (blk_below (g := gb150) (o := .cells #[.int .i64 a0_0, .int .i64 a0_1, .int .i64 a0_2] 27 (0, 0)) zp9 hb); have n4_ := Aside0.mk (below_step zp3 hb); clear HO155; clear HO158; clear BK150; clear HB; have HO155 := n0_; have HO158 := n1_; have HO161 := n2_; have BK150 := n3_; have HB := n4_; clear n0_ n1_ n2_ n3_ n4_; clear hb ho24))
      go_loopg [10] kj2 (fun kq v10 w' => ∃ (x8_2 : List Int) (x9_2 : List Int) (x10_2 : Int), v10 = .int .i64 x10_2 ∧ Aside0 (spec_BestBreaking.l0 kq l1 t153 x8_2 x9_2 x10_2 a0_0 a0_1 a0_2 = some (r1, r2, r3)) ∧ Aside0 (kq ≤ kj2) ∧ Aside0 (Kd.R (Kd.int .i64) 3 w' w.heap.size (fun k_ => some k_ ≠ (v157 : Value).ownBlock ∧ some k_ ≠ (v160 : Value).ownBlock) v154 t153) ∧ Aside0 (Kd.R (Kd.int .i64) 3 w' w.heap.size (fun k_ => some k_ ≠ (v154 : Value).ownBlock ∧ some k_ ≠ (v160 : Value).ownBlock) v157 x8_2) ∧ Aside0 (Kd.R (Kd.int .i64) 3 w' w.heap.size (fun k_ => some k_ ≠ (v154 : Value).ownBlock ∧ some k_ ≠ (v157 : Value).ownBlock) v160 x9_2) ∧ Aside0 (w'.heap[gb150]? = some (.cells #[.int .i64 a0_0, .int .i64 a0_1, .int .i64 a0_2] 27 (0, 0))) ∧ Aside0 (Below w.heap.size w w'))
      case atStart => exact ⟨(y156), (y159), (wrap64 ((l1.length : Int) - 1)), zp6, H', ⟨Nat.le_refl _⟩, ⟨by (with_reducible repeat (first | apply Kd.R_alloc | apply Kd.R_drewN | apply Kd.R_drew)); exact Kd.R_mono HO155.out (fun _ hk => ⟨hk.1.2, hk.2⟩)⟩, ⟨by (with_reducible repeat (first | apply Kd.R_alloc | apply Kd.R_drewN | apply Kd.R_drew)); exact Kd.R_mono HO158.out (fun _ hk => ⟨hk.1.2, hk.2⟩)⟩, ⟨by (with_reducible repeat (first | apply Kd.R_alloc | apply Kd.R_drewN | apply Kd.R_drew)); exact Kd.R_mono HO161.out (fun _ hk => ⟨hk.1.2, hk.2⟩)⟩, ⟨by (with_reducible repeat (first | refine blk_drewN ?_ _ | refine blk_drew ?_ | refine blk_alloc ?_ _)); exact BK150.out⟩, ⟨by repeat (first | (with_reducible first | exact HB.out | apply below_alloc | apply pw_below_drewN | apply below_drew1 | refine below_set ?_ GE150.out) | exact HB.out)⟩⟩
      case round =>
       clear H'
       try clear c1
       try clear p2
       try clear c3
       try clear c4
       try clear c6
       try clear p6
       try clear c14
       try clear c17
       try clear c17b0
       try clear c17b1
       try clear c18
       try clear c18b0
       try clear c18b1
       try clear hcz10_0
       try clear hcz10_1
       try clear hcz10_2
       try clear hcz12_0
       try clear hcz12_1
       try clear hcz12_2
       try clear hcz19_0
       try clear hcz19_1
       try clear hcz19_2
       try clear hcz8_0
       try clear hcz8_1
       try clear hcz8_2
       try clear hfz10_0
       try clear hfz10_1
       try clear hfz10_2
       try clear hfz12_0
       try clear hfz12_1
       try clear hfz12_2
       try clear hfz19_0
       try clear hfz19_1
       try clear hfz19_2
       try clear hfz8_0
       try clear hfz8_1
       try clear hfz8_2
       try clear p2
       obtain ⟨x8_2, x9_2, x10_2, rfl, HA, HK2, HO_7, HO_8, HO_9, BK150, HB⟩ := hrel
       cases gk with
       | zero => exact absurd HA.out (by simp [spec_BestBreaking.l0])
       | succ k2 =>
        have H := HA.out
        clear HA
        simp only [spec_BestBreaking.l0] at H
        by_cases c25 : x10_2 ≥ 0
        ·rw [if_pos c25] at H
         have c25b0 : decide (0 ≤ x10_2) = true := decide_eq_true c25
         clear c25
         have H' := Aside0.mk H
         clear H
         go_wp2
         go_loopg [11] k2 (fun kq v11 w' => ∃ (x8_3 : List Int) (x9_3 : List Int) (x11_3 : Int), v11 = .int .i64 x11_3 ∧ Aside0 (spec_BestBreaking.l1 kq l1 t153 x8_3 x9_3 x10_2 x11_3 a0_0 a0_1 a0_2 = some (r1, r2, r3)) ∧ Aside0 (kq ≤ k2) ∧ Aside0 (Kd.R (Kd.int .i64) 3 w' w.heap.size (fun k_ => some k_ ≠ (v157 : Value).ownBlock ∧ some k_ ≠ (v160 : Value).ownBlock) v154 t153) ∧ Aside0 (Kd.R (Kd.int .i64) 3 w' w.heap.size (fun k_ => some k_ ≠ (v154 : Value).ownBlock ∧ some k_ ≠ (v160 : Value).ownBlock) v157 x8_3) ∧ Aside0 (Kd.R (Kd.int .i64) 3 w' w.heap.size (fun k_ => some k_ ≠ (v154 : Value).ownBlock ∧ some k_ ≠ (v157 : Value).ownBlock) v160 x9_3) ∧ Aside0 (w'.heap[gb150]? = some (.cells #[.int .i64 a0_0, .int .i64 a0_1, .int .i64 a0_2] 27 (0, 0))) ∧ Aside0 (Below w.heap.size w w'))
         case atStart => exact ⟨(x8_2), (x9_2), (1), zp6, H', ⟨Nat.le_refl _⟩, ⟨by (with_reducible repeat (first | apply Kd.R_alloc | apply Kd.R_drewN | apply Kd.R_drew)); exact HO_7.out⟩, ⟨by (with_reducible repeat (first | apply Kd.R_alloc | apply Kd.R_drewN | apply Kd.R_drew)); exact HO_8.out⟩, ⟨by (with_reducible repeat (first | apply Kd.R_alloc | apply Kd.R_drewN | apply Kd.R_drew)); exact HO_9.out⟩, ⟨by (with_reducible repeat (first | refine blk_drewN ?_ _ | refine blk_drew ?_ | refine blk_alloc ?_ _)); exact BK150.out⟩, ⟨by repeat (first | (with_reducible first | exact HB.out | apply below_alloc | apply pw_below_drewN | apply below_drew1 | refine below_set ?_ GE150.out) | exact HB.out)⟩⟩
         case round =>
          clear H'
          try clear c1
          try clear c2
          try clear p2
          try clear c3
          try clear c4
          try clear c6
          try clear p6
          try clear c14
          try clear c17
          try clear c17b0
          try clear c17b1
          try clear c18
          try clear c18b0
          try clear c18b1
          try clear c25
          try clear c25b0
          try clear hcz10_0
          try clear hcz10_1
          try clear hcz10_2
          try clear hcz12_0
          try clear hcz12_1
          try clear hcz12_2
          try clear hcz19_0
          try clear hcz19_1
          try clear hcz19_2
          try clear hcz8_0
          try clear hcz8_1
          try clear hcz8_2
          try clear hfz10_0
          try clear hfz10_1
          try clear hfz10_2
          try clear hfz12_0
          try clear hfz12_1
          try clear hfz12_2
          try clear hfz19_0
          try clear hfz19_1
          try clear hfz19_2
          try clear hfz8_0
          try clear hfz8_1
          try clear hfz8_2
          try clear p2
          try clear p6
          obtain ⟨x8_3, x9_3, x11_3, rfl, HA, HK3, HO_7, HO_8, HO_9, BK150, HB⟩ := hrel
          cases gk with
          | zero => exact absurd HA.out (by simp [spec_BestBreaking.l1])
          | succ k3 =>
           have H := HA.out
           clear HA
           simp only [spec_BestBreaking.l1] at H
           by_cases c26 : (wrap64 (x10_2 + x11_3)) ≤ (l1.length : Int)
           ·rw [if_pos c26] at H
            have c26b0 : decide ((wrap64 (x10_2 + x11_3)) ≤ (l1.length : Int)) = true := decide_eq_true c26
            clear c26
            have HC27 := Aside0.mk H
            clear H
            go_upto_region 12 with (fail)
            go_cut [66] (fun v66 wc => ∃ (kq : Nat) (x66_26 : Bool), v66 = .bool x66_26 ∧ Aside0 (spec_BestBreaking.j3 kq l1 t153 x8_3 x9_3 x10_2 x11_3 x66_26 a0_0 a0_1 a0_2 = some (r1, r2, r3)) ∧ Aside0 (kq ≤ k3) ∧ Aside0 (Kd.R (Kd.int .i64) 3 wc w.heap.size (fun k_ => some k_ ≠ (v157 : Value).ownBlock ∧ some k_ ≠ (v160 : Value).ownBlock) v154 t153) ∧ Aside0 (Kd.R (Kd.int .i64) 3 wc w.heap.size (fun k_ => some k_ ≠ (v154 : Value).ownBlock ∧ some k_ ≠ (v160 : Value).ownBlock) v157 x8_3) ∧ Aside0 (Kd.R (Kd.int .i64) 3 wc w.heap.size (fun k_ => some k_ ≠ (v154 : Value).ownBlock ∧ some k_ ≠ (v157 : Value).ownBlock) v160 x9_3) ∧ Aside0 (wc.heap[gb150]? = some (.cells #[.int .i64 a0_0, .int .i64 a0_1, .int .i64 a0_2] 27 (0, 0))) ∧ Aside0 (Below w.heap.size w wc))
            case first =>
             have H := HC27.out
             clear HC27
             replace H := Option.bind_eq_some_iff.mp H
             obtain ⟨t162, A280, H⟩ := H
             replace H : (if t162 = true then (if 0 ≤ (wrap64 (x10_2 + x11_3)) then (if (wrap64 (x10_2 + x11_3)) < (t153.length : Int) then (spec_BestBreaking.j3 k3 l1 t153 x8_3 x9_3 x10_2 x11_3 ((rd t153 (wrap64 (x10_2 + x11_3))) == 0) a0_0 a0_1 a0_2) else (none)) else (none)) else (spec_BestBreaking.j3 k3 l1 t153 x8_3 x9_3 x10_2 x11_3 true a0_0 a0_1 a0_2)) = some (r1, r2, r3) := H
             have A28 := Aside0.mk A280
             clear A280
             by_cases c29 : t162 = true
             ·subst c29
              have H1 : (if 0 ≤ (wrap64 (x10_2 + x11_3)) then (if (wrap64 (x10_2 + x11_3)) < (t153.length : Int) then (spec_BestBreaking.j3 k3 l1 t153 x8_3 x9_3 x10_2 x11_3 ((rd t153 (wrap64 (x10_2 + x11_3))) == 0) a0_0 a0_1 a0_2) else (none)) else (none)) = some (r1, r2, r3) := by rw [if_pos rfl] at H; exact H
              clear H
              have H := H1
              clear H1
              obtain ⟨ji30, hji30⟩ : ∃ j_ : Int, (wrap64 (x10_2 + x11_3)) = j_ := ⟨_, rfl⟩
              replace H : (if 0 ≤ (ji30) then (if (ji30) < (t153.length : Int) then (spec_BestBreaking.j3 k3 l1 t153 x8_3 x9_3 x10_2 x11_3 ((rd t153 (ji30)) == 0) a0_0 a0_1 a0_2) else (none)) else (none)) = some (r1, r2, r3) := by first | (rw [hji30] at H; exact H) | (simp only [hji30] at H ⊢; exact H)
              (try rw [hji30] at c26b0)
              (try rw [hji30] at A28)
              have hji30w : (IntKind.i64.wrap (x10_2 + x11_3)) = ji30 := (i64_w _).trans hji30
              by_cases c31 : 0 ≤ (ji30)
              ·rw [if_pos c31] at H
               have c31b0 : decide (0 ≤ (ji30)) = true := decide_eq_true c31
               clear c31
               (first | rw [c31b0] | (simp only [i64_w, i32_w]; rw [c31b0]) | skip)
               by_cases c32 : (ji30) < (t153.length : Int)
               ·rw [if_pos c32] at H
                have c32b0 : decide ((ji30) < (t153.length : Int)) = true := decide_eq_true c32
                clear c32
                have H' := Aside0.mk H
                clear H
                have hcz33_0 : wr.cell? ⟨gb150, 0, none⟩ = some (.int .i64 a0_0) := (blk_cell BK150.out 0).trans rfl
                have hcz33_1 : wr.cell? ⟨gb150, 1, none⟩ = some (.int .i64 a0_1) := (blk_cell BK150.out 1).trans rfl
                have hcz33_2 : wr.cell? ⟨gb150, 2, none⟩ = some (.int .i64 a0_2) := (blk_cell BK150.out 2).trans rfl
                have hfz33_0 := blk_frozen BK150.out 0
                have hfz33_1 := blk_frozen BK150.out 1
                have hfz33_2 := blk_frozen BK150.out 2
                go_wp2_with (first | ((with_reducible refine gate_callee (f := 49) rfl ?_); refine goesL_ (some 56) rfl rfl Try.func49 (by kernel_rfl) rfl #[.agg #[.int .i64 a0_0, .int .i64 a0_1, .int .i64 a0_2], .slice A1 l1.length c1, .int .i64 x10_2, .int .i64 x11_3] rfl zp2 ?_; (with_reducible refine (spec_l4Goes.calls k3 a0_0 a0_1 a0_2 _ _ l1 x10_2 x11_3 true _ ?side1 ?side2 A28.out).mono ?_); (case side1 => repeat (first | exact (Kd.C_below HR1.out HB.out) | (with_reducible refine Kd.C_alloc ?_ _) | (with_reducible refine Kd.C_drewN ?_ _) | (with_reducible refine Kd.C_drew ?_))); (case side2 => exact HC1.out); rintro e w34 ⟨rfl, hb⟩; refine ⟨_, rfl, ?_⟩; have n0_ := Aside0.mk (Kd.R_below zp12 hb); have n1_ := Aside0.mk (Kd.R_below zp8 hb); have n2_ := Aside0.mk (Kd.R_below zp11 hb); have n3_ := Aside0.mk (blk_below (g := gb150) (o := .cells #[.int .i64 a0_0, .int .i64 a0_1, .int .i64 a0_2] 27 (0, 0)) zp9 hb); have n4_ := Aside0.mk (below_step zp3 hb); clear HO_7; clear HO_8; clear HO_9; clear BK150; clear HB; have HO_7 := n0_; have HO_8 := n1_; have HO_9 := n2_; have BK150 := n3_; have HB := n4_; clear n0_ n1_ n2_ n3_ n4_; (try clear hb); (try clear hb2); (try clear hk); (try clear hi); obtain ⟨Ao35, co35, eo35⟩ := Kd.R_slice HO_7.out; subst eo35; have p163 : 0 ≤ ((ji30) : Int) := of_decide_eq_true zp1; have q163 : (ji30) < (t153.length : Int) := of_decide_eq_true zp1; obtain ⟨ad163, e163, hx163_0⟩ := Kd.at_int (Kd.R_reads' HO_7.out).2.2 (ji30) p163 q163; cases e163; replace p163 := eq_true p163; replace q163 := eq_true q163))
                go_meet
                case rel => exact ⟨_, (((rd t153 (ji30)) == 0)), (by first | rfl | (simp; done) | (simp only [← hji30] <;> (first | rfl | simp)) | (simp [*]; done)), H', ⟨by have := HJ2.out; have := HK2.out; have := HK3.out; first | omega | exact Nat.le_refl _⟩, ⟨by (with_reducible repeat (first | apply Kd.R_alloc | apply Kd.R_drewN | apply Kd.R_drew)); exact HO_7.out⟩, ⟨by (with_reducible repeat (first | apply Kd.R_alloc | apply Kd.R_drewN | apply Kd.R_drew)); exact HO_8.out⟩, ⟨by (with_reducible repeat (first | apply Kd.R_alloc | apply Kd.R_drewN | apply Kd.R_drew)); exact HO_9.out⟩, ⟨by (with_reducible repeat (first | refine blk_drewN ?_ _ | refine blk_drew ?_ | refine blk_alloc ?_ _)); exact BK150.out⟩, ⟨by repeat (first | (with_reducible first | exact HB.out | apply below_alloc | apply pw_below_drewN | apply below_drew1 | refine below_set ?_ GE150.out) | exact HB.out)⟩⟩
               ·rw [if_neg c32] at H
                exact absurd H zp36
              ·rw [if_neg c31] at H
               exact absurd H zp36
             ·replace c29 := Bool.eq_false_iff.mpr c29
              subst c29
              have H1 : (spec_BestBreaking.j3 k3 l1 t153 x8_3 x9_3 x10_2 x11_3 true a0_0 a0_1 a0_2) = some (r1, r2, r3) := by rw [if_neg (show ¬ (false = true) by decide)] at H; exact H
              clear H
              have H := H1
              clear H1
              have H' := Aside0.mk H
              clear H
              have hcz36_0 : wr.cell? ⟨gb150, 0, none⟩ = some (.int .i64 a0_0) := (blk_cell BK150.out 0).trans rfl
              have hcz36_1 : wr.cell? ⟨gb150, 1, none⟩ = some (.int .i64 a0_1) := (blk_cell BK150.out 1).trans rfl
              have hcz36_2 : wr.cell? ⟨gb150, 2, none⟩ = some (.int .i64 a0_2) := (blk_cell BK150.out 2).trans rfl
              have hfz36_0 := blk_frozen BK150.out 0
              have hfz36_1 := blk_frozen BK150.out 1
              have hfz36_2 := blk_frozen BK150.out 2
              go_wp2_with (first | ((with_reducible refine gate_callee (f := 49) rfl ?_); refine goesL_ (some 56) rfl rfl Try.func49 (by kernel_rfl) rfl #[.agg #[.int .i64 a0_0, .int .i64 a0_1, .int .i64 a0_2], .slice A1 l1.length c1, .int .i64 x10_2, .int .i64 x11_3] rfl zp2 ?_; (with_reducible refine (spec_l4Goes.calls k3 a0_0 a0_1 a0_2 _ _ l1 x10_2 x11_3 false _ ?side1 ?side2 A28.out).mono ?_); (case side1 => repeat (first | exact (Kd.C_below HR1.out HB.out) | (with_reducible refine Kd.C_alloc ?_ _) | (with_reducible refine Kd.C_drewN ?_ _) | (with_reducible refine Kd.C_drew ?_))); (case side2 => exact HC1.out); rintro e w37 ⟨rfl, hb⟩; refine ⟨_, rfl, ?_⟩; have n0_ := Aside0.mk (Kd.R_below zp12 hb); have n1_ := Aside0.mk (Kd.R_below zp8 hb); have n2_ := Aside0.mk (Kd.R_below zp11 hb); have n3_ := Aside0.mk (blk_below (g := gb150) (o := .cells #[.int .i64 a0_0, .int .i64 a0_1, .int .i64 a0_2] 27 (0, 0)) zp9 hb); have n4_ := Aside0.mk (below_step zp3 hb); clear HO_7; clear HO_8; clear HO_9; clear BK150; clear HB; have HO_7 := n0_; have HO_8 := n1_; have HO_9 := n2_; have BK150 := n3_; have HB := n4_; clear n0_ n1_ n2_ n3_ n4_; (try clear hb); (try clear hb2); (try clear hk); (try clear hi)))
              go_meet
              case rel => exact ⟨_, (true), zp6, H', ⟨by have := HJ2.out; have := HK2.out; have := HK3.out; first | omega | exact Nat.le_refl _⟩, ⟨by (with_reducible repeat (first | apply Kd.R_alloc | apply Kd.R_drewN | apply Kd.R_drew)); exact HO_7.out⟩, ⟨by (with_reducible repeat (first | apply Kd.R_alloc | apply Kd.R_drewN | apply Kd.R_drew)); exact HO_8.out⟩, ⟨by (with_reducible repeat (first | apply Kd.R_alloc | apply Kd.R_drewN | apply Kd.R_drew)); exact HO_9.out⟩, ⟨by (with_reducible repeat (first | refine blk_drewN ?_ _ | refine blk_drew ?_ | refine blk_alloc ?_ _)); exact BK150.out⟩, ⟨by repeat (first | (with_reducible first | exact HB.out | apply below_alloc | apply pw_below_drewN | apply below_drew1 | refine below_set ?_ GE150.out) | exact HB.out)⟩⟩
            case rest =>
             clear HC27
             try clear c1
             try clear p1
             try clear q1
             try clear hx1
             try clear c2
             try clear p2
             try clear c3
             try clear c4
             try clear c6
             try clear p6
             try clear c14
             try clear p16
             try clear q16
             try clear hx16
             try clear c17
             try clear c17b0
             try clear c17b1
             try clear c18
             try clear c18b0
             try clear c18b1
             try clear c25
             try clear c25b0
             try clear c26
             try clear c26b0
             try clear c29
             try clear c31
             try clear c31b0
             try clear c32
             try clear c32b0
             try clear hcz10_0
             try clear hcz10_1
             try clear hcz10_2
             try clear hcz12_0
             try clear hcz12_1
             try clear hcz12_2
             try clear hcz19_0
             try clear hcz19_1
             try clear hcz19_2
             try clear hcz33_0
             try clear hcz33_1
             try clear hcz33_2
             try clear hcz36_0
             try clear hcz36_1
             try clear hcz36_2
             try clear hcz8_0
             try clear hcz8_1
             try clear hcz8_2
             try clear hfz10_0
             try clear hfz10_1
             try clear hfz10_2
             try clear hfz12_0
             try clear hfz12_1
             try clear hfz12_2
             try clear hfz19_0
             try clear hfz19_1
             try clear hfz19_2
             try clear hfz33_0
             try clear hfz33_1
             try clear hfz33_2
             try clear hfz36_0
             try clear hfz36_1
             try clear hfz36_2
             try clear hfz8_0
             try clear hfz8_1
             try clear hfz8_2
             try clear hx163_0
             try clear p163
             try clear p2
             try clear p6
             try clear q163
             obtain ⟨kq, x66_26, rfl, HA, HJ26, HO_7, HO_8, HO_9, BK150, HB⟩ := hcut
             cases kq with
             | zero => exact absurd HA.out (by simp [spec_BestBreaking.j3])
             | succ kj26 =>
              have H := HA.out
              clear HA
              simp only [spec_BestBreaking.j3] at H
              by_cases c38 : x66_26 = true
              ·subst c38
               have H1 : (spec_BestBreaking.l1 kj26 l1 t153 x8_3 x9_3 x10_2 (wrap64 (x11_3 + 1)) a0_0 a0_1 a0_2) = some (r1, r2, r3) := by rw [if_pos rfl] at H; exact H
               clear H
               have H := H1
               clear H1
               have H' := Aside0.mk H
               clear H
               go_wp2
               go_roundg kj26
               case measure => have := HJ2.out; have := HK2.out; have := HK3.out; have := HJ26.out; omega
               case rel => exact ⟨(x8_3), (x9_3), (wrap64 (x11_3 + 1)), zp6, H', ⟨by have := HJ2.out; have := HK2.out; have := HK3.out; have := HJ26.out; omega⟩, ⟨by (with_reducible repeat (first | apply Kd.R_alloc | apply Kd.R_drewN | apply Kd.R_drew)); exact HO_7.out⟩, ⟨by (with_reducible repeat (first | apply Kd.R_alloc | apply Kd.R_drewN | apply Kd.R_drew)); exact HO_8.out⟩, ⟨by (with_reducible repeat (first | apply Kd.R_alloc | apply Kd.R_drewN | apply Kd.R_drew)); exact HO_9.out⟩, ⟨by (with_reducible repeat (first | refine blk_drewN ?_ _ | refine blk_drew ?_ | refine blk_alloc ?_ _)); exact BK150.out⟩, ⟨by repeat (first | (with_reducible first | exact HB.out | apply below_alloc | apply pw_below_drewN | apply below_drew1 | refine below_set ?_ GE150.out) | exact HB.out)⟩⟩
              ·replace c38 := Bool.eq_false_iff.mpr c38
               subst c38
               have H1 : (if 0 ≤ x10_2 then (if x10_2 ≤ (wrap64 (x10_2 + x11_3)) then (if (wrap64 (x10_2 + x11_3)) ≤ (l1.length : Int) then ((spec_l4Rise.f kj26 a0_0 a0_1 a0_2 ((l1.take ((wrap64 (x10_2 + x11_3)) : Int).toNat).drop (x10_2 : Int).toNat)).bind fun t165 => (if (wrap64 (x10_2 + x11_3)) = (l1.length : Int) then (if 0 ≤ (wrap64 (x10_2 + x11_3)) then (if (wrap64 (x10_2 + x11_3)) < (x8_3.length : Int) then (if x10_2 < (x9_3.length : Int) then (if (rd x9_3 x10_2) = 0 then (if x10_2 < (x8_3.length : Int) then (spec_BestBreaking.l1 kj26 l1 t153 (x8_3.set (x10_2 : Int).toNat (wrap64 ((rd x8_3 (wrap64 (x10_2 + x11_3)))))) (x9_3.set (x10_2 : Int).toNat x11_3) x10_2 (wrap64 (x11_3 + 1)) a0_0 a0_1 a0_2) else (none)) else (if x10_2 < (x8_3.length : Int) then (if (wrap64 ((rd x8_3 (wrap64 (x10_2 + x11_3))))) < (rd x8_3 x10_2) then (spec_BestBreaking.l1 kj26 l1 t153 (x8_3.set (x10_2 : Int).toNat (wrap64 ((rd x8_3 (wrap64 (x10_2 + x11_3)))))) (x9_3.set (x10_2 : Int).toNat x11_3) x10_2 (wrap64 (x11_3 + 1)) a0_0 a0_1 a0_2) else (spec_BestBreaking.l1 kj26 l1 t153 x8_3 x9_3 x10_2 (wrap64 (x11_3 + 1)) a0_0 a0_1 a0_2)) else (none))) else (none)) else (none)) else (none)) else (if 0 ≤ (wrap64 (x10_2 + x11_3)) then (if (wrap64 (x10_2 + x11_3)) < (x8_3.length : Int) then (if x10_2 < (x9_3.length : Int) then (if (rd x9_3 x10_2) = 0 then (if x10_2 < (x8_3.length : Int) then (spec_BestBreaking.l1 kj26 l1 t153 (x8_3.set (x10_2 : Int).toNat (wrap64 ((wrap64 (t165 * t165)) + (rd x8_3 (wrap64 (x10_2 + x11_3)))))) (x9_3.set (x10_2 : Int).toNat x11_3) x10_2 (wrap64 (x11_3 + 1)) a0_0 a0_1 a0_2) else (none)) else (if x10_2 < (x8_3.length : Int) then (if (wrap64 ((wrap64 (t165 * t165)) + (rd x8_3 (wrap64 (x10_2 + x11_3))))) < (rd x8_3 x10_2) then (spec_BestBreaking.l1 kj26 l1 t153 (x8_3.set (x10_2 : Int).toNat (wrap64 ((wrap64 (t165 * t165)) + (rd x8_3 (wrap64 (x10_2 + x11_3)))))) (x9_3.set (x10_2 : Int).toNat x11_3) x10_2 (wrap64 (x11_3 + 1)) a0_0 a0_1 a0_2) else (spec_BestBreaking.l1 kj26 l1 t153 x8_3 x9_3 x10_2 (wrap64 (x11_3 + 1)) a0_0 a0_1 a0_2)) else (none))) else (none)) else (none)) else (none)))) else (none)) else (none)) else (none)) = some (r1, r2, r3) := by rw [if_neg (show ¬ (false = true) by decide)] at H; exact H
               clear H
               have H := H1
               clear H1
               by_cases c39 : 0 ≤ x10_2
               ·rw [if_pos c39] at H
                have c39b0 := eq_true c39
                have c39b1 : decide (0 ≤ x10_2) = true := decide_eq_true c39
                clear c39
                by_cases c40 : x10_2 ≤ (wrap64 (x10_2 + x11_3))
                ·rw [if_pos c40] at H
                 have c40b0 := eq_true c40
                 have c40b1 : decide (x10_2 ≤ (wrap64 (x10_2 + x11_3))) = true := decide_eq_true c40
                 by_cases c41 : (wrap64 (x10_2 + x11_3)) ≤ (l1.length : Int)
                 ·rw [if_pos c41] at H
                  have c41b0 := eq_true c41
                  have c41b1 : decide ((wrap64 (x10_2 + x11_3)) ≤ (l1.length : Int)) = true := decide_eq_true c41
                  replace H := Option.bind_eq_some_iff.mp H
                  obtain ⟨t165, A420, H⟩ := H
                  replace H : (if (wrap64 (x10_2 + x11_3)) = (l1.length : Int) then (if 0 ≤ (wrap64 (x10_2 + x11_3)) then (if (wrap64 (x10_2 + x11_3)) < (x8_3.length : Int) then (if x10_2 < (x9_3.length : Int) then (if (rd x9_3 x10_2) = 0 then (if x10_2 < (x8_3.length : Int) then (spec_BestBreaking.l1 kj26 l1 t153 (x8_3.set (x10_2 : Int).toNat (wrap64 ((rd x8_3 (wrap64 (x10_2 + x11_3)))))) (x9_3.set (x10_2 : Int).toNat x11_3) x10_2 (wrap64 (x11_3 + 1)) a0_0 a0_1 a0_2) else (none)) else (if x10_2 < (x8_3.length : Int) then (if (wrap64 ((rd x8_3 (wrap64 (x10_2 + x11_3))))) < (rd x8_3 x10_2) then (spec_BestBreaking.l1 kj26 l1 t153 (x8_3.set (x10_2 : Int).toNat (wrap64 ((rd x8_3 (wrap64 (x10_2 + x11_3)))))) (x9_3.set (x10_2 : Int).toNat x11_3) x10_2 (wrap64 (x11_3 + 1)) a0_0 a0_1 a0_2) else (spec_BestBreaking.l1 kj26 l1 t153 x8_3 x9_3 x10_2 (wrap64 (x11_3 + 1)) a0_0 a0_1 a0_2)) else (none))) else (none)) else (none)) else (none)) else (if 0 ≤ (wrap64 (x10_2 + x11_3)) then (if (wrap64 (x10_2 + x11_3)) < (x8_3.length : Int) then (if x10_2 < (x9_3.length : Int) then (if (rd x9_3 x10_2) = 0 then (if x10_2 < (x8_3.length : Int) then (spec_BestBreaking.l1 kj26 l1 t153 (x8_3.set (x10_2 : Int).toNat (wrap64 ((wrap64 (t165 * t165)) + (rd x8_3 (wrap64 (x10_2 + x11_3)))))) (x9_3.set (x10_2 : Int).toNat x11_3) x10_2 (wrap64 (x11_3 + 1)) a0_0 a0_1 a0_2) else (none)) else (if x10_2 < (x8_3.length : Int) then (if (wrap64 ((wrap64 (t165 * t165)) + (rd x8_3 (wrap64 (x10_2 + x11_3))))) < (rd x8_3 x10_2) then (spec_BestBreaking.l1 kj26 l1 t153 (x8_3.set (x10_2 : Int).toNat (wrap64 ((wrap64 (t165 * t165)) + (rd x8_3 (wrap64 (x10_2 + x11_3)))))) (x9_3.set (x10_2 : Int).toNat x11_3) x10_2 (wrap64 (x11_3 + 1)) a0_0 a0_1 a0_2) else (spec_BestBreaking.l1 kj26 l1 t153 x8_3 x9_3 x10_2 (wrap64 (x11_3 + 1)) a0_0 a0_1 a0_2)) else (none))) else (none)) else (none)) else (none))) = some (r1, r2, r3) := H
                  have A42 := Aside0.mk A420
                  clear A420
                  by_cases c43 : (wrap64 (x10_2 + x11_3)) = (l1.length : Int)
                  ·rw [if_pos c43] at H
                   have c43b0 : ((wrap64 (x10_2 + x11_3)) == (l1.length : Int)) = true := beq_iff_eq.mpr c43
                   have c43b1 : ((wrap64 (x10_2 + x11_3)) != (l1.length : Int)) = false := bne_eq_false_iff_eq.mpr c43
                   clear c43
                   obtain ⟨ji44, hji44⟩ : ∃ j_ : Int, (wrap64 (x10_2 + x11_3)) = j_ := ⟨_, rfl⟩
                   replace H : (if 0 ≤ (ji44) then (if (ji44) < (x8_3.length : Int) then (if x10_2 < (x9_3.length : Int) then (if (rd x9_3 x10_2) = 0 then (if x10_2 < (x8_3.length : Int) then (spec_BestBreaking.l1 kj26 l1 t153 (x8_3.set (x10_2 : Int).toNat (wrap64 ((rd x8_3 (ji44))))) (x9_3.set (x10_2 : Int).toNat x11_3) x10_2 (wrap64 (x11_3 + 1)) a0_0 a0_1 a0_2) else (none)) else (if x10_2 < (x8_3.length : Int) then (if (wrap64 ((rd x8_3 (ji44)))) < (rd x8_3 x10_2) then (spec_BestBreaking.l1 kj26 l1 t153 (x8_3.set (x10_2 : Int).toNat (wrap64 ((rd x8_3 (ji44))))) (x9_3.set (x10_2 : Int).toNat x11_3) x10_2 (wrap64 (x11_3 + 1)) a0_0 a0_1 a0_2) else (spec_BestBreaking.l1 kj26 l1 t153 x8_3 x9_3 x10_2 (wrap64 (x11_3 + 1)) a0_0 a0_1 a0_2)) else (none))) else (none)) else (none)) else (none)) = some (r1, r2, r3) := by first | (rw [hji44] at H; exact H) | (simp only [hji44] at H ⊢; exact H)
                   (try rw [hji44] at c26b0)
                   (try rw [hji44] at c40b0)
                   (try rw [hji44] at c40b1)
                   (try rw [hji44] at c40)
                   (try rw [hji44] at c41b0)
                   (try rw [hji44] at c41b1)
                   (try rw [hji44] at c41)
                   (try rw [hji44] at c43b0)
                   (try rw [hji44] at c43b1)
                   (try rw [hji44] at A42)
                   have hji44w : (IntKind.i64.wrap (x10_2 + x11_3)) = ji44 := (i64_w _).trans hji44
                   by_cases c45 : 0 ≤ (ji44)
                   ·rw [if_pos c45] at H
                    have c45b0 : decide (0 ≤ (ji44)) = true := decide_eq_true c45
                    clear c45
                    by_cases c46 : (ji44) < (x8_3.length : Int)
                    ·rw [if_pos c46] at H
                     have c46b0 : decide ((ji44) < (x8_3.length : Int)) = true := decide_eq_true c46
                     clear c46
                     by_cases c47 : x10_2 < (x9_3.length : Int)
                     ·rw [if_pos c47] at H
                      have c47b0 : decide (x10_2 < (x9_3.length : Int)) = true := decide_eq_true c47
                      clear c47
                      by_cases c48 : (rd x9_3 x10_2) = 0
                      ·rw [if_pos c48] at H
                       have c48b0 : ((rd x9_3 x10_2) == 0) = true := beq_iff_eq.mpr c48
                       have c48b1 : ((rd x9_3 x10_2) != 0) = false := bne_eq_false_iff_eq.mpr c48
                       clear c48
                       by_cases c49 : x10_2 < (x8_3.length : Int)
                       ·rw [if_pos c49] at H
                        have c49b0 : decide (x10_2 < (x8_3.length : Int)) = true := decide_eq_true c49
                        clear c49
                        obtain ⟨y168, hy168⟩ : ∃ y_ : List Int, y_ = (x8_3.set (x10_2 : Int).toNat (wrap64 ((rd x8_3 (ji44))))) := ⟨_, rfl⟩
                        replace H : (spec_BestBreaking.l1 kj26 l1 t153 y168 (x9_3.set (x10_2 : Int).toNat x11_3) x10_2 (wrap64 (x11_3 + 1)) a0_0 a0_1 a0_2) = some (r1, r2, r3) := by first | (rw [hy168]; with_reducible exact H) | (have H2_ := (Option.bind_some _ _).symm.trans H; rw [hy168]; with_reducible exact H2_) | (have H2_ := (Option.bind_some _ _).symm.trans H; with_reducible exact H2_) | with_reducible exact H | (rw [hy168]; exact H) | exact H
                        have Ny168 := Aside0.mk hy168
                        clear hy168
                        obtain ⟨y169, hy169⟩ : ∃ y_ : List Int, y_ = (x9_3.set (x10_2 : Int).toNat x11_3) := ⟨_, rfl⟩
                        replace H : (spec_BestBreaking.l1 kj26 l1 t153 y168 y169 x10_2 (wrap64 (x11_3 + 1)) a0_0 a0_1 a0_2) = some (r1, r2, r3) := by first | (rw [hy169]; with_reducible exact H) | (have H2_ := (Option.bind_some _ _).symm.trans H; rw [hy169]; with_reducible exact H2_) | (have H2_ := (Option.bind_some _ _).symm.trans H; with_reducible exact H2_) | with_reducible exact H | (rw [hy169]; exact H) | exact H
                        have Ny169 := Aside0.mk hy169
                        clear hy169
                        have H' := Aside0.mk H
                        clear H
                        try go_wp2
                        have n0_ := Aside0.mk (Kd.R_drew HO_7.out)
                        have n1_ := Aside0.mk (Kd.R_drew HO_8.out)
                        have n2_ := Aside0.mk (Kd.R_drew HO_9.out)
                        have n3_ := Aside0.mk (blk_drew BK150.out)
                        have n4_ := Aside0.mk (below_drew1 HB.out)
                        clear HO_7
                        clear HO_8
                        clear HO_9
                        clear BK150
                        clear HB
                        have HO_7 := n0_
                        have HO_8 := n1_
                        have HO_9 := n2_
                        have BK150 := n3_
                        have HB := n4_
                        clear n0_ n1_ n2_ n3_ n4_
                        obtain ⟨i053, hi053, _, hsz53, _⟩ := info_parts info3
                        obtain ⟨A53, hcut53, hA53, hC53⟩ := print_mid_of (P := Try.prog) (Value.int .i64) 0 24 3 .i64 .i64 Try.underlying24 hi053 hsz53 A1 c1 l1 x10_2 (ji44) (of_decide_eq_true zp1) zp28 (of_decide_eq_true zp1) HC1.out
                        have HR164 := Aside0.mk (Kd.C_of_reads (h1 := fun _ => rfl) (hA53 _ (Kd.reads_of_C HR1.out)))
                        have HC164 := Aside0.mk hC53
                        clear hA53 hC53 hi053 hsz53
                        refine start_ (n := 9) (S := fun w' => w'.cell? ⟨gb150, 0, none⟩ = some (.int .i64 a0_0) ∧ w'.cell? ⟨gb150, 1, none⟩ = some (.int .i64 a0_1) ∧ w'.cell? ⟨gb150, 2, none⟩ = some (.int .i64 a0_2)) (ds := []) #[false, false, false, false, false, false, false, false, false] (by kernel_rfl) rfl rfl ⟨(blk_cell BK150.out 0).trans rfl, (blk_cell BK150.out 1).trans rfl, (blk_cell BK150.out 2).trans rfl⟩ (fun hHeld => ?_); refine with_tabW spec_BestBreaking.tab13 spec_BestBreaking.bits13 (fun HT_ HW_ => ?_)
                        generalize wc.drew = w52 at HO_7 HO_8 HO_9 BK150 HB HR164 hHeld ⊢
                        refine pure_ (i := 1) (N := some 68) (v := ?_) (a' := ?_) #[false, true, false, false, false, false, false, false, false] rfl rfl (any_of HT_.out (by kernel_rfl)) (fun _ _ _ h => h) (Or.inl ⟨by rfl, ?_⟩) ?_ ?_
                        rotate_left
                        ·intro w'
                         go_simp
                         with_reducible rfl
                        rotate_left
                        ·simp only [Act.put, List.setIfInBounds_toArray, List.set_cons_zero, List.set_cons_succ, i64_w, i32_w]
                         rfl
                        refine pure_ (i := 2) (N := some 69) (v := ?_) (a' := ?_) #[false, true, true, false, false, false, false, false, false] rfl rfl (any_of HT_.out (by kernel_rfl)) (fun _ _ _ h => h) (Or.inl ⟨by rfl, ?_⟩) ?_ ?_
                        rotate_left
                        ·intro w'
                         go_simp
                         with_reducible rfl
                        rotate_left
                        ·simp only [Act.put, List.setIfInBounds_toArray, List.set_cons_zero, List.set_cons_succ, i64_w, i32_w]
                         rfl
                        refine pure_ (i := 3) (N := some 70) (v := ?_) (a' := ?_) #[false, true, true, true, false, false, false, false, false] rfl rfl (any_of HT_.out (by kernel_rfl)) (fun _ _ _ h => h) (Or.inl ⟨by rfl, ?_⟩) ?_ ?_
                        rotate_left
                        ·intro w'
                         go_simp
                         with_reducible rfl
                        rotate_left
                        ·simp only [Act.put, List.setIfInBounds_toArray, List.set_cons_zero, List.set_cons_succ, i64_w, i32_w]
                         rfl
                        refine pure_ (i := 4) (N := some 71) (v := ?_) (a' := ?_) #[false, true, true, true, true, false, false, false, false] rfl rfl (any_of HT_.out (by kernel_rfl)) (fun _ _ _ h => h) (Or.inl ⟨by rfl, ?_⟩) ?_ ?_
                        rotate_left
                        ·intro w'
                         go_simp
                         with_reducible rfl
                        rotate_left
                        ·simp only [Act.put, List.setIfInBounds_toArray, List.set_cons_zero, List.set_cons_succ, i64_w, i32_w]
                         rfl
                        refine pure_ (i := 5) (N := some 72) (v := ?_) (a' := ?_) #[false, true, true, true, true, true, false, false, false] rfl rfl (any_of HT_.out (by kernel_rfl)) (fun _ _ _ h => h) (Or.inl ⟨by rfl, ?_⟩) ?_ ?_
                        rotate_left
                        ·intro w'
                         go_simp
                         with_reducible rfl
                        rotate_left
                        ·simp only [Act.put, List.setIfInBounds_toArray, List.set_cons_zero, List.set_cons_succ, i64_w, i32_w]
                         rfl
                        refine pure_ (i := 6) (N := some 73) (v := ?_) (a' := ?_) #[false, true, true, true, true, true, true, false, false] rfl rfl (any_of HT_.out (by kernel_rfl)) (fun _ _ _ h => h) (Or.inl ⟨by rfl, ?_⟩) ?_ ?_
                        rotate_left
                        ·intro w'
                         go_simp
                         with_reducible rfl
                        rotate_left
                        ·simp only [Act.put, List.setIfInBounds_toArray, List.set_cons_zero, List.set_cons_succ, i64_w, i32_w]
                         rfl
                        refine take_ (i := 0) (N := some 67) (v := ?_) (a' := ?_) #[true, true, true, true, true, true, true, false, false] rfl rfl (take_ofW HT_.out HW_.out (by kernel_rfl)) (fun _ _ _ h => h) (Or.inl ⟨by rfl, ?_⟩) hHeld ?_ ?_
                        rotate_left
                        ·rintro w' ⟨s0, s1, s2⟩
                         go_simp
                         with_reducible rfl
                        rotate_left
                        ·simp only [Act.put, List.setIfInBounds_toArray, List.set_cons_zero, List.set_cons_succ, i64_w, i32_w]
                         rfl
                        refine one_ (i := 7) (N := some 74) #[true, true, true, true, true, true, true, true, false] rfl rfl (one_of HT_.out (by kernel_rfl)) (by decide) (fun K hK => ?_)
                        refine goes_ Try.func53 (by kernel_rfl) rfl #[.agg #[.int .i64 a0_0, .int .i64 a0_1, .int .i64 a0_2], .slice A53 ((l1.take ((ji44) : Int).toNat).drop (x10_2 : Int).toNat).length (c1 - x10_2.toNat)] (by rfl) rfl rfl zp19 ?_
                        with_reducible refine (spec_l4Rise.calls kj26 a0_0 a0_1 a0_2 _ _ ((l1.take ((ji44) : Int).toNat).drop (x10_2 : Int).toNat) t165 _ ?side1 ?side2 A42.out).mono ?_
                        (case side1 => repeat (first | exact (Kd.C_below HR164.out HB.out) | (with_reducible refine Kd.C_alloc ?_ _) | (with_reducible refine Kd.C_drewN ?_ _) | (with_reducible refine Kd.C_drew ?_)))
                        (case side2 => exact HC164.out)
                        rintro e w54 ⟨rfl, hb⟩
                        refine ⟨_, rfl, ?_⟩
                        have n0_ := Aside0.mk (Kd.R_below zp12 hb)
                        have n1_ := Aside0.mk (Kd.R_below zp8 hb)
                        have n2_ := Aside0.mk (Kd.R_below zp11 hb)
                        have n3_ := Aside0.mk (blk_below (g := gb150) (o := .cells #[.int .i64 a0_0, .int .i64 a0_1, .int .i64 a0_2] 27 (0, 0)) zp9 hb)
                        have n4_ := Aside0.mk (below_step zp3 hb)
                        clear HO_7
                        clear HO_8
                        clear HO_9
                        clear BK150
                        clear HB
                        have HO_7 := n0_
                        have HO_8 := n1_
                        have HO_9 := n2_
                        have BK150 := n3_
                        have HB := n4_
                        clear n0_ n1_ n2_ n3_ n4_
                        (try clear hb)
                        (try clear hb2)
                        (try clear hk)
                        (try clear hi)
                        refine hK.out _ _ ⟨(blk_cell BK150.out 0).trans rfl, (blk_cell BK150.out 1).trans rfl, (blk_cell BK150.out 2).trans rfl⟩ (fun hHeld => ?_)
                        clear hK K
                        refine norm_ (a' := ?_) ?_ ?_
                        rotate_left
                        ·show Act.put _ (some 74) _ = _
                         simp only [Act.put, List.setIfInBounds_toArray, List.set_cons_zero, List.set_cons_succ, i64_w, i32_w]
                         rfl
                        refine pure_ (i := 8) (N := some 12) (v := ?_) (a' := ?_) #[true, true, true, true, true, true, true, true, true] rfl rfl (any_of HT_.out (by kernel_rfl)) (fun _ _ _ h => h) (Or.inl ⟨by rfl, ?_⟩) ?_ ?_
                        rotate_left
                        ·intro w'
                         go_simp
                         with_reducible rfl
                        rotate_left
                        ·simp only [Act.put, List.setIfInBounds_toArray, List.set_cons_zero, List.set_cons_succ, i64_w, i32_w]
                         rfl
                        refine done_ (done_of HT_.out (by kernel_rfl)) ?_
                        obtain ⟨Ao55, co55, eo55⟩ := Kd.R_slice HO_8.out
                        subst eo55
                        have p166 : 0 ≤ ((ji44) : Int) := of_decide_eq_true zp1
                        have q166 : (ji44) < (x8_3.length : Int) := of_decide_eq_true zp1
                        obtain ⟨ad166, e166, hx166_0⟩ := Kd.at_int (Kd.R_reads' HO_8.out).2.2 (ji44) p166 q166
                        cases e166
                        replace p166 := eq_true p166
                        replace q166 := eq_true q166
                        obtain ⟨Ao56, co56, eo56⟩ := Kd.R_slice HO_9.out
                        subst eo56
                        have p167 : 0 ≤ (x10_2 : Int) := of_decide_eq_true zp1
                        have q167 : x10_2 < (x9_3.length : Int) := of_decide_eq_true zp1
                        obtain ⟨ad167, e167, hx167_0⟩ := Kd.at_int (Kd.R_reads' HO_9.out).2.2 x10_2 p167 q167
                        cases e167
                        replace p167 := eq_true p167
                        replace q167 := eq_true q167
                        have p50 : 0 ≤ (x10_2 : Int) := of_decide_eq_true zp1
                        have q50 : (x10_2 : Int) < ((x8_3.length : Int) : Int) := of_decide_eq_true zp1
                        obtain ⟨go50, co50, eo50, gb50, gl50, cl50, HG50⟩ := Kd.R_form HO_8.out zp38
                        (first | cases eo50 | (injection eo50 with ea_ en_ ec_; (first | subst ea_ | (injection ea_ with ea_; subst ea_)); subst ec_; clear en_))
                        have GB50 := Aside0.mk gb50
                        have GG50 := Aside0.mk HG50
                        clear gb50 gl50 HG50
                        (first | simp only [add_plain] at hx166_0 | skip)
                        obtain ⟨hx50_0, hf50_0⟩ := Kd.R_celln 0 HO_8.out (x10_2 : Int) p50 q50
                        replace p50 := eq_true p50
                        replace q50 := eq_true q50
                        obtain ⟨hy57_, hz57_⟩ := Kd.R_celln 0 HO_8.out (x10_2 : Int) (of_decide_eq_true zp1) (of_decide_eq_true zp1)
                        have HP57 := Kd.R_putg HO_8.out (x10_2 : Int) (wrap64 ((rd x8_3 (ji44))))
                        try go_wp2_with (first | ((with_reducible refine gate_store (t := 3) (p := 107) rfl ?_); refine store_event (t := 3) (p := 107) (v := ?vo_w58) (w1 := (w54.setCell ⟨go50, (x10_2 : Int).toNat, none⟩ (.int .i64 (wrap64 ((rd x8_3 (ji44))))))) ?hg ?ho ?hn ?hr ?_; (case ho => rfl); (case hg => rfl); (case hn => rfl); (case hr => first | (go_simp; done) | (go_simp; rfl)); intro w58 hw; have hg : w54.grownBy w58 (some go50) := (by rw [hw]; exact HP57.2); have hp_ : Kd.R (Kd.int .i64) 3 w58 w.heap.size (fun k_ => some k_ ≠ (v154 : Value).ownBlock ∧ some k_ ≠ (.slice (some ad167) x9_3.length co56 : Value).ownBlock) (.slice (some ⟨go50, 0, none⟩) x8_3.length co55) y168 := (by rw [hw, Ny168.out]; exact HP57.1); clear HP57; have n0_ := Aside0.mk (Kd.R_after (v := (.slice (some ⟨go50, 0, none⟩) x8_3.length co55)) (v1 := (.slice (some ⟨go50, 0, none⟩) x8_3.length co55)) (ok := (fun k_ => some k_ ≠ (.slice (some ad167) x9_3.length co56 : Value).ownBlock)) zp15 hg (.inl rfl)); have n1_ := Aside0.mk (hp_); have n2_ := Aside0.mk (Kd.R_after (v := (.slice (some ⟨go50, 0, none⟩) x8_3.length co55)) (v1 := (.slice (some ⟨go50, 0, none⟩) x8_3.length co55)) (ok := (fun k_ => some k_ ≠ (v154 : Value).ownBlock)) zp11 hg (.inl rfl)); have n3_ := Aside0.mk (blk_grown (g := gb150) (o := .cells #[.int .i64 a0_0, .int .i64 a0_1, .int .i64 a0_2] 27 (0, 0)) zp9 hg (Kd.R_ne HO_8.out BK150.out (by decide))); have n4_ := Aside0.mk ((by rw [hw]; exact below_set (HB.out) GB50.out : Below w.heap.size w w58)); clear HO_7; clear HO_8; clear HO_9; clear BK150; clear HB; have HO_7 := n0_; have HO_8 := n1_; have HO_9 := n2_; have BK150 := n3_; have HB := n4_; clear n0_ n1_ n2_ n3_ n4_; clear hg hw hp_; have p51 : 0 ≤ (x10_2 : Int) := of_decide_eq_true zp1; have q51 : (x10_2 : Int) < ((x9_3.length : Int) : Int) := of_decide_eq_true zp1; obtain ⟨go51, co51, eo51, gb51, gl51, cl51, HG51⟩ := Kd.R_form HO_9.out zp38; (first | cases eo51 | (injection eo51 with ea_ en_ ec_; (first | subst ea_ | (injection ea_ with ea_; subst ea_)); subst ec_; clear en_)); have GB51 := Aside0.mk gb51; have GG51 := Aside0.mk HG51; clear gb51 gl51 HG51; (first | simp only [add_plain] at hx167_0 | skip); obtain ⟨hx51_0, hf51_0⟩ := Kd.R_celln 0 HO_9.out (x10_2 : Int) p51 q51; replace p51 := eq_true p51; replace q51 := eq_true q51; obtain ⟨hy59_, hz59_⟩ := Kd.R_celln 0 HO_9.out (x10_2 : Int) (of_decide_eq_true zp1) (of_decide_eq_true zp1); have HP59 := Kd.R_putg HO_9.out (x10_2 : Int) x11_3) | ((with_reducible refine gate_store (t := 3) (p := 111) rfl ?_); refine store_event (t := 3) (p := 111) (v := ?vo_w60) (w1 := (w58.setCell ⟨go51, (x10_2 : Int).toNat, none⟩ (.int .i64 x11_3))) ?hg ?ho ?hn ?hr ?_; (case ho => rfl); (case hg => rfl); (case hn => rfl); (case hr => first | (go_simp; done) | (go_simp; rfl)); intro w60 hw; have hg : w58.grownBy w60 (some go51) := (by rw [hw]; exact HP59.2); have hp_ : Kd.R (Kd.int .i64) 3 w60 w.heap.size (fun k_ => some k_ ≠ (v154 : Value).ownBlock ∧ some k_ ≠ (.slice (some ⟨go50, 0, none⟩) x8_3.length co55 : Value).ownBlock) (.slice (some ⟨go51, 0, none⟩) x9_3.length co56) y169 := (by rw [hw, Ny169.out]; exact HP59.1); clear HP59; have n0_ := Aside0.mk (Kd.R_after (v := (.slice (some ⟨go51, 0, none⟩) x9_3.length co56)) (v1 := (.slice (some ⟨go51, 0, none⟩) x9_3.length co56)) (ok := (fun k_ => some k_ ≠ (.slice (some ⟨go50, 0, none⟩) x8_3.length co55 : Value).ownBlock)) zp15 hg (.inl rfl)); have n1_ := Aside0.mk (Kd.R_after (v := (.slice (some ⟨go51, 0, none⟩) x9_3.length co56)) (v1 := (.slice (some ⟨go51, 0, none⟩) x9_3.length co56)) (ok := (fun k_ => some k_ ≠ (v154 : Value).ownBlock)) zp8 hg (.inl rfl)); have n2_ := Aside0.mk (hp_); have n3_ := Aside0.mk (blk_grown (g := gb150) (o := .cells #[.int .i64 a0_0, .int .i64 a0_1, .int .i64 a0_2] 27 (0, 0)) zp9 hg (Kd.R_ne HO_9.out BK150.out (by decide))); have n4_ := Aside0.mk ((by rw [hw]; exact below_set (HB.out) GB51.out : Below w.heap.size w w60)); clear HO_7; clear HO_8; clear HO_9; clear BK150; clear HB; have HO_7 := n0_; have HO_8 := n1_; have HO_9 := n2_; have BK150 := n3_; have HB := n4_; clear n0_ n1_ n2_ n3_ n4_; clear hg hw hp_))
                        go_roundg kj26
                        case measure => have := HJ2.out; have := HK2.out; have := HK3.out; have := HJ26.out; omega
                        case rel => exact ⟨(y168), (y169), (wrap64 (x11_3 + 1)), zp6, H', ⟨by have := HJ2.out; have := HK2.out; have := HK3.out; have := HJ26.out; omega⟩, ⟨by (with_reducible repeat (first | apply Kd.R_alloc | apply Kd.R_drewN | apply Kd.R_drew)); exact HO_7.out⟩, ⟨by (with_reducible repeat (first | apply Kd.R_alloc | apply Kd.R_drewN | apply Kd.R_drew)); exact HO_8.out⟩, ⟨by (with_reducible repeat (first | apply Kd.R_alloc | apply Kd.R_drewN | apply Kd.R_drew)); exact HO_9.out⟩, ⟨by (with_reducible repeat (first | refine blk_drewN ?_ _ | refine blk_drew ?_ | refine blk_alloc ?_ _)); exact BK150.out⟩, ⟨by repeat (first | (with_reducible first | exact HB.out | apply below_alloc | apply pw_below_drewN | apply below_drew1 | refine below_set ?_ GE150.out) | exact HB.out)⟩⟩
                       ·rw [if_neg c49] at H
                        exact absurd H zp36
                      ·rw [if_neg c48] at H
                       have c48b0 : ((rd x9_3 x10_2) == 0) = false := beq_eq_false_iff_ne.mpr c48
                       have c48b1 : ((rd x9_3 x10_2) != 0) = true := bne_iff_ne.mpr c48
                       by_cases c61 : x10_2 < (x8_3.length : Int)
                       ·rw [if_pos c61] at H
                        have c61b0 : decide (x10_2 < (x8_3.length : Int)) = true := decide_eq_true c61
                        clear c61
                        by_cases c62 : (wrap64 ((rd x8_3 (ji44)))) < (rd x8_3 x10_2)
                        ·rw [if_pos c62] at H
                         have c62b0 : decide ((wrap64 ((rd x8_3 (ji44)))) < (rd x8_3 x10_2)) = true := decide_eq_true c62
                         clear c62
                         obtain ⟨y171, hy171⟩ : ∃ y_ : List Int, y_ = (x8_3.set (x10_2 : Int).toNat (wrap64 ((rd x8_3 (ji44))))) := ⟨_, rfl⟩
                         replace H : (spec_BestBreaking.l1 kj26 l1 t153 y171 (x9_3.set (x10_2 : Int).toNat x11_3) x10_2 (wrap64 (x11_3 + 1)) a0_0 a0_1 a0_2) = some (r1, r2, r3) := by first | (rw [hy171]; with_reducible exact H) | (have H2_ := (Option.bind_some _ _).symm.trans H; rw [hy171]; with_reducible exact H2_) | (have H2_ := (Option.bind_some _ _).symm.trans H; with_reducible exact H2_) | with_reducible exact H | (rw [hy171]; exact H) | exact H
                         have Ny171 := Aside0.mk hy171
                         clear hy171
                         obtain ⟨y172, hy172⟩ : ∃ y_ : List Int, y_ = (x9_3.set (x10_2 : Int).toNat x11_3) := ⟨_, rfl⟩
                         replace H : (spec_BestBreaking.l1 kj26 l1 t153 y171 y172 x10_2 (wrap64 (x11_3 + 1)) a0_0 a0_1 a0_2) = some (r1, r2, r3) := by first | (rw [hy172]; with_reducible exact H) | (have H2_ := (Option.bind_some _ _).symm.trans H; rw [hy172]; with_reducible exact H2_) | (have H2_ := (Option.bind_some _ _).symm.trans H; with_reducible exact H2_) | with_reducible exact H | (rw [hy172]; exact H) | exact H
                         have Ny172 := Aside0.mk hy172
                         clear hy172
                         have H' := Aside0.mk H
                         clear H
                         try go_wp2
                         have n0_ := Aside0.mk (Kd.R_drew HO_7.out)
                         have n1_ := Aside0.mk (Kd.R_drew HO_8.out)
                         have n2_ := Aside0.mk (Kd.R_drew HO_9.out)
                         have n3_ := Aside0.mk (blk_drew BK150.out)
                         have n4_ := Aside0.mk (below_drew1 HB.out)
                         clear HO_7
                         clear HO_8
                         clear HO_9
                         clear BK150
                         clear HB
                         have HO_7 := n0_
                         have HO_8 := n1_
                         have HO_9 := n2_
                         have BK150 := n3_
                         have HB := n4_
                         clear n0_ n1_ n2_ n3_ n4_
                         obtain ⟨i066, hi066, _, hsz66, _⟩ := info_parts info3
                         obtain ⟨A66, hcut66, hA66, hC66⟩ := print_mid_of (P := Try.prog) (Value.int .i64) 0 24 3 .i64 .i64 Try.underlying24 hi066 hsz66 A1 c1 l1 x10_2 (ji44) (of_decide_eq_true zp1) zp28 (of_decide_eq_true zp1) HC1.out
                         have HR164 := Aside0.mk (Kd.C_of_reads (h1 := fun _ => rfl) (hA66 _ (Kd.reads_of_C HR1.out)))
                         have HC164 := Aside0.mk hC66
                         clear hA66 hC66 hi066 hsz66
                         refine start_ (n := 9) (S := fun w' => w'.cell? ⟨gb150, 0, none⟩ = some (.int .i64 a0_0) ∧ w'.cell? ⟨gb150, 1, none⟩ = some (.int .i64 a0_1) ∧ w'.cell? ⟨gb150, 2, none⟩ = some (.int .i64 a0_2)) (ds := []) #[false, false, false, false, false, false, false, false, false] (by kernel_rfl) rfl rfl ⟨(blk_cell BK150.out 0).trans rfl, (blk_cell BK150.out 1).trans rfl, (blk_cell BK150.out 2).trans rfl⟩ (fun hHeld => ?_); refine with_tabW spec_BestBreaking.tab13 spec_BestBreaking.bits13 (fun HT_ HW_ => ?_)
                         generalize wc.drew = w65 at HO_7 HO_8 HO_9 BK150 HB HR164 hHeld ⊢
                         refine pure_ (i := 1) (N := some 68) (v := ?_) (a' := ?_) #[false, true, false, false, false, false, false, false, false] rfl rfl (any_of HT_.out (by kernel_rfl)) (fun _ _ _ h => h) (Or.inl ⟨by rfl, ?_⟩) ?_ ?_
                         rotate_left
                         ·intro w'
                          go_simp
                          with_reducible rfl
                         rotate_left
                         ·simp only [Act.put, List.setIfInBounds_toArray, List.set_cons_zero, List.set_cons_succ, i64_w, i32_w]
                          rfl
                         refine pure_ (i := 2) (N := some 69) (v := ?_) (a' := ?_) #[false, true, true, false, false, false, false, false, false] rfl rfl (any_of HT_.out (by kernel_rfl)) (fun _ _ _ h => h) (Or.inl ⟨by rfl, ?_⟩) ?_ ?_
                         rotate_left
                         ·intro w'
                          go_simp
                          with_reducible rfl
                         rotate_left
                         ·simp only [Act.put, List.setIfInBounds_toArray, List.set_cons_zero, List.set_cons_succ, i64_w, i32_w]
                          rfl
                         refine pure_ (i := 3) (N := some 70) (v := ?_) (a' := ?_) #[false, true, true, true, false, false, false, false, false] rfl rfl (any_of HT_.out (by kernel_rfl)) (fun _ _ _ h => h) (Or.inl ⟨by rfl, ?_⟩) ?_ ?_
                         rotate_left
                         ·intro w'
                          go_simp
                          with_reducible rfl
                         rotate_left
                         ·simp only [Act.put, List.setIfInBounds_toArray, List.set_cons_zero, List.set_cons_succ, i64_w, i32_w]
                          rfl
                         refine pure_ (i := 4) (N := some 71) (v := ?_) (a' := ?_) #[false, true, true, true, true, false, false, false, false] rfl rfl (any_of HT_.out (by kernel_rfl)) (fun _ _ _ h => h) (Or.inl ⟨by rfl, ?_⟩) ?_ ?_
                         rotate_left
                         ·intro w'
                          go_simp
                          with_reducible rfl
                         rotate_left
                         ·simp only [Act.put, List.setIfInBounds_toArray, List.set_cons_zero, List.set_cons_succ, i64_w, i32_w]
                          rfl
                         refine pure_ (i := 5) (N := some 72) (v := ?_) (a' := ?_) #[false, true, true, true, true, true, false, false, false] rfl rfl (any_of HT_.out (by kernel_rfl)) (fun _ _ _ h => h) (Or.inl ⟨by rfl, ?_⟩) ?_ ?_
                         rotate_left
                         ·intro w'
                          go_simp
                          with_reducible rfl
                         rotate_left
                         ·simp only [Act.put, List.setIfInBounds_toArray, List.set_cons_zero, List.set_cons_succ, i64_w, i32_w]
                          rfl
                         refine pure_ (i := 6) (N := some 73) (v := ?_) (a' := ?_) #[false, true, true, true, true, true, true, false, false] rfl rfl (any_of HT_.out (by kernel_rfl)) (fun _ _ _ h => h) (Or.inl ⟨by rfl, ?_⟩) ?_ ?_
                         rotate_left
                         ·intro w'
                          go_simp
                          with_reducible rfl
                         rotate_left
                         ·simp only [Act.put, List.setIfInBounds_toArray, List.set_cons_zero, List.set_cons_succ, i64_w, i32_w]
                          rfl
                         refine take_ (i := 0) (N := some 67) (v := ?_) (a' := ?_) #[true, true, true, true, true, true, true, false, false] rfl rfl (take_ofW HT_.out HW_.out (by kernel_rfl)) (fun _ _ _ h => h) (Or.inl ⟨by rfl, ?_⟩) hHeld ?_ ?_
                         rotate_left
                         ·rintro w' ⟨s0, s1, s2⟩
                          go_simp
                          with_reducible rfl
                         rotate_left
                         ·simp only [Act.put, List.setIfInBounds_toArray, List.set_cons_zero, List.set_cons_succ, i64_w, i32_w]
                          rfl
                         refine one_ (i := 7) (N := some 74) #[true, true, true, true, true, true, true, true, false] rfl rfl (one_of HT_.out (by kernel_rfl)) (by decide) (fun K hK => ?_)
                         refine goes_ Try.func53 (by kernel_rfl) rfl #[.agg #[.int .i64 a0_0, .int .i64 a0_1, .int .i64 a0_2], .slice A66 ((l1.take ((ji44) : Int).toNat).drop (x10_2 : Int).toNat).length (c1 - x10_2.toNat)] (by rfl) rfl rfl zp19 ?_
                         with_reducible refine (spec_l4Rise.calls kj26 a0_0 a0_1 a0_2 _ _ ((l1.take ((ji44) : Int).toNat).drop (x10_2 : Int).toNat) t165 _ ?side1 ?side2 A42.out).mono ?_
                         (case side1 => repeat (first | exact (Kd.C_below HR164.out HB.out) | (with_reducible refine Kd.C_alloc ?_ _) | (with_reducible refine Kd.C_drewN ?_ _) | (with_reducible refine Kd.C_drew ?_)))
                         (case side2 => exact HC164.out)
                         rintro e w67 ⟨rfl, hb⟩
                         refine ⟨_, rfl, ?_⟩
                         have n0_ := Aside0.mk (Kd.R_below zp12 hb)
                         have n1_ := Aside0.mk (Kd.R_below zp8 hb)
                         have n2_ := Aside0.mk (Kd.R_below zp11 hb)
                         have n3_ := Aside0.mk (blk_below (g := gb150) (o := .cells #[.int .i64 a0_0, .int .i64 a0_1, .int .i64 a0_2] 27 (0, 0)) zp9 hb)
                         have n4_ := Aside0.mk (below_step zp3 hb)
                         clear HO_7
                         clear HO_8
                         clear HO_9
                         clear BK150
                         clear HB
                         have HO_7 := n0_
                         have HO_8 := n1_
                         have HO_9 := n2_
                         have BK150 := n3_
                         have HB := n4_
                         clear n0_ n1_ n2_ n3_ n4_
                         (try clear hb)
                         (try clear hb2)
                         (try clear hk)
                         (try clear hi)
                         refine hK.out _ _ ⟨(blk_cell BK150.out 0).trans rfl, (blk_cell BK150.out 1).trans rfl, (blk_cell BK150.out 2).trans rfl⟩ (fun hHeld => ?_)
                         clear hK K
                         refine norm_ (a' := ?_) ?_ ?_
                         rotate_left
                         ·show Act.put _ (some 74) _ = _
                          simp only [Act.put, List.setIfInBounds_toArray, List.set_cons_zero, List.set_cons_succ, i64_w, i32_w]
                          rfl
                         refine pure_ (i := 8) (N := some 12) (v := ?_) (a' := ?_) #[true, true, true, true, true, true, true, true, true] rfl rfl (any_of HT_.out (by kernel_rfl)) (fun _ _ _ h => h) (Or.inl ⟨by rfl, ?_⟩) ?_ ?_
                         rotate_left
                         ·intro w'
                          go_simp
                          with_reducible rfl
                         rotate_left
                         ·simp only [Act.put, List.setIfInBounds_toArray, List.set_cons_zero, List.set_cons_succ, i64_w, i32_w]
                          rfl
                         refine done_ (done_of HT_.out (by kernel_rfl)) ?_
                         obtain ⟨Ao68, co68, eo68⟩ := Kd.R_slice HO_8.out
                         subst eo68
                         have p166 : 0 ≤ ((ji44) : Int) := of_decide_eq_true zp1
                         have q166 : (ji44) < (x8_3.length : Int) := of_decide_eq_true zp1
                         obtain ⟨ad166, e166, hx166_0⟩ := Kd.at_int (Kd.R_reads' HO_8.out).2.2 (ji44) p166 q166
                         cases e166
                         replace p166 := eq_true p166
                         replace q166 := eq_true q166
                         obtain ⟨Ao69, co69, eo69⟩ := Kd.R_slice HO_9.out
                         subst eo69
                         have p167 : 0 ≤ (x10_2 : Int) := of_decide_eq_true zp1
                         have q167 : x10_2 < (x9_3.length : Int) := of_decide_eq_true zp1
                         obtain ⟨ad167, e167, hx167_0⟩ := Kd.at_int (Kd.R_reads' HO_9.out).2.2 x10_2 p167 q167
                         cases e167
                         replace p167 := eq_true p167
                         replace q167 := eq_true q167
                         have p170 : 0 ≤ (x10_2 : Int) := of_decide_eq_true zp1
                         have q170 : x10_2 < (x8_3.length : Int) := of_decide_eq_true zp1
                         obtain ⟨ad170, e170, hx170_0⟩ := Kd.at_int (Kd.R_reads' HO_8.out).2.2 x10_2 p170 q170
                         obtain rfl : ad166 = ad170 := (by injection e170)
                         replace p170 := eq_true p170
                         replace q170 := eq_true q170
                         have p63 : 0 ≤ (x10_2 : Int) := of_decide_eq_true zp1
                         have q63 : (x10_2 : Int) < ((x8_3.length : Int) : Int) := of_decide_eq_true zp1
                         obtain ⟨go63, co63, eo63, gb63, gl63, cl63, HG63⟩ := Kd.R_form HO_8.out zp38
                         (first | cases eo63 | (injection eo63 with ea_ en_ ec_; (first | subst ea_ | (injection ea_ with ea_; subst ea_)); subst ec_; clear en_))
                         have GB63 := Aside0.mk gb63
                         have GG63 := Aside0.mk HG63
                         clear gb63 gl63 HG63
                         (first | simp only [add_plain] at hx166_0 | skip)
                         (first | simp only [add_plain] at hx170_0 | skip)
                         obtain ⟨hx63_0, hf63_0⟩ := Kd.R_celln 0 HO_8.out (x10_2 : Int) p63 q63
                         replace p63 := eq_true p63
                         replace q63 := eq_true q63
                         obtain ⟨hy70_, hz70_⟩ := Kd.R_celln 0 HO_8.out (x10_2 : Int) (of_decide_eq_true zp1) (of_decide_eq_true zp1)
                         have HP70 := Kd.R_putg HO_8.out (x10_2 : Int) (wrap64 ((rd x8_3 (ji44))))
                         try go_wp2_with (first | ((with_reducible refine gate_store (t := 3) (p := 107) rfl ?_); refine store_event (t := 3) (p := 107) (v := ?vo_w71) (w1 := (w67.setCell ⟨go63, (x10_2 : Int).toNat, none⟩ (.int .i64 (wrap64 ((rd x8_3 (ji44))))))) ?hg ?ho ?hn ?hr ?_; (case ho => rfl); (case hg => rfl); (case hn => rfl); (case hr => first | (go_simp; done) | (go_simp; rfl)); intro w71 hw; have hg : w67.grownBy w71 (some go63) := (by rw [hw]; exact HP70.2); have hp_ : Kd.R (Kd.int .i64) 3 w71 w.heap.size (fun k_ => some k_ ≠ (v154 : Value).ownBlock ∧ some k_ ≠ (.slice (some ad167) x9_3.length co69 : Value).ownBlock) (.slice (some ⟨go63, 0, none⟩) x8_3.length co68) y171 := (by rw [hw, Ny171.out]; exact HP70.1); clear HP70; have n0_ := Aside0.mk (Kd.R_after (v := (.slice (some ⟨go63, 0, none⟩) x8_3.length co68)) (v1 := (.slice (some ⟨go63, 0, none⟩) x8_3.length co68)) (ok := (fun k_ => some k_ ≠ (.slice (some ad167) x9_3.length co69 : Value).ownBlock)) zp15 hg (.inl rfl)); have n1_ := Aside0.mk (hp_); have n2_ := Aside0.mk (Kd.R_after (v := (.slice (some ⟨go63, 0, none⟩) x8_3.length co68)) (v1 := (.slice (some ⟨go63, 0, none⟩) x8_3.length co68)) (ok := (fun k_ => some k_ ≠ (v154 : Value).ownBlock)) zp11 hg (.inl rfl)); have n3_ := Aside0.mk (blk_grown (g := gb150) (o := .cells #[.int .i64 a0_0, .int .i64 a0_1, .int .i64 a0_2] 27 (0, 0)) zp9 hg (Kd.R_ne HO_8.out BK150.out (by decide))); have n4_ := Aside0.mk ((by rw [hw]; exact below_set (HB.out) GB63.out : Below w.heap.size w w71)); clear HO_7; clear HO_8; clear HO_9; clear BK150; clear HB; have HO_7 := n0_; have HO_8 := n1_; have HO_9 := n2_; have BK150 := n3_; have HB := n4_; clear n0_ n1_ n2_ n3_ n4_; clear hg hw hp_; have p64 : 0 ≤ (x10_2 : Int) := of_decide_eq_true zp1; have q64 : (x10_2 : Int) < ((x9_3.length : Int) : Int) := of_decide_eq_true zp1; obtain ⟨go64, co64, eo64, gb64, gl64, cl64, HG64⟩ := Kd.R_form HO_9.out zp38; (first | cases eo64 | (injection eo64 with ea_ en_ ec_; (first | subst ea_ | (injection ea_ with ea_; subst ea_)); subst ec_; clear en_)); have GB64 := Aside0.mk gb64; have GG64 := Aside0.mk HG64; clear gb64 gl64 HG64; (first | simp only [add_plain] at hx167_0 | skip); obtain ⟨hx64_0, hf64_0⟩ := Kd.R_celln 0 HO_9.out (x10_2 : Int) p64 q64; replace p64 := eq_true p64; replace q64 := eq_true q64; obtain ⟨hy72_, hz72_⟩ := Kd.R_celln 0 HO_9.out (x10_2 : Int) (of_decide_eq_true zp1) (of_decide_eq_true zp1); have HP72 := Kd.R_putg HO_9.out (x10_2 : Int) x11_3) | ((with_reducible refine gate_store (t := 3) (p := 111) rfl ?_); refine store_event (t := 3) (p := 111) (v := ?vo_w73) (w1 := (w71.setCell ⟨go64, (x10_2 : Int).toNat, none⟩ (.int .i64 x11_3))) ?hg ?ho ?hn ?hr ?_; (case ho => rfl); (case hg => rfl); (case hn => rfl); (case hr => first | (go_simp; done) | (go_simp; rfl)); intro w73 hw; have hg : w71.grownBy w73 (some go64) := (by rw [hw]; exact HP72.2); have hp_ : Kd.R (Kd.int .i64) 3 w73 w.heap.size (fun k_ => some k_ ≠ (v154 : Value).ownBlock ∧ some k_ ≠ (.slice (some ⟨go63, 0, none⟩) x8_3.length co68 : Value).ownBlock) (.slice (some ⟨go64, 0, none⟩) x9_3.length co69) y172 := (by rw [hw, Ny172.out]; exact HP72.1); clear HP72; have n0_ := Aside0.mk (Kd.R_after (v := (.slice (some ⟨go64, 0, none⟩) x9_3.length co69)) (v1 := (.slice (some ⟨go64, 0, none⟩) x9_3.length co69)) (ok := (fun k_ => some k_ ≠ (.slice (some ⟨go63, 0, none⟩) x8_3.length co68 : Value).ownBlock)) zp15 hg (.inl rfl)); have n1_ := Aside0.mk (Kd.R_after (v := (.slice (some ⟨go64, 0, none⟩) x9_3.length co69)) (v1 := (.slice (some ⟨go64, 0, none⟩) x9_3.length co69)) (ok := (fun k_ => some k_ ≠ (v154 : Value).ownBlock)) zp8 hg (.inl rfl)); have n2_ := Aside0.mk (hp_); have n3_ := Aside0.mk (blk_grown (g := gb150) (o := .cells #[.int .i64 a0_0, .int .i64 a0_1, .int .i64 a0_2] 27 (0, 0)) zp9 hg (Kd.R_ne HO_9.out BK150.out (by decide))); have n4_ := Aside0.mk ((by rw [hw]; exact below_set (HB.out) GB64.out : Below w.heap.size w w73)); clear HO_7; clear HO_8; clear HO_9; clear BK150; clear HB; have HO_7 := n0_; have HO_8 := n1_; have HO_9 := n2_; have BK150 := n3_; have HB := n4_; clear n0_ n1_ n2_ n3_ n4_; clear hg hw hp_))
                         go_roundg kj26
                         case measure => have := HJ2.out; have := HK2.out; have := HK3.out; have := HJ26.out; omega
                         case rel => exact ⟨(y171), (y172), (wrap64 (x11_3 + 1)), zp6, H', ⟨by have := HJ2.out; have := HK2.out; have := HK3.out; have := HJ26.out; omega⟩, ⟨by (with_reducible repeat (first | apply Kd.R_alloc | apply Kd.R_drewN | apply Kd.R_drew)); exact HO_7.out⟩, ⟨by (with_reducible repeat (first | apply Kd.R_alloc | apply Kd.R_drewN | apply Kd.R_drew)); exact HO_8.out⟩, ⟨by (with_reducible repeat (first | apply Kd.R_alloc | apply Kd.R_drewN | apply Kd.R_drew)); exact HO_9.out⟩, ⟨by (with_reducible repeat (first | refine blk_drewN ?_ _ | refine blk_drew ?_ | refine blk_alloc ?_ _)); exact BK150.out⟩, ⟨by repeat (first | (with_reducible first | exact HB.out | apply below_alloc | apply pw_below_drewN | apply below_drew1 | refine below_set ?_ GE150.out) | exact HB.out)⟩⟩
                        ·rw [if_neg c62] at H
                         have c62b0 : decide ((wrap64 ((rd x8_3 (ji44)))) < (rd x8_3 x10_2)) = false := decide_eq_false c62
                         clear c62
                         have H' := Aside0.mk H
                         clear H
                         try go_wp2
                         have n0_ := Aside0.mk (Kd.R_drew HO_7.out)
                         have n1_ := Aside0.mk (Kd.R_drew HO_8.out)
                         have n2_ := Aside0.mk (Kd.R_drew HO_9.out)
                         have n3_ := Aside0.mk (blk_drew BK150.out)
                         have n4_ := Aside0.mk (below_drew1 HB.out)
                         clear HO_7
                         clear HO_8
                         clear HO_9
                         clear BK150
                         clear HB
                         have HO_7 := n0_
                         have HO_8 := n1_
                         have HO_9 := n2_
                         have BK150 := n3_
                         have HB := n4_
                         clear n0_ n1_ n2_ n3_ n4_
                         obtain ⟨i075, hi075, _, hsz75, _⟩ := info_parts info3
                         obtain ⟨A75, hcut75, hA75, hC75⟩ := print_mid_of (P := Try.prog) (Value.int .i64) 0 24 3 .i64 .i64 Try.underlying24 hi075 hsz75 A1 c1 l1 x10_2 (ji44) (of_decide_eq_true zp1) zp28 (of_decide_eq_true zp1) HC1.out
                         have HR164 := Aside0.mk (Kd.C_of_reads (h1 := fun _ => rfl) (hA75 _ (Kd.reads_of_C HR1.out)))
                         have HC164 := Aside0.mk hC75
                         clear hA75 hC75 hi075 hsz75
                         refine start_ (n := 9) (S := fun w' => w'.cell? ⟨gb150, 0, none⟩ = some (.int .i64 a0_0) ∧ w'.cell? ⟨gb150, 1, none⟩ = some (.int .i64 a0_1) ∧ w'.cell? ⟨gb150, 2, none⟩ = some (.int .i64 a0_2)) (ds := []) #[false, false, false, false, false, false, false, false, false] (by kernel_rfl) rfl rfl ⟨(blk_cell BK150.out 0).trans rfl, (blk_cell BK150.out 1).trans rfl, (blk_cell BK150.out 2).trans rfl⟩ (fun hHeld => ?_); refine with_tabW spec_BestBreaking.tab13 spec_BestBreaking.bits13 (fun HT_ HW_ => ?_)
                         generalize wc.drew = w74 at HO_7 HO_8 HO_9 BK150 HB HR164 hHeld ⊢
                         refine pure_ (i := 1) (N := some 68) (v := ?_) (a' := ?_) #[false, true, false, false, false, false, false, false, false] rfl rfl (any_of HT_.out (by kernel_rfl)) (fun _ _ _ h => h) (Or.inl ⟨by rfl, ?_⟩) ?_ ?_
                         rotate_left
                         ·intro w'
                          go_simp
                          with_reducible rfl
                         rotate_left
                         ·simp only [Act.put, List.setIfInBounds_toArray, List.set_cons_zero, List.set_cons_succ, i64_w, i32_w]
                          rfl
                         refine pure_ (i := 2) (N := some 69) (v := ?_) (a' := ?_) #[false, true, true, false, false, false, false, false, false] rfl rfl (any_of HT_.out (by kernel_rfl)) (fun _ _ _ h => h) (Or.inl ⟨by rfl, ?_⟩) ?_ ?_
                         rotate_left
                         ·intro w'
                          go_simp
                          with_reducible rfl
                         rotate_left
                         ·simp only [Act.put, List.setIfInBounds_toArray, List.set_cons_zero, List.set_cons_succ, i64_w, i32_w]
                          rfl
                         refine pure_ (i := 3) (N := some 70) (v := ?_) (a' := ?_) #[false, true, true, true, false, false, false, false, false] rfl rfl (any_of HT_.out (by kernel_rfl)) (fun _ _ _ h => h) (Or.inl ⟨by rfl, ?_⟩) ?_ ?_
                         rotate_left
                         ·intro w'
                          go_simp
                          with_reducible rfl
                         rotate_left
                         ·simp only [Act.put, List.setIfInBounds_toArray, List.set_cons_zero, List.set_cons_succ, i64_w, i32_w]
                          rfl
                         refine pure_ (i := 4) (N := some 71) (v := ?_) (a' := ?_) #[false, true, true, true, true, false, false, false, false] rfl rfl (any_of HT_.out (by kernel_rfl)) (fun _ _ _ h => h) (Or.inl ⟨by rfl, ?_⟩) ?_ ?_
                         rotate_left
                         ·intro w'
                          go_simp
                          with_reducible rfl
                         rotate_left
                         ·simp only [Act.put, List.setIfInBounds_toArray, List.set_cons_zero, List.set_cons_succ, i64_w, i32_w]
                          rfl
                         refine pure_ (i := 5) (N := some 72) (v := ?_) (a' := ?_) #[false, true, true, true, true, true, false, false, false] rfl rfl (any_of HT_.out (by kernel_rfl)) (fun _ _ _ h => h) (Or.inl ⟨by rfl, ?_⟩) ?_ ?_
                         rotate_left
                         ·intro w'
                          go_simp
                          with_reducible rfl
                         rotate_left
                         ·simp only [Act.put, List.setIfInBounds_toArray, List.set_cons_zero, List.set_cons_succ, i64_w, i32_w]
                          rfl
                         refine pure_ (i := 6) (N := some 73) (v := ?_) (a' := ?_) #[false, true, true, true, true, true, true, false, false] rfl rfl (any_of HT_.out (by kernel_rfl)) (fun _ _ _ h => h) (Or.inl ⟨by rfl, ?_⟩) ?_ ?_
                         rotate_left
                         ·intro w'
                          go_simp
                          with_reducible rfl
                         rotate_left
                         ·simp only [Act.put, List.setIfInBounds_toArray, List.set_cons_zero, List.set_cons_succ, i64_w, i32_w]
                          rfl
                         refine take_ (i := 0) (N := some 67) (v := ?_) (a' := ?_) #[true, true, true, true, true, true, true, false, false] rfl rfl (take_ofW HT_.out HW_.out (by kernel_rfl)) (fun _ _ _ h => h) (Or.inl ⟨by rfl, ?_⟩) hHeld ?_ ?_
                         rotate_left
                         ·rintro w' ⟨s0, s1, s2⟩
                          go_simp
                          with_reducible rfl
                         rotate_left
                         ·simp only [Act.put, List.setIfInBounds_toArray, List.set_cons_zero, List.set_cons_succ, i64_w, i32_w]
                          rfl
                         refine one_ (i := 7) (N := some 74) #[true, true, true, true, true, true, true, true, false] rfl rfl (one_of HT_.out (by kernel_rfl)) (by decide) (fun K hK => ?_)
                         refine goes_ Try.func53 (by kernel_rfl) rfl #[.agg #[.int .i64 a0_0, .int .i64 a0_1, .int .i64 a0_2], .slice A75 ((l1.take ((ji44) : Int).toNat).drop (x10_2 : Int).toNat).length (c1 - x10_2.toNat)] (by rfl) rfl rfl zp19 ?_
                         with_reducible refine (spec_l4Rise.calls kj26 a0_0 a0_1 a0_2 _ _ ((l1.take ((ji44) : Int).toNat).drop (x10_2 : Int).toNat) t165 _ ?side1 ?side2 A42.out).mono ?_
                         (case side1 => repeat (first | exact (Kd.C_below HR164.out HB.out) | (with_reducible refine Kd.C_alloc ?_ _) | (with_reducible refine Kd.C_drewN ?_ _) | (with_reducible refine Kd.C_drew ?_)))
                         (case side2 => exact HC164.out)
                         rintro e w76 ⟨rfl, hb⟩
                         refine ⟨_, rfl, ?_⟩
                         have n0_ := Aside0.mk (Kd.R_below zp12 hb)
                         have n1_ := Aside0.mk (Kd.R_below zp8 hb)
                         have n2_ := Aside0.mk (Kd.R_below zp11 hb)
                         have n3_ := Aside0.mk (blk_below (g := gb150) (o := .cells #[.int .i64 a0_0, .int .i64 a0_1, .int .i64 a0_2] 27 (0, 0)) zp9 hb)
                         have n4_ := Aside0.mk (below_step zp3 hb)
                         clear HO_7
                         clear HO_8
                         clear HO_9
                         clear BK150
                         clear HB
                         have HO_7 := n0_
                         have HO_8 := n1_
                         have HO_9 := n2_
                         have BK150 := n3_
                         have HB := n4_
                         clear n0_ n1_ n2_ n3_ n4_
                         (try clear hb)
                         (try clear hb2)
                         (try clear hk)
                         (try clear hi)
                         refine hK.out _ _ ⟨(blk_cell BK150.out 0).trans rfl, (blk_cell BK150.out 1).trans rfl, (blk_cell BK150.out 2).trans rfl⟩ (fun hHeld => ?_)
                         clear hK K
                         refine norm_ (a' := ?_) ?_ ?_
                         rotate_left
                         ·show Act.put _ (some 74) _ = _
                          simp only [Act.put, List.setIfInBounds_toArray, List.set_cons_zero, List.set_cons_succ, i64_w, i32_w]
                          rfl
                         refine pure_ (i := 8) (N := some 12) (v := ?_) (a' := ?_) #[true, true, true, true, true, true, true, true, true] rfl rfl (any_of HT_.out (by kernel_rfl)) (fun _ _ _ h => h) (Or.inl ⟨by rfl, ?_⟩) ?_ ?_
                         rotate_left
                         ·intro w'
                          go_simp
                          with_reducible rfl
                         rotate_left
                         ·simp only [Act.put, List.setIfInBounds_toArray, List.set_cons_zero, List.set_cons_succ, i64_w, i32_w]
                          rfl
                         refine done_ (done_of HT_.out (by kernel_rfl)) ?_
                         obtain ⟨Ao77, co77, eo77⟩ := Kd.R_slice HO_8.out
                         subst eo77
                         have p166 : 0 ≤ ((ji44) : Int) := of_decide_eq_true zp1
                         have q166 : (ji44) < (x8_3.length : Int) := of_decide_eq_true zp1
                         obtain ⟨ad166, e166, hx166_0⟩ := Kd.at_int (Kd.R_reads' HO_8.out).2.2 (ji44) p166 q166
                         cases e166
                         replace p166 := eq_true p166
                         replace q166 := eq_true q166
                         obtain ⟨Ao78, co78, eo78⟩ := Kd.R_slice HO_9.out
                         subst eo78
                         have p167 : 0 ≤ (x10_2 : Int) := of_decide_eq_true zp1
                         have q167 : x10_2 < (x9_3.length : Int) := of_decide_eq_true zp1
                         obtain ⟨ad167, e167, hx167_0⟩ := Kd.at_int (Kd.R_reads' HO_9.out).2.2 x10_2 p167 q167
                         cases e167
                         replace p167 := eq_true p167
                         replace q167 := eq_true q167
                         have p170 : 0 ≤ (x10_2 : Int) := of_decide_eq_true zp1
                         have q170 : x10_2 < (x8_3.length : Int) := of_decide_eq_true zp1
                         obtain ⟨ad170, e170, hx170_0⟩ := Kd.at_int (Kd.R_reads' HO_8.out).2.2 x10_2 p170 q170
                         obtain rfl : ad166 = ad170 := (by injection e170)
                         replace p170 := eq_true p170
                         replace q170 := eq_true q170
                         try go_wp2
                         go_roundg kj26
                         case measure => have := HJ2.out; have := HK2.out; have := HK3.out; have := HJ26.out; omega
                         case rel => exact ⟨(x8_3), (x9_3), (wrap64 (x11_3 + 1)), zp6, H', ⟨by have := HJ2.out; have := HK2.out; have := HK3.out; have := HJ26.out; omega⟩, ⟨by (with_reducible repeat (first | apply Kd.R_alloc | apply Kd.R_drewN | apply Kd.R_drew)); exact HO_7.out⟩, ⟨by (with_reducible repeat (first | apply Kd.R_alloc | apply Kd.R_drewN | apply Kd.R_drew)); exact HO_8.out⟩, ⟨by (with_reducible repeat (first | apply Kd.R_alloc | apply Kd.R_drewN | apply Kd.R_drew)); exact HO_9.out⟩, ⟨by (with_reducible repeat (first | refine blk_drewN ?_ _ | refine blk_drew ?_ | refine blk_alloc ?_ _)); exact BK150.out⟩, ⟨by repeat (first | (with_reducible first | exact HB.out | apply below_alloc | apply pw_below_drewN | apply below_drew1 | refine below_set ?_ GE150.out) | exact HB.out)⟩⟩
                       ·rw [if_neg c61] at H
                        exact absurd H zp36
                     ·rw [if_neg c47] at H
                      exact absurd H zp36
                    ·rw [if_neg c46] at H
                     exact absurd H zp36
                   ·rw [if_neg c45] at H
                    exact absurd H zp36
                  ·rw [if_neg c43] at H
                   have c43b0 : ((wrap64 (x10_2 + x11_3)) == (l1.length : Int)) = false := beq_eq_false_iff_ne.mpr c43
                   have c43b1 : ((wrap64 (x10_2 + x11_3)) != (l1.length : Int)) = true := bne_iff_ne.mpr c43
                   obtain ⟨ji79, hji79⟩ : ∃ j_ : Int, (wrap64 (x10_2 + x11_3)) = j_ := ⟨_, rfl⟩
                   replace H : (if 0 ≤ (ji79) then (if (ji79) < (x8_3.length : Int) then (if x10_2 < (x9_3.length : Int) then (if (rd x9_3 x10_2) = 0 then (if x10_2 < (x8_3.length : Int) then (spec_BestBreaking.l1 kj26 l1 t153 (x8_3.set (x10_2 : Int).toNat (wrap64 ((wrap64 (t165 * t165)) + (rd x8_3 (ji79))))) (x9_3.set (x10_2 : Int).toNat x11_3) x10_2 (wrap64 (x11_3 + 1)) a0_0 a0_1 a0_2) else (none)) else (if x10_2 < (x8_3.length : Int) then (if (wrap64 ((wrap64 (t165 * t165)) + (rd x8_3 (ji79)))) < (rd x8_3 x10_2) then (spec_BestBreaking.l1 kj26 l1 t153 (x8_3.set (x10_2 : Int).toNat (wrap64 ((wrap64 (t165 * t165)) + (rd x8_3 (ji79))))) (x9_3.set (x10_2 : Int).toNat x11_3) x10_2 (wrap64 (x11_3 + 1)) a0_0 a0_1 a0_2) else (spec_BestBreaking.l1 kj26 l1 t153 x8_3 x9_3 x10_2 (wrap64 (x11_3 + 1)) a0_0 a0_1 a0_2)) else (none))) else (none)) else (none)) else (none)) = some (r1, r2, r3) := by first | (rw [hji79] at H; exact H) | (simp only [hji79] at H ⊢; exact H)
                   (try rw [hji79] at c26b0)
                   (try rw [hji79] at c40b0)
                   (try rw [hji79] at c40b1)
                   (try rw [hji79] at c40)
                   (try rw [hji79] at c41b0)
                   (try rw [hji79] at c41b1)
                   (try rw [hji79] at c41)
                   (try rw [hji79] at c43b0)
                   (try rw [hji79] at c43b1)
                   (try rw [hji79] at A42)
                   have hji79w : (IntKind.i64.wrap (x10_2 + x11_3)) = ji79 := (i64_w _).trans hji79
                   by_cases c80 : 0 ≤ (ji79)
                   ·rw [if_pos c80] at H
                    have c80b0 : decide (0 ≤ (ji79)) = true := decide_eq_true c80
                    clear c80
                    by_cases c81 : (ji79) < (x8_3.length : Int)
                    ·rw [if_pos c81] at H
                     have c81b0 : decide ((ji79) < (x8_3.length : Int)) = true := decide_eq_true c81
                     clear c81
                     by_cases c82 : x10_2 < (x9_3.length : Int)
                     ·rw [if_pos c82] at H
                      have c82b0 : decide (x10_2 < (x9_3.length : Int)) = true := decide_eq_true c82
                      clear c82
                      by_cases c83 : (rd x9_3 x10_2) = 0
                      ·rw [if_pos c83] at H
                       have c83b0 : ((rd x9_3 x10_2) == 0) = true := beq_iff_eq.mpr c83
                       have c83b1 : ((rd x9_3 x10_2) != 0) = false := bne_eq_false_iff_eq.mpr c83
                       clear c83
                       by_cases c84 : x10_2 < (x8_3.length : Int)
                       ·rw [if_pos c84] at H
                        have c84b0 : decide (x10_2 < (x8_3.length : Int)) = true := decide_eq_true c84
                        clear c84
                        obtain ⟨y175, hy175⟩ : ∃ y_ : List Int, y_ = (x8_3.set (x10_2 : Int).toNat (wrap64 ((wrap64 (t165 * t165)) + (rd x8_3 (ji79))))) := ⟨_, rfl⟩
                        replace H : (spec_BestBreaking.l1 kj26 l1 t153 y175 (x9_3.set (x10_2 : Int).toNat x11_3) x10_2 (wrap64 (x11_3 + 1)) a0_0 a0_1 a0_2) = some (r1, r2, r3) := by first | (rw [hy175]; with_reducible exact H) | (have H2_ := (Option.bind_some _ _).symm.trans H; rw [hy175]; with_reducible exact H2_) | (have H2_ := (Option.bind_some _ _).symm.trans H; with_reducible exact H2_) | with_reducible exact H | (rw [hy175]; exact H) | exact H
                        have Ny175 := Aside0.mk hy175
                        clear hy175
                        obtain ⟨y176, hy176⟩ : ∃ y_ : List Int, y_ = (x9_3.set (x10_2 : Int).toNat x11_3) := ⟨_, rfl⟩
                        replace H : (spec_BestBreaking.l1 kj26 l1 t153 y175 y176 x10_2 (wrap64 (x11_3 + 1)) a0_0 a0_1 a0_2) = some (r1, r2, r3) := by first | (rw [hy176]; with_reducible exact H) | (have H2_ := (Option.bind_some _ _).symm.trans H; rw [hy176]; with_reducible exact H2_) | (have H2_ := (Option.bind_some _ _).symm.trans H; with_reducible exact H2_) | with_reducible exact H | (rw [hy176]; exact H) | exact H
                        have Ny176 := Aside0.mk hy176
                        clear hy176
                        have H' := Aside0.mk H
                        clear H
                        try go_wp2
                        have n0_ := Aside0.mk (Kd.R_drew HO_7.out)
                        have n1_ := Aside0.mk (Kd.R_drew HO_8.out)
                        have n2_ := Aside0.mk (Kd.R_drew HO_9.out)
                        have n3_ := Aside0.mk (blk_drew BK150.out)
                        have n4_ := Aside0.mk (below_drew1 HB.out)
                        clear HO_7
                        clear HO_8
                        clear HO_9
                        clear BK150
                        clear HB
                        have HO_7 := n0_
                        have HO_8 := n1_
                        have HO_9 := n2_
                        have BK150 := n3_
                        have HB := n4_
                        clear n0_ n1_ n2_ n3_ n4_
                        obtain ⟨i088, hi088, _, hsz88, _⟩ := info_parts info3
                        obtain ⟨A88, hcut88, hA88, hC88⟩ := print_mid_of (P := Try.prog) (Value.int .i64) 0 24 3 .i64 .i64 Try.underlying24 hi088 hsz88 A1 c1 l1 x10_2 (ji79) (of_decide_eq_true zp1) zp28 (of_decide_eq_true zp1) HC1.out
                        have HR164 := Aside0.mk (Kd.C_of_reads (h1 := fun _ => rfl) (hA88 _ (Kd.reads_of_C HR1.out)))
                        have HC164 := Aside0.mk hC88
                        clear hA88 hC88 hi088 hsz88
                        refine start_ (n := 9) (S := fun w' => w'.cell? ⟨gb150, 0, none⟩ = some (.int .i64 a0_0) ∧ w'.cell? ⟨gb150, 1, none⟩ = some (.int .i64 a0_1) ∧ w'.cell? ⟨gb150, 2, none⟩ = some (.int .i64 a0_2)) (ds := []) #[false, false, false, false, false, false, false, false, false] (by kernel_rfl) rfl rfl ⟨(blk_cell BK150.out 0).trans rfl, (blk_cell BK150.out 1).trans rfl, (blk_cell BK150.out 2).trans rfl⟩ (fun hHeld => ?_); refine with_tabW spec_BestBreaking.tab13 spec_BestBreaking.bits13 (fun HT_ HW_ => ?_)
                        generalize wc.drew = w87 at HO_7 HO_8 HO_9 BK150 HB HR164 hHeld ⊢
                        refine pure_ (i := 1) (N := some 68) (v := ?_) (a' := ?_) #[false, true, false, false, false, false, false, false, false] rfl rfl (any_of HT_.out (by kernel_rfl)) (fun _ _ _ h => h) (Or.inl ⟨by rfl, ?_⟩) ?_ ?_
                        rotate_left
                        ·intro w'
                         go_simp
                         with_reducible rfl
                        rotate_left
                        ·simp only [Act.put, List.setIfInBounds_toArray, List.set_cons_zero, List.set_cons_succ, i64_w, i32_w]
                         rfl
                        refine pure_ (i := 2) (N := some 69) (v := ?_) (a' := ?_) #[false, true, true, false, false, false, false, false, false] rfl rfl (any_of HT_.out (by kernel_rfl)) (fun _ _ _ h => h) (Or.inl ⟨by rfl, ?_⟩) ?_ ?_
                        rotate_left
                        ·intro w'
                         go_simp
                         with_reducible rfl
                        rotate_left
                        ·simp only [Act.put, List.setIfInBounds_toArray, List.set_cons_zero, List.set_cons_succ, i64_w, i32_w]
                         rfl
                        refine pure_ (i := 3) (N := some 70) (v := ?_) (a' := ?_) #[false, true, true, true, false, false, false, false, false] rfl rfl (any_of HT_.out (by kernel_rfl)) (fun _ _ _ h => h) (Or.inl ⟨by rfl, ?_⟩) ?_ ?_
                        rotate_left
                        ·intro w'
                         go_simp
                         with_reducible rfl
                        rotate_left
                        ·simp only [Act.put, List.setIfInBounds_toArray, List.set_cons_zero, List.set_cons_succ, i64_w, i32_w]
                         rfl
                        refine pure_ (i := 4) (N := some 71) (v := ?_) (a' := ?_) #[false, true, true, true, true, false, false, false, false] rfl rfl (any_of HT_.out (by kernel_rfl)) (fun _ _ _ h => h) (Or.inl ⟨by rfl, ?_⟩) ?_ ?_
                        rotate_left
                        ·intro w'
                         go_simp
                         with_reducible rfl
                        rotate_left
                        ·simp only [Act.put, List.setIfInBounds_toArray, List.set_cons_zero, List.set_cons_succ, i64_w, i32_w]
                         rfl
                        refine pure_ (i := 5) (N := some 72) (v := ?_) (a' := ?_) #[false, true, true, true, true, true, false, false, false] rfl rfl (any_of HT_.out (by kernel_rfl)) (fun _ _ _ h => h) (Or.inl ⟨by rfl, ?_⟩) ?_ ?_
                        rotate_left
                        ·intro w'
                         go_simp
                         with_reducible rfl
                        rotate_left
                        ·simp only [Act.put, List.setIfInBounds_toArray, List.set_cons_zero, List.set_cons_succ, i64_w, i32_w]
                         rfl
                        refine pure_ (i := 6) (N := some 73) (v := ?_) (a' := ?_) #[false, true, true, true, true, true, true, false, false] rfl rfl (any_of HT_.out (by kernel_rfl)) (fun _ _ _ h => h) (Or.inl ⟨by rfl, ?_⟩) ?_ ?_
                        rotate_left
                        ·intro w'
                         go_simp
                         with_reducible rfl
                        rotate_left
                        ·simp only [Act.put, List.setIfInBounds_toArray, List.set_cons_zero, List.set_cons_succ, i64_w, i32_w]
                         rfl
                        refine take_ (i := 0) (N := some 67) (v := ?_) (a' := ?_) #[true, true, true, true, true, true, true, false, false] rfl rfl (take_ofW HT_.out HW_.out (by kernel_rfl)) (fun _ _ _ h => h) (Or.inl ⟨by rfl, ?_⟩) hHeld ?_ ?_
                        rotate_left
                        ·rintro w' ⟨s0, s1, s2⟩
                         go_simp
                         with_reducible rfl
                        rotate_left
                        ·simp only [Act.put, List.setIfInBounds_toArray, List.set_cons_zero, List.set_cons_succ, i64_w, i32_w]
                         rfl
                        refine one_ (i := 7) (N := some 74) #[true, true, true, true, true, true, true, true, false] rfl rfl (one_of HT_.out (by kernel_rfl)) (by decide) (fun K hK => ?_)
                        refine goes_ Try.func53 (by kernel_rfl) rfl #[.agg #[.int .i64 a0_0, .int .i64 a0_1, .int .i64 a0_2], .slice A88 ((l1.take ((ji79) : Int).toNat).drop (x10_2 : Int).toNat).length (c1 - x10_2.toNat)] (by rfl) rfl rfl zp18 ?_
                        with_reducible refine (spec_l4Rise.calls kj26 a0_0 a0_1 a0_2 _ _ ((l1.take ((ji79) : Int).toNat).drop (x10_2 : Int).toNat) t165 _ ?side1 ?side2 A42.out).mono ?_
                        (case side1 => repeat (first | exact (Kd.C_below HR164.out HB.out) | (with_reducible refine Kd.C_alloc ?_ _) | (with_reducible refine Kd.C_drewN ?_ _) | (with_reducible refine Kd.C_drew ?_)))
                        (case side2 => exact HC164.out)
                        rintro e w89 ⟨rfl, hb⟩
                        refine ⟨_, rfl, ?_⟩
                        have n0_ := Aside0.mk (Kd.R_below zp12 hb)
                        have n1_ := Aside0.mk (Kd.R_below zp8 hb)
                        have n2_ := Aside0.mk (Kd.R_below zp11 hb)
                        have n3_ := Aside0.mk (blk_below (g := gb150) (o := .cells #[.int .i64 a0_0, .int .i64 a0_1, .int .i64 a0_2] 27 (0, 0)) zp9 hb)
                        have n4_ := Aside0.mk (below_step zp3 hb)
                        clear HO_7
                        clear HO_8
                        clear HO_9
                        clear BK150
                        clear HB
                        have HO_7 := n0_
                        have HO_8 := n1_
                        have HO_9 := n2_
                        have BK150 := n3_
                        have HB := n4_
                        clear n0_ n1_ n2_ n3_ n4_
                        (try clear hb)
                        (try clear hb2)
                        (try clear hk)
                        (try clear hi)
                        refine hK.out _ _ ⟨(blk_cell BK150.out 0).trans rfl, (blk_cell BK150.out 1).trans rfl, (blk_cell BK150.out 2).trans rfl⟩ (fun hHeld => ?_)
                        clear hK K
                        refine norm_ (a' := ?_) ?_ ?_
                        rotate_left
                        ·show Act.put _ (some 74) _ = _
                         simp only [Act.put, List.setIfInBounds_toArray, List.set_cons_zero, List.set_cons_succ, i64_w, i32_w]
                         rfl
                        refine pure_ (i := 8) (N := some 12) (v := ?_) (a' := ?_) #[true, true, true, true, true, true, true, true, true] rfl rfl (any_of HT_.out (by kernel_rfl)) (fun _ _ _ h => h) (Or.inl ⟨by rfl, ?_⟩) ?_ ?_
                        rotate_left
                        ·intro w'
                         go_simp
                         with_reducible rfl
                        rotate_left
                        ·simp only [Act.put, List.setIfInBounds_toArray, List.set_cons_zero, List.set_cons_succ, i64_w, i32_w]
                         rfl
                        refine done_ (done_of HT_.out (by kernel_rfl)) ?_
                        obtain ⟨Ao90, co90, eo90⟩ := Kd.R_slice HO_8.out
                        subst eo90
                        have p173 : 0 ≤ ((ji79) : Int) := of_decide_eq_true zp1
                        have q173 : (ji79) < (x8_3.length : Int) := of_decide_eq_true zp1
                        obtain ⟨ad173, e173, hx173_0⟩ := Kd.at_int (Kd.R_reads' HO_8.out).2.2 (ji79) p173 q173
                        cases e173
                        replace p173 := eq_true p173
                        replace q173 := eq_true q173
                        obtain ⟨Ao91, co91, eo91⟩ := Kd.R_slice HO_9.out
                        subst eo91
                        have p174 : 0 ≤ (x10_2 : Int) := of_decide_eq_true zp1
                        have q174 : x10_2 < (x9_3.length : Int) := of_decide_eq_true zp1
                        obtain ⟨ad174, e174, hx174_0⟩ := Kd.at_int (Kd.R_reads' HO_9.out).2.2 x10_2 p174 q174
                        cases e174
                        replace p174 := eq_true p174
                        replace q174 := eq_true q174
                        have p85 : 0 ≤ (x10_2 : Int) := of_decide_eq_true zp1
                        have q85 : (x10_2 : Int) < ((x8_3.length : Int) : Int) := of_decide_eq_true zp1
                        obtain ⟨go85, co85, eo85, gb85, gl85, cl85, HG85⟩ := Kd.R_form HO_8.out zp38
                        (first | cases eo85 | (injection eo85 with ea_ en_ ec_; (first | subst ea_ | (injection ea_ with ea_; subst ea_)); subst ec_; clear en_))
                        have GB85 := Aside0.mk gb85
                        have GG85 := Aside0.mk HG85
                        clear gb85 gl85 HG85
                        (first | simp only [add_plain] at hx173_0 | skip)
                        obtain ⟨hx85_0, hf85_0⟩ := Kd.R_celln 0 HO_8.out (x10_2 : Int) p85 q85
                        replace p85 := eq_true p85
                        replace q85 := eq_true q85
                        obtain ⟨hy92_, hz92_⟩ := Kd.R_celln 0 HO_8.out (x10_2 : Int) (of_decide_eq_true zp1) (of_decide_eq_true zp1)
                        have HP92 := Kd.R_putg HO_8.out (x10_2 : Int) (wrap64 ((wrap64 (t165 * t165)) + (rd x8_3 (ji79))))
                        try go_wp2_with (first | ((with_reducible refine gate_store (t := 3) (p := 107) rfl ?_); refine store_event (t := 3) (p := 107) (v := ?vo_w93) (w1 := (w89.setCell ⟨go85, (x10_2 : Int).toNat, none⟩ (.int .i64 (wrap64 ((wrap64 (t165 * t165)) + (rd x8_3 (ji79))))))) ?hg ?ho ?hn ?hr ?_; (case ho => rfl); (case hg => rfl); (case hn => rfl); (case hr => first | (go_simp; done) | (go_simp; rfl)); intro w93 hw; have hg : w89.grownBy w93 (some go85) := (by rw [hw]; exact HP92.2); have hp_ : Kd.R (Kd.int .i64) 3 w93 w.heap.size (fun k_ => some k_ ≠ (v154 : Value).ownBlock ∧ some k_ ≠ (.slice (some ad174) x9_3.length co91 : Value).ownBlock) (.slice (some ⟨go85, 0, none⟩) x8_3.length co90) y175 := (by rw [hw, Ny175.out]; exact HP92.1); clear HP92; have n0_ := Aside0.mk (Kd.R_after (v := (.slice (some ⟨go85, 0, none⟩) x8_3.length co90)) (v1 := (.slice (some ⟨go85, 0, none⟩) x8_3.length co90)) (ok := (fun k_ => some k_ ≠ (.slice (some ad174) x9_3.length co91 : Value).ownBlock)) zp15 hg (.inl rfl)); have n1_ := Aside0.mk (hp_); have n2_ := Aside0.mk (Kd.R_after (v := (.slice (some ⟨go85, 0, none⟩) x8_3.length co90)) (v1 := (.slice (some ⟨go85, 0, none⟩) x8_3.length co90)) (ok := (fun k_ => some k_ ≠ (v154 : Value).ownBlock)) zp11 hg (.inl rfl)); have n3_ := Aside0.mk (blk_grown (g := gb150) (o := .cells #[.int .i64 a0_0, .int .i64 a0_1, .int .i64 a0_2] 27 (0, 0)) zp9 hg (Kd.R_ne HO_8.out BK150.out (by decide))); have n4_ := Aside0.mk ((by rw [hw]; exact below_set (HB.out) GB85.out : Below w.heap.size w w93)); clear HO_7; clear HO_8; clear HO_9; clear BK150; clear HB; have HO_7 := n0_; have HO_8 := n1_; have HO_9 := n2_; have BK150 := n3_; have HB := n4_; clear n0_ n1_ n2_ n3_ n4_; clear hg hw hp_; have p86 : 0 ≤ (x10_2 : Int) := of_decide_eq_true zp1; have q86 : (x10_2 : Int) < ((x9_3.length : Int) : Int) := of_decide_eq_true zp1; obtain ⟨go86, co86, eo86, gb86, gl86, cl86, HG86⟩ := Kd.R_form HO_9.out zp38; (first | cases eo86 | (injection eo86 with ea_ en_ ec_; (first | subst ea_ | (injection ea_ with ea_; subst ea_)); subst ec_; clear en_)); have GB86 := Aside0.mk gb86; have GG86 := Aside0.mk HG86; clear gb86 gl86 HG86; (first | simp only [add_plain] at hx174_0 | skip); obtain ⟨hx86_0, hf86_0⟩ := Kd.R_celln 0 HO_9.out (x10_2 : Int) p86 q86; replace p86 := eq_true p86; replace q86 := eq_true q86; obtain ⟨hy94_, hz94_⟩ := Kd.R_celln 0 HO_9.out (x10_2 : Int) (of_decide_eq_true zp1) (of_decide_eq_true zp1); have HP94 := Kd.R_putg HO_9.out (x10_2 : Int) x11_3) | ((with_reducible refine gate_store (t := 3) (p := 111) rfl ?_); refine store_event (t := 3) (p := 111) (v := ?vo_w95) (w1 := (w93.setCell ⟨go86, (x10_2 : Int).toNat, none⟩ (.int .i64 x11_3))) ?hg ?ho ?hn ?hr ?_; (case ho => rfl); (case hg => rfl); (case hn => rfl); (case hr => first | (go_simp; done) | (go_simp; rfl)); intro w95 hw; have hg : w93.grownBy w95 (some go86) := (by rw [hw]; exact HP94.2); have hp_ : Kd.R (Kd.int .i64) 3 w95 w.heap.size (fun k_ => some k_ ≠ (v154 : Value).ownBlock ∧ some k_ ≠ (.slice (some ⟨go85, 0, none⟩) x8_3.length co90 : Value).ownBlock) (.slice (some ⟨go86, 0, none⟩) x9_3.length co91) y176 := (by rw [hw, Ny176.out]; exact HP94.1); clear HP94; have n0_ := Aside0.mk (Kd.R_after (v := (.slice (some ⟨go86, 0, none⟩) x9_3.length co91)) (v1 := (.slice (some ⟨go86, 0, none⟩) x9_3.length co91)) (ok := (fun k_ => some k_ ≠ (.slice (some ⟨go85, 0, none⟩) x8_3.length co90 : Value).ownBlock)) zp15 hg (.inl rfl)); have n1_ := Aside0.mk (Kd.R_after (v := (.slice (some ⟨go86, 0, none⟩) x9_3.length co91)) (v1 := (.slice (some ⟨go86, 0, none⟩) x9_3.length co91)) (ok := (fun k_ => some k_ ≠ (v154 : Value).ownBlock)) zp8 hg (.inl rfl)); have n2_ := Aside0.mk (hp_); have n3_ := Aside0.mk (blk_grown (g := gb150) (o := .cells #[.int .i64 a0_0, .int .i64 a0_1, .int .i64 a0_2] 27 (0, 0)) zp9 hg (Kd.R_ne HO_9.out BK150.out (by decide))); have n4_ := Aside0.mk ((by rw [hw]; exact below_set (HB.out) GB86.out : Below w.heap.size w w95)); clear HO_7; clear HO_8; clear HO_9; clear BK150; clear HB; have HO_7 := n0_; have HO_8 := n1_; have HO_9 := n2_; have BK150 := n3_; have HB := n4_; clear n0_ n1_ n2_ n3_ n4_; clear hg hw hp_))
                        go_roundg kj26
                        case measure => have := HJ2.out; have := HK2.out; have := HK3.out; have := HJ26.out; omega
                        case rel => exact ⟨(y175), (y176), (wrap64 (x11_3 + 1)), zp6, H', ⟨by have := HJ2.out; have := HK2.out; have := HK3.out; have := HJ26.out; omega⟩, ⟨by (with_reducible repeat (first | apply Kd.R_alloc | apply Kd.R_drewN | apply Kd.R_drew)); exact HO_7.out⟩, ⟨by (with_reducible repeat (first | apply Kd.R_alloc | apply Kd.R_drewN | apply Kd.R_drew)); exact HO_8.out⟩, ⟨by (with_reducible repeat (first | apply Kd.R_alloc | apply Kd.R_drewN | apply Kd.R_drew)); exact HO_9.out⟩, ⟨by (with_reducible repeat (first | refine blk_drewN ?_ _ | refine blk_drew ?_ | refine blk_alloc ?_ _)); exact BK150.out⟩, ⟨by repeat (first | (with_reducible first | exact HB.out | apply below_alloc | apply pw_below_drewN | apply below_drew1 | refine below_set ?_ GE150.out) | exact HB.out)⟩⟩
                       ·rw [if_neg c84] at H
                        exact absurd H zp36
                      ·rw [if_neg c83] at H
                       have c83b0 : ((rd x9_3 x10_2) == 0) = false := beq_eq_false_iff_ne.mpr c83
                       have c83b1 : ((rd x9_3 x10_2) != 0) = true := bne_iff_ne.mpr c83
                       by_cases c96 : x10_2 < (x8_3.length : Int)
                       ·rw [if_pos c96] at H
                        have c96b0 : decide (x10_2 < (x8_3.length : Int)) = true := decide_eq_true c96
                        clear c96
                        by_cases c97 : (wrap64 ((wrap64 (t165 * t165)) + (rd x8_3 (ji79)))) < (rd x8_3 x10_2)
                        ·rw [if_pos c97] at H
                         have c97b0 : decide ((wrap64 ((wrap64 (t165 * t165)) + (rd x8_3 (ji79)))) < (rd x8_3 x10_2)) = true := decide_eq_true c97
                         clear c97
                         obtain ⟨y178, hy178⟩ : ∃ y_ : List Int, y_ = (x8_3.set (x10_2 : Int).toNat (wrap64 ((wrap64 (t165 * t165)) + (rd x8_3 (ji79))))) := ⟨_, rfl⟩
                         replace H : (spec_BestBreaking.l1 kj26 l1 t153 y178 (x9_3.set (x10_2 : Int).toNat x11_3) x10_2 (wrap64 (x11_3 + 1)) a0_0 a0_1 a0_2) = some (r1, r2, r3) := by first | (rw [hy178]; with_reducible exact H) | (have H2_ := (Option.bind_some _ _).symm.trans H; rw [hy178]; with_reducible exact H2_) | (have H2_ := (Option.bind_some _ _).symm.trans H; with_reducible exact H2_) | with_reducible exact H | (rw [hy178]; exact H) | exact H
                         have Ny178 := Aside0.mk hy178
                         clear hy178
                         obtain ⟨y179, hy179⟩ : ∃ y_ : List Int, y_ = (x9_3.set (x10_2 : Int).toNat x11_3) := ⟨_, rfl⟩
                         replace H : (spec_BestBreaking.l1 kj26 l1 t153 y178 y179 x10_2 (wrap64 (x11_3 + 1)) a0_0 a0_1 a0_2) = some (r1, r2, r3) := by first | (rw [hy179]; with_reducible exact H) | (have H2_ := (Option.bind_some _ _).symm.trans H; rw [hy179]; with_reducible exact H2_) | (have H2_ := (Option.bind_some _ _).symm.trans H; with_reducible exact H2_) | with_reducible exact H | (rw [hy179]; exact H) | exact H
                         have Ny179 := Aside0.mk hy179
                         clear hy179
                         have H' := Aside0.mk H
                         clear H
                         try go_wp2
                         have n0_ := Aside0.mk (Kd.R_drew HO_7.out)
                         have n1_ := Aside0.mk (Kd.R_drew HO_8.out)
                         have n2_ := Aside0.mk (Kd.R_drew HO_9.out)
                         have n3_ := Aside0.mk (blk_drew BK150.out)
                         have n4_ := Aside0.mk (below_drew1 HB.out)
                         clear HO_7
                         clear HO_8
                         clear HO_9
                         clear BK150
                         clear HB
                         have HO_7 := n0_
                         have HO_8 := n1_
                         have HO_9 := n2_
                         have BK150 := n3_
                         have HB := n4_
                         clear n0_ n1_ n2_ n3_ n4_
                         obtain ⟨i0101, hi0101, _, hsz101, _⟩ := info_parts info3
                         obtain ⟨A101, hcut101, hA101, hC101⟩ := print_mid_of (P := Try.prog) (Value.int .i64) 0 24 3 .i64 .i64 Try.underlying24 hi0101 hsz101 A1 c1 l1 x10_2 (ji79) (of_decide_eq_true zp1) zp28 (of_decide_eq_true zp1) HC1.out
                         have HR164 := Aside0.mk (Kd.C_of_reads (h1 := fun _ => rfl) (hA101 _ (Kd.reads_of_C HR1.out)))
                         have HC164 := Aside0.mk hC101
                         clear hA101 hC101 hi0101 hsz101
                         refine start_ (n := 9) (S := fun w' => w'.cell? ⟨gb150, 0, none⟩ = some (.int .i64 a0_0) ∧ w'.cell? ⟨gb150, 1, none⟩ = some (.int .i64 a0_1) ∧ w'.cell? ⟨gb150, 2, none⟩ = some (.int .i64 a0_2)) (ds := []) #[false, false, false, false, false, false, false, false, false] (by kernel_rfl) rfl rfl ⟨(blk_cell BK150.out 0).trans rfl, (blk_cell BK150.out 1).trans rfl, (blk_cell BK150.out 2).trans rfl⟩ (fun hHeld => ?_); refine with_tabW spec_BestBreaking.tab13 spec_BestBreaking.bits13 (fun HT_ HW_ => ?_)
                         generalize wc.drew = w100 at HO_7 HO_8 HO_9 BK150 HB HR164 hHeld ⊢
                         refine pure_ (i := 1) (N := some 68) (v := ?_) (a' := ?_) #[false, true, false, false, false, false, false, false, false] rfl rfl (any_of HT_.out (by kernel_rfl)) (fun _ _ _ h => h) (Or.inl ⟨by rfl, ?_⟩) ?_ ?_
                         rotate_left
                         ·intro w'
                          go_simp
                          with_reducible rfl
                         rotate_left
                         ·simp only [Act.put, List.setIfInBounds_toArray, List.set_cons_zero, List.set_cons_succ, i64_w, i32_w]
                          rfl
                         refine pure_ (i := 2) (N := some 69) (v := ?_) (a' := ?_) #[false, true, true, false, false, false, false, false, false] rfl rfl (any_of HT_.out (by kernel_rfl)) (fun _ _ _ h => h) (Or.inl ⟨by rfl, ?_⟩) ?_ ?_
                         rotate_left
                         ·intro w'
                          go_simp
                          with_reducible rfl
                         rotate_left
                         ·simp only [Act.put, List.setIfInBounds_toArray, List.set_cons_zero, List.set_cons_succ, i64_w, i32_w]
                          rfl
                         refine pure_ (i := 3) (N := some 70) (v := ?_) (a' := ?_) #[false, true, true, true, false, false, false, false, false] rfl rfl (any_of HT_.out (by kernel_rfl)) (fun _ _ _ h => h) (Or.inl ⟨by rfl, ?_⟩) ?_ ?_
                         rotate_left
                         ·intro w'
                          go_simp
                          with_reducible rfl
                         rotate_left
                         ·simp only [Act.put, List.setIfInBounds_toArray, List.set_cons_zero, List.set_cons_succ, i64_w, i32_w]
                          rfl
                         refine pure_ (i := 4) (N := some 71) (v := ?_) (a' := ?_) #[false, true, true, true, true, false, false, false, false] rfl rfl (any_of HT_.out (by kernel_rfl)) (fun _ _ _ h => h) (Or.inl ⟨by rfl, ?_⟩) ?_ ?_
                         rotate_left
                         ·intro w'
                          go_simp
                          with_reducible rfl
                         rotate_left
                         ·simp only [Act.put, List.setIfInBounds_toArray, List.set_cons_zero, List.set_cons_succ, i64_w, i32_w]
                          rfl
                         refine pure_ (i := 5) (N := some 72) (v := ?_) (a' := ?_) #[false, true, true, true, true, true, false, false, false] rfl rfl (any_of HT_.out (by kernel_rfl)) (fun _ _ _ h => h) (Or.inl ⟨by rfl, ?_⟩) ?_ ?_
                         rotate_left
                         ·intro w'
                          go_simp
                          with_reducible rfl
                         rotate_left
                         ·simp only [Act.put, List.setIfInBounds_toArray, List.set_cons_zero, List.set_cons_succ, i64_w, i32_w]
                          rfl
                         refine pure_ (i := 6) (N := some 73) (v := ?_) (a' := ?_) #[false, true, true, true, true, true, true, false, false] rfl rfl (any_of HT_.out (by kernel_rfl)) (fun _ _ _ h => h) (Or.inl ⟨by rfl, ?_⟩) ?_ ?_
                         rotate_left
                         ·intro w'
                          go_simp
                          with_reducible rfl
                         rotate_left
                         ·simp only [Act.put, List.setIfInBounds_toArray, List.set_cons_zero, List.set_cons_succ, i64_w, i32_w]
                          rfl
                         refine take_ (i := 0) (N := some 67) (v := ?_) (a' := ?_) #[true, true, true, true, true, true, true, false, false] rfl rfl (take_ofW HT_.out HW_.out (by kernel_rfl)) (fun _ _ _ h => h) (Or.inl ⟨by rfl, ?_⟩) hHeld ?_ ?_
                         rotate_left
                         ·rintro w' ⟨s0, s1, s2⟩
                          go_simp
                          with_reducible rfl
                         rotate_left
                         ·simp only [Act.put, List.setIfInBounds_toArray, List.set_cons_zero, List.set_cons_succ, i64_w, i32_w]
                          rfl
                         refine one_ (i := 7) (N := some 74) #[true, true, true, true, true, true, true, true, false] rfl rfl (one_of HT_.out (by kernel_rfl)) (by decide) (fun K hK => ?_)
                         refine goes_ Try.func53 (by kernel_rfl) rfl #[.agg #[.int .i64 a0_0, .int .i64 a0_1, .int .i64 a0_2], .slice A101 ((l1.take ((ji79) : Int).toNat).drop (x10_2 : Int).toNat).length (c1 - x10_2.toNat)] (by rfl) rfl rfl zp18 ?_
                         with_reducible refine (spec_l4Rise.calls kj26 a0_0 a0_1 a0_2 _ _ ((l1.take ((ji79) : Int).toNat).drop (x10_2 : Int).toNat) t165 _ ?side1 ?side2 A42.out).mono ?_
                         (case side1 => repeat (first | exact (Kd.C_below HR164.out HB.out) | (with_reducible refine Kd.C_alloc ?_ _) | (with_reducible refine Kd.C_drewN ?_ _) | (with_reducible refine Kd.C_drew ?_)))
                         (case side2 => exact HC164.out)
                         rintro e w102 ⟨rfl, hb⟩
                         refine ⟨_, rfl, ?_⟩
                         have n0_ := Aside0.mk (Kd.R_below zp12 hb)
                         have n1_ := Aside0.mk (Kd.R_below zp8 hb)
                         have n2_ := Aside0.mk (Kd.R_below zp11 hb)
                         have n3_ := Aside0.mk (blk_below (g := gb150) (o := .cells #[.int .i64 a0_0, .int .i64 a0_1, .int .i64 a0_2] 27 (0, 0)) zp9 hb)
                         have n4_ := Aside0.mk (below_step zp3 hb)
                         clear HO_7
                         clear HO_8
                         clear HO_9
                         clear BK150
                         clear HB
                         have HO_7 := n0_
                         have HO_8 := n1_
                         have HO_9 := n2_
                         have BK150 := n3_
                         have HB := n4_
                         clear n0_ n1_ n2_ n3_ n4_
                         (try clear hb)
                         (try clear hb2)
                         (try clear hk)
                         (try clear hi)
                         refine hK.out _ _ ⟨(blk_cell BK150.out 0).trans rfl, (blk_cell BK150.out 1).trans rfl, (blk_cell BK150.out 2).trans rfl⟩ (fun hHeld => ?_)
                         clear hK K
                         refine norm_ (a' := ?_) ?_ ?_
                         rotate_left
                         ·show Act.put _ (some 74) _ = _
                          simp only [Act.put, List.setIfInBounds_toArray, List.set_cons_zero, List.set_cons_succ, i64_w, i32_w]
                          rfl
                         refine pure_ (i := 8) (N := some 12) (v := ?_) (a' := ?_) #[true, true, true, true, true, true, true, true, true] rfl rfl (any_of HT_.out (by kernel_rfl)) (fun _ _ _ h => h) (Or.inl ⟨by rfl, ?_⟩) ?_ ?_
                         rotate_left
                         ·intro w'
                          go_simp
                          with_reducible rfl
                         rotate_left
                         ·simp only [Act.put, List.setIfInBounds_toArray, List.set_cons_zero, List.set_cons_succ, i64_w, i32_w]
                          rfl
                         refine done_ (done_of HT_.out (by kernel_rfl)) ?_
                         obtain ⟨Ao103, co103, eo103⟩ := Kd.R_slice HO_8.out
                         subst eo103
                         have p173 : 0 ≤ ((ji79) : Int) := of_decide_eq_true zp1
                         have q173 : (ji79) < (x8_3.length : Int) := of_decide_eq_true zp1
                         obtain ⟨ad173, e173, hx173_0⟩ := Kd.at_int (Kd.R_reads' HO_8.out).2.2 (ji79) p173 q173
                         cases e173
                         replace p173 := eq_true p173
                         replace q173 := eq_true q173
                         obtain ⟨Ao104, co104, eo104⟩ := Kd.R_slice HO_9.out
                         subst eo104
                         have p174 : 0 ≤ (x10_2 : Int) := of_decide_eq_true zp1
                         have q174 : x10_2 < (x9_3.length : Int) := of_decide_eq_true zp1
                         obtain ⟨ad174, e174, hx174_0⟩ := Kd.at_int (Kd.R_reads' HO_9.out).2.2 x10_2 p174 q174
                         cases e174
                         replace p174 := eq_true p174
                         replace q174 := eq_true q174
                         have p177 : 0 ≤ (x10_2 : Int) := of_decide_eq_true zp1
                         have q177 : x10_2 < (x8_3.length : Int) := of_decide_eq_true zp1
                         obtain ⟨ad177, e177, hx177_0⟩ := Kd.at_int (Kd.R_reads' HO_8.out).2.2 x10_2 p177 q177
                         obtain rfl : ad173 = ad177 := (by injection e177)
                         replace p177 := eq_true p177
                         replace q177 := eq_true q177
                         have p98 : 0 ≤ (x10_2 : Int) := of_decide_eq_true zp1
                         have q98 : (x10_2 : Int) < ((x8_3.length : Int) : Int) := of_decide_eq_true zp1
                         obtain ⟨go98, co98, eo98, gb98, gl98, cl98, HG98⟩ := Kd.R_form HO_8.out zp38
                         (first | cases eo98 | (injection eo98 with ea_ en_ ec_; (first | subst ea_ | (injection ea_ with ea_; subst ea_)); subst ec_; clear en_))
                         have GB98 := Aside0.mk gb98
                         have GG98 := Aside0.mk HG98
                         clear gb98 gl98 HG98
                         (first | simp only [add_plain] at hx173_0 | skip)
                         (first | simp only [add_plain] at hx177_0 | skip)
                         obtain ⟨hx98_0, hf98_0⟩ := Kd.R_celln 0 HO_8.out (x10_2 : Int) p98 q98
                         replace p98 := eq_true p98
                         replace q98 := eq_true q98
                         obtain ⟨hy105_, hz105_⟩ := Kd.R_celln 0 HO_8.out (x10_2 : Int) (of_decide_eq_true zp1) (of_decide_eq_true zp1)
                         have HP105 := Kd.R_putg HO_8.out (x10_2 : Int) (wrap64 ((wrap64 (t165 * t165)) + (rd x8_3 (ji79))))
                         try go_wp2_with (first | ((with_reducible refine gate_store (t := 3) (p := 107) rfl ?_); refine store_event (t := 3) (p := 107) (v := ?vo_w106) (w1 := (w102.setCell ⟨go98, (x10_2 : Int).toNat, none⟩ (.int .i64 (wrap64 ((wrap64 (t165 * t165)) + (rd x8_3 (ji79))))))) ?hg ?ho ?hn ?hr ?_; (case ho => rfl); (case hg => rfl); (case hn => rfl); (case hr => first | (go_simp; done) | (go_simp; rfl)); intro w106 hw; have hg : w102.grownBy w106 (some go98) := (by rw [hw]; exact HP105.2); have hp_ : Kd.R (Kd.int .i64) 3 w106 w.heap.size (fun k_ => some k_ ≠ (v154 : Value).ownBlock ∧ some k_ ≠ (.slice (some ad174) x9_3.length co104 : Value).ownBlock) (.slice (some ⟨go98, 0, none⟩) x8_3.length co103) y178 := (by rw [hw, Ny178.out]; exact HP105.1); clear HP105; have n0_ := Aside0.mk (Kd.R_after (v := (.slice (some ⟨go98, 0, none⟩) x8_3.length co103)) (v1 := (.slice (some ⟨go98, 0, none⟩) x8_3.length co103)) (ok := (fun k_ => some k_ ≠ (.slice (some ad174) x9_3.length co104 : Value).ownBlock)) zp15 hg (.inl rfl)); have n1_ := Aside0.mk (hp_); have n2_ := Aside0.mk (Kd.R_after (v := (.slice (some ⟨go98, 0, none⟩) x8_3.length co103)) (v1 := (.slice (some ⟨go98, 0, none⟩) x8_3.length co103)) (ok := (fun k_ => some k_ ≠ (v154 : Value).ownBlock)) zp11 hg (.inl rfl)); have n3_ := Aside0.mk (blk_grown (g := gb150) (o := .cells #[.int .i64 a0_0, .int .i64 a0_1, .int .i64 a0_2] 27 (0, 0)) zp9 hg (Kd.R_ne HO_8.out BK150.out (by decide))); have n4_ := Aside0.mk ((by rw [hw]; exact below_set (HB.out) GB98.out : Below w.heap.size w w106)); clear HO_7; clear HO_8; clear HO_9; clear BK150; clear HB; have HO_7 := n0_; have HO_8 := n1_; have HO_9 := n2_; have BK150 := n3_; have HB := n4_; clear n0_ n1_ n2_ n3_ n4_; clear hg hw hp_; have p99 : 0 ≤ (x10_2 : Int) := of_decide_eq_true zp1; have q99 : (x10_2 : Int) < ((x9_3.length : Int) : Int) := of_decide_eq_true zp1; obtain ⟨go99, co99, eo99, gb99, gl99, cl99, HG99⟩ := Kd.R_form HO_9.out zp38; (first | cases eo99 | (injection eo99 with ea_ en_ ec_; (first | subst ea_ | (injection ea_ with ea_; subst ea_)); subst ec_; clear en_)); have GB99 := Aside0.mk gb99; have GG99 := Aside0.mk HG99; clear gb99 gl99 HG99; (first | simp only [add_plain] at hx174_0 | skip); obtain ⟨hx99_0, hf99_0⟩ := Kd.R_celln 0 HO_9.out (x10_2 : Int) p99 q99; replace p99 := eq_true p99; replace q99 := eq_true q99; obtain ⟨hy107_, hz107_⟩ := Kd.R_celln 0 HO_9.out (x10_2 : Int) (of_decide_eq_true zp1) (of_decide_eq_true zp1); have HP107 := Kd.R_putg HO_9.out (x10_2 : Int) x11_3) | ((with_reducible refine gate_store (t := 3) (p := 111) rfl ?_); refine store_event (t := 3) (p := 111) (v := ?vo_w108) (w1 := (w106.setCell ⟨go99, (x10_2 : Int).toNat, none⟩ (.int .i64 x11_3))) ?hg ?ho ?hn ?hr ?_; (case ho => rfl); (case hg => rfl); (case hn => rfl); (case hr => first | (go_simp; done) | (go_simp; rfl)); intro w108 hw; have hg : w106.grownBy w108 (some go99) := (by rw [hw]; exact HP107.2); have hp_ : Kd.R (Kd.int .i64) 3 w108 w.heap.size (fun k_ => some k_ ≠ (v154 : Value).ownBlock ∧ some k_ ≠ (.slice (some ⟨go98, 0, none⟩) x8_3.length co103 : Value).ownBlock) (.slice (some ⟨go99, 0, none⟩) x9_3.length co104) y179 := (by rw [hw, Ny179.out]; exact HP107.1); clear HP107; have n0_ := Aside0.mk (Kd.R_after (v := (.slice (some ⟨go99, 0, none⟩) x9_3.length co104)) (v1 := (.slice (some ⟨go99, 0, none⟩) x9_3.length co104)) (ok := (fun k_ => some k_ ≠ (.slice (some ⟨go98, 0, none⟩) x8_3.length co103 : Value).ownBlock)) zp15 hg (.inl rfl)); have n1_ := Aside0.mk (Kd.R_after (v := (.slice (some ⟨go99, 0, none⟩) x9_3.length co104)) (v1 := (.slice (some ⟨go99, 0, none⟩) x9_3.length co104)) (ok := (fun k_ => some k_ ≠ (v154 : Value).ownBlock)) zp8 hg (.inl rfl)); have n2_ := Aside0.mk (hp_); have n3_ := Aside0.mk (blk_grown (g := gb150) (o := .cells #[.int .i64 a0_0, .int .i64 a0_1, .int .i64 a0_2] 27 (0, 0)) zp9 hg (Kd.R_ne HO_9.out BK150.out (by decide))); have n4_ := Aside0.mk ((by rw [hw]; exact below_set (HB.out) GB99.out : Below w.heap.size w w108)); clear HO_7; clear HO_8; clear HO_9; clear BK150; clear HB; have HO_7 := n0_; have HO_8 := n1_; have HO_9 := n2_; have BK150 := n3_; have HB := n4_; clear n0_ n1_ n2_ n3_ n4_; clear hg hw hp_))
                         go_roundg kj26
                         case measure => have := HJ2.out; have := HK2.out; have := HK3.out; have := HJ26.out; omega
                         case rel => exact ⟨(y178), (y179), (wrap64 (x11_3 + 1)), zp6, H', ⟨by have := HJ2.out; have := HK2.out; have := HK3.out; have := HJ26.out; omega⟩, ⟨by (with_reducible repeat (first | apply Kd.R_alloc | apply Kd.R_drewN | apply Kd.R_drew)); exact HO_7.out⟩, ⟨by (with_reducible repeat (first | apply Kd.R_alloc | apply Kd.R_drewN | apply Kd.R_drew)); exact HO_8.out⟩, ⟨by (with_reducible repeat (first | apply Kd.R_alloc | apply Kd.R_drewN | apply Kd.R_drew)); exact HO_9.out⟩, ⟨by (with_reducible repeat (first | refine blk_drewN ?_ _ | refine blk_drew ?_ | refine blk_alloc ?_ _)); exact BK150.out⟩, ⟨by repeat (first | (with_reducible first | exact HB.out | apply below_alloc | apply pw_below_drewN | apply below_drew1 | refine below_set ?_ GE150.out) | exact HB.out)⟩⟩
                        ·rw [if_neg c97] at H
                         have c97b0 : decide ((wrap64 ((wrap64 (t165 * t165)) + (rd x8_3 (ji79)))) < (rd x8_3 x10_2)) = false := decide_eq_false c97
                         clear c97
                         have H' := Aside0.mk H
                         clear H
                         try go_wp2
                         have n0_ := Aside0.mk (Kd.R_drew HO_7.out)
                         have n1_ := Aside0.mk (Kd.R_drew HO_8.out)
                         have n2_ := Aside0.mk (Kd.R_drew HO_9.out)
                         have n3_ := Aside0.mk (blk_drew BK150.out)
                         have n4_ := Aside0.mk (below_drew1 HB.out)
                         clear HO_7
                         clear HO_8
                         clear HO_9
                         clear BK150
                         clear HB
                         have HO_7 := n0_
                         have HO_8 := n1_
                         have HO_9 := n2_
                         have BK150 := n3_
                         have HB := n4_
                         clear n0_ n1_ n2_ n3_ n4_
                         obtain ⟨i0110, hi0110, _, hsz110, _⟩ := info_parts info3
                         obtain ⟨A110, hcut110, hA110, hC110⟩ := print_mid_of (P := Try.prog) (Value.int .i64) 0 24 3 .i64 .i64 Try.underlying24 hi0110 hsz110 A1 c1 l1 x10_2 (ji79) (of_decide_eq_true zp1) zp28 (of_decide_eq_true zp1) HC1.out
                         have HR164 := Aside0.mk (Kd.C_of_reads (h1 := fun _ => rfl) (hA110 _ (Kd.reads_of_C HR1.out)))
                         have HC164 := Aside0.mk hC110
                         clear hA110 hC110 hi0110 hsz110
                         refine start_ (n := 9) (S := fun w' => w'.cell? ⟨gb150, 0, none⟩ = some (.int .i64 a0_0) ∧ w'.cell? ⟨gb150, 1, none⟩ = some (.int .i64 a0_1) ∧ w'.cell? ⟨gb150, 2, none⟩ = some (.int .i64 a0_2)) (ds := []) #[false, false, false, false, false, false, false, false, false] (by kernel_rfl) rfl rfl ⟨(blk_cell BK150.out 0).trans rfl, (blk_cell BK150.out 1).trans rfl, (blk_cell BK150.out 2).trans rfl⟩ (fun hHeld => ?_); refine with_tabW spec_BestBreaking.tab13 spec_BestBreaking.bits13 (fun HT_ HW_ => ?_)
                         generalize wc.drew = w109 at HO_7 HO_8 HO_9 BK150 HB HR164 hHeld ⊢
                         refine pure_ (i := 1) (N := some 68) (v := ?_) (a' := ?_) #[false, true, false, false, false, false, false, false, false] rfl rfl (any_of HT_.out (by kernel_rfl)) (fun _ _ _ h => h) (Or.inl ⟨by rfl, ?_⟩) ?_ ?_
                         rotate_left
                         ·intro w'
                          go_simp
                          with_reducible rfl
                         rotate_left
                         ·simp only [Act.put, List.setIfInBounds_toArray, List.set_cons_zero, List.set_cons_succ, i64_w, i32_w]
                          rfl
                         refine pure_ (i := 2) (N := some 69) (v := ?_) (a' := ?_) #[false, true, true, false, false, false, false, false, false] rfl rfl (any_of HT_.out (by kernel_rfl)) (fun _ _ _ h => h) (Or.inl ⟨by rfl, ?_⟩) ?_ ?_
                         rotate_left
                         ·intro w'
                          go_simp
                          with_reducible rfl
                         rotate_left
                         ·simp only [Act.put, List.setIfInBounds_toArray, List.set_cons_zero, List.set_cons_succ, i64_w, i32_w]
                          rfl
                         refine pure_ (i := 3) (N := some 70) (v := ?_) (a' := ?_) #[false, true, true, true, false, false, false, false, false] rfl rfl (any_of HT_.out (by kernel_rfl)) (fun _ _ _ h => h) (Or.inl ⟨by rfl, ?_⟩) ?_ ?_
                         rotate_left
                         ·intro w'
                          go_simp
                          with_reducible rfl
                         rotate_left
                         ·simp only [Act.put, List.setIfInBounds_toArray, List.set_cons_zero, List.set_cons_succ, i64_w, i32_w]
                          rfl
                         refine pure_ (i := 4) (N := some 71) (v := ?_) (a' := ?_) #[false, true, true, true, true, false, false, false, false] rfl rfl (any_of HT_.out (by kernel_rfl)) (fun _ _ _ h => h) (Or.inl ⟨by rfl, ?_⟩) ?_ ?_
                         rotate_left
                         ·intro w'
                          go_simp
                          with_reducible rfl
                         rotate_left
                         ·simp only [Act.put, List.setIfInBounds_toArray, List.set_cons_zero, List.set_cons_succ, i64_w, i32_w]
                          rfl
                         refine pure_ (i := 5) (N := some 72) (v := ?_) (a' := ?_) #[false, true, true, true, true, true, false, false, false] rfl rfl (any_of HT_.out (by kernel_rfl)) (fun _ _ _ h => h) (Or.inl ⟨by rfl, ?_⟩) ?_ ?_
                         rotate_left
                         ·intro w'
                          go_simp
                          with_reducible rfl
                         rotate_left
                         ·simp only [Act.put, List.setIfInBounds_toArray, List.set_cons_zero, List.set_cons_succ, i64_w, i32_w]
                          rfl
                         refine pure_ (i := 6) (N := some 73) (v := ?_) (a' := ?_) #[false, true, true, true, true, true, true, false, false] rfl rfl (any_of HT_.out (by kernel_rfl)) (fun _ _ _ h => h) (Or.inl ⟨by rfl, ?_⟩) ?_ ?_
                         rotate_left
                         ·intro w'
                          go_simp
                          with_reducible rfl
                         rotate_left
                         ·simp only [Act.put, List.setIfInBounds_toArray, List.set_cons_zero, List.set_cons_succ, i64_w, i32_w]
                          rfl
                         refine take_ (i := 0) (N := some 67) (v := ?_) (a' := ?_) #[true, true, true, true, true, true, true, false, false] rfl rfl (take_ofW HT_.out HW_.out (by kernel_rfl)) (fun _ _ _ h => h) (Or.inl ⟨by rfl, ?_⟩) hHeld ?_ ?_
                         rotate_left
                         ·rintro w' ⟨s0, s1, s2⟩
                          go_simp
                          with_reducible rfl
                         rotate_left
                         ·simp only [Act.put, List.setIfInBounds_toArray, List.set_cons_zero, List.set_cons_succ, i64_w, i32_w]
                          rfl
                         refine one_ (i := 7) (N := some 74) #[true, true, true, true, true, true, true, true, false] rfl rfl (one_of HT_.out (by kernel_rfl)) (by decide) (fun K hK => ?_)
                         refine goes_ Try.func53 (by kernel_rfl) rfl #[.agg #[.int .i64 a0_0, .int .i64 a0_1, .int .i64 a0_2], .slice A110 ((l1.take ((ji79) : Int).toNat).drop (x10_2 : Int).toNat).length (c1 - x10_2.toNat)] (by rfl) rfl rfl zp18 ?_
                         with_reducible refine (spec_l4Rise.calls kj26 a0_0 a0_1 a0_2 _ _ ((l1.take ((ji79) : Int).toNat).drop (x10_2 : Int).toNat) t165 _ ?side1 ?side2 A42.out).mono ?_
                         (case side1 => repeat (first | exact (Kd.C_below HR164.out HB.out) | (with_reducible refine Kd.C_alloc ?_ _) | (with_reducible refine Kd.C_drewN ?_ _) | (with_reducible refine Kd.C_drew ?_)))
                         (case side2 => exact HC164.out)
                         rintro e w111 ⟨rfl, hb⟩
                         refine ⟨_, rfl, ?_⟩
                         have n0_ := Aside0.mk (Kd.R_below zp12 hb)
                         have n1_ := Aside0.mk (Kd.R_below zp8 hb)
                         have n2_ := Aside0.mk (Kd.R_below zp11 hb)
                         have n3_ := Aside0.mk (blk_below (g := gb150) (o := .cells #[.int .i64 a0_0, .int .i64 a0_1, .int .i64 a0_2] 27 (0, 0)) zp9 hb)
                         have n4_ := Aside0.mk (below_step zp3 hb)
                         clear HO_7
                         clear HO_8
                         clear HO_9
                         clear BK150
                         clear HB
                         have HO_7 := n0_
                         have HO_8 := n1_
                         have HO_9 := n2_
                         have BK150 := n3_
                         have HB := n4_
                         clear n0_ n1_ n2_ n3_ n4_
                         (try clear hb)
                         (try clear hb2)
                         (try clear hk)
                         (try clear hi)
                         refine hK.out _ _ ⟨(blk_cell BK150.out 0).trans rfl, (blk_cell BK150.out 1).trans rfl, (blk_cell BK150.out 2).trans rfl⟩ (fun hHeld => ?_)
                         clear hK K
                         refine norm_ (a' := ?_) ?_ ?_
                         rotate_left
                         ·show Act.put _ (some 74) _ = _
                          simp only [Act.put, List.setIfInBounds_toArray, List.set_cons_zero, List.set_cons_succ, i64_w, i32_w]
                          rfl
                         refine pure_ (i := 8) (N := some 12) (v := ?_) (a' := ?_) #[true, true, true, true, true, true, true, true, true] rfl rfl (any_of HT_.out (by kernel_rfl)) (fun _ _ _ h => h) (Or.inl ⟨by rfl, ?_⟩) ?_ ?_
                         rotate_left
                         ·intro w'
                          go_simp
                          with_reducible rfl
                         rotate_left
                         ·simp only [Act.put, List.setIfInBounds_toArray, List.set_cons_zero, List.set_cons_succ, i64_w, i32_w]
                          rfl
                         refine done_ (done_of HT_.out (by kernel_rfl)) ?_
                         obtain ⟨Ao112, co112, eo112⟩ := Kd.R_slice HO_8.out
                         subst eo112
                         have p173 : 0 ≤ ((ji79) : Int) := of_decide_eq_true zp1
                         have q173 : (ji79) < (x8_3.length : Int) := of_decide_eq_true zp1
                         obtain ⟨ad173, e173, hx173_0⟩ := Kd.at_int (Kd.R_reads' HO_8.out).2.2 (ji79) p173 q173
                         cases e173
                         replace p173 := eq_true p173
                         replace q173 := eq_true q173
                         obtain ⟨Ao113, co113, eo113⟩ := Kd.R_slice HO_9.out
                         subst eo113
                         have p174 : 0 ≤ (x10_2 : Int) := of_decide_eq_true zp1
                         have q174 : x10_2 < (x9_3.length : Int) := of_decide_eq_true zp1
                         obtain ⟨ad174, e174, hx174_0⟩ := Kd.at_int (Kd.R_reads' HO_9.out).2.2 x10_2 p174 q174
                         cases e174
                         replace p174 := eq_true p174
                         replace q174 := eq_true q174
                         have p177 : 0 ≤ (x10_2 : Int) := of_decide_eq_true zp1
                         have q177 : x10_2 < (x8_3.length : Int) := of_decide_eq_true zp1
                         obtain ⟨ad177, e177, hx177_0⟩ := Kd.at_int (Kd.R_reads' HO_8.out).2.2 x10_2 p177 q177
                         obtain rfl : ad173 = ad177 := (by injection e177)
                         replace p177 := eq_true p177
                         replace q177 := eq_true q177
                         try go_wp2
                         go_roundg kj26
                         case measure => have := HJ2.out; have := HK2.out; have := HK3.out; have := HJ26.out; omega
                         case rel => exact ⟨(x8_3), (x9_3), (wrap64 (x11_3 + 1)), zp6, H', ⟨by have := HJ2.out; have := HK2.out; have := HK3.out; have := HJ26.out; omega⟩, ⟨by (with_reducible repeat (first | apply Kd.R_alloc | apply Kd.R_drewN | apply Kd.R_drew)); exact HO_7.out⟩, ⟨by (with_reducible repeat (first | apply Kd.R_alloc | apply Kd.R_drewN | apply Kd.R_drew)); exact HO_8.out⟩, ⟨by (with_reducible repeat (first | apply Kd.R_alloc | apply Kd.R_drewN | apply Kd.R_drew)); exact HO_9.out⟩, ⟨by (with_reducible repeat (first | refine blk_drewN ?_ _ | refine blk_drew ?_ | refine blk_alloc ?_ _)); exact BK150.out⟩, ⟨by repeat (first | (with_reducible first | exact HB.out | apply below_alloc | apply pw_below_drewN | apply below_drew1 | refine below_set ?_ GE150.out) | exact HB.out)⟩⟩
                       ·rw [if_neg c96] at H
                        exact absurd H zp36
                     ·rw [if_neg c82] at H
                      exact absurd H zp36
                    ·rw [if_neg c81] at H
                     exact absurd H zp36
                   ·rw [if_neg c80] at H
                    exact absurd H zp36
                 ·rw [if_neg c41] at H
                  exact absurd H zp36
                ·rw [if_neg c40] at H
                 exact absurd H zp36
               ·rw [if_neg c39] at H
                exact absurd H zp36
           ·rw [if_neg c26] at H
            have c26b0 : decide ((wrap64 (x10_2 + x11_3)) ≤ (l1.length : Int)) = false := decide_eq_false c26
            clear c26
            have H' := Aside0.mk H
            clear H
            go_wp2
            go_roundg k3
            case measure => have := HJ2.out; have := HK2.out; have := HK3.out; omega
            case rel => exact ⟨(x8_3), (x9_3), (wrap64 (x10_2 - 1)), zp6, H', ⟨by have := HJ2.out; have := HK2.out; have := HK3.out; omega⟩, ⟨by (with_reducible repeat (first | apply Kd.R_alloc | apply Kd.R_drewN | apply Kd.R_drew)); exact HO_7.out⟩, ⟨by (with_reducible repeat (first | apply Kd.R_alloc | apply Kd.R_drewN | apply Kd.R_drew)); exact HO_8.out⟩, ⟨by (with_reducible repeat (first | apply Kd.R_alloc | apply Kd.R_drewN | apply Kd.R_drew)); exact HO_9.out⟩, ⟨by (with_reducible repeat (first | refine blk_drewN ?_ _ | refine blk_drew ?_ | refine blk_alloc ?_ _)); exact BK150.out⟩, ⟨by repeat (first | (with_reducible first | exact HB.out | apply below_alloc | apply pw_below_drewN | apply below_drew1 | refine below_set ?_ GE150.out) | exact HB.out)⟩⟩
        ·rw [if_neg c25] at H
         have c25b0 : decide (0 ≤ x10_2) = false := decide_eq_false c25
         clear c25
         obtain ⟨y180, hy180⟩ : ∃ y_ : List Int, y_ = (([] : List Int)) := ⟨_, rfl⟩
         replace H : (spec_BestBreaking.l2 k2 l1 x8_2 x9_2 y180 0) = some (r1, r2, r3) := by first | (rw [hy180]; with_reducible exact H) | (have H2_ := (Option.bind_some _ _).symm.trans H; rw [hy180]; with_reducible exact H2_) | (have H2_ := (Option.bind_some _ _).symm.trans H; with_reducible exact H2_) | with_reducible exact H | (rw [hy180]; exact H) | exact H
         have Ny180 := Aside0.mk hy180
         clear hy180
         have H' := Aside0.mk H
         clear H
         go_wp2_with (first | ((with_reducible refine gate_dst (N := 112) rfl ?_); refine Kd.R_lit (Kd.int .i64) _ 3 ?hg (N := 112) ?hd (xs := ([] : List Int)) (inner := []) (ok := fun _ => True) (okp := fun _ => True) ?hr ?hp (fun _ hk => hk) trivial (Below.refl _ _) (Nat.le_refl _) zp36 ?_; (case hd => rfl); (case hg => rfl); (case hr => first | (go_simp; done) | (go_simp; rfl)); (case hp => exact (Reps.none _ _)); intro v181 w114 ho115 hb hg_ hnew_; clear hg_ hnew_; (first | rw [← Ny180.out] at ho115 | (simp only [Int.reduceToNat] at ho115; rw [← Ny180.out] at ho115)); have n0_ := Aside0.mk (Kd.R_elder' zp12 (Kd.R_base ho115) hb); have n1_ := Aside0.mk (Kd.R_elder' zp8 (Kd.R_base ho115) hb); have n2_ := Aside0.mk (Kd.R_elder' zp11 (Kd.R_base ho115) hb); have n3_ := Aside0.mk (Kd.R_lower (Kd.R_new' (Kd.R_new' (Kd.R_new' ho115 (Kd.R_lt zp12)) (Kd.R_lt zp8)) (Kd.R_lt zp11)) (below_size zp3)); have n4_ := Aside0.mk (blk_below (g := gb150) (o := .cells #[.int .i64 a0_0, .int .i64 a0_1, .int .i64 a0_2] 27 (0, 0)) zp9 hb); have n5_ := Aside0.mk (below_step zp3 hb); clear HO_7; clear HO_8; clear HO_9; clear BK150; clear HB; have HO_7 := n0_; have HO_8 := n1_; have HO_9 := n2_; have HO182 := n3_; have BK150 := n4_; have HB := n5_; clear n0_ n1_ n2_ n3_ n4_ n5_; clear hb ho115))
         go_loopg [14, 15] k2 (fun kq v14 v15 w' => ∃ (x14_3 : List Int) (x15_3 : Int), v15 = .int .i64 x15_3 ∧ Aside0 (spec_BestBreaking.l2 kq l1 x8_2 x9_2 x14_3 x15_3 = some (r1, r2, r3)) ∧ Aside0 (kq ≤ k2) ∧ Aside0 (Kd.R (Kd.int .i64) 3 w' w.heap.size (fun k_ => some k_ ≠ (v160 : Value).ownBlock ∧ some k_ ≠ (v14 : Value).ownBlock) v157 x8_2) ∧ Aside0 (Kd.R (Kd.int .i64) 3 w' w.heap.size (fun k_ => some k_ ≠ (v157 : Value).ownBlock ∧ some k_ ≠ (v14 : Value).ownBlock) v160 x9_2) ∧ Aside0 (Kd.R (Kd.int .i64) 3 w' w.heap.size (fun k_ => some k_ ≠ (v157 : Value).ownBlock ∧ some k_ ≠ (v160 : Value).ownBlock) v14 x14_3) ∧ Aside0 (w'.heap[gb150]? = some (.cells #[.int .i64 a0_0, .int .i64 a0_1, .int .i64 a0_2] 27 (0, 0))) ∧ Aside0 (Below w.heap.size w w'))
         case atStart => exact ⟨(y180), (0), zp6, H', ⟨Nat.le_refl _⟩, ⟨by (with_reducible repeat (first | apply Kd.R_alloc | apply Kd.R_drewN | apply Kd.R_drew)); exact Kd.R_mono HO_8.out (fun _ hk => ⟨hk.1.2, hk.2⟩)⟩, ⟨by (with_reducible repeat (first | apply Kd.R_alloc | apply Kd.R_drewN | apply Kd.R_drew)); exact Kd.R_mono HO_9.out (fun _ hk => ⟨hk.1.2, hk.2⟩)⟩, ⟨by (with_reducible repeat (first | apply Kd.R_alloc | apply Kd.R_drewN | apply Kd.R_drew)); exact Kd.R_mono HO182.out (fun _ hk => ⟨hk.1.2, hk.2⟩)⟩, ⟨by (with_reducible repeat (first | refine blk_drewN ?_ _ | refine blk_drew ?_ | refine blk_alloc ?_ _)); exact BK150.out⟩, ⟨by repeat (first | (with_reducible first | exact HB.out | apply below_alloc | apply pw_below_drewN | apply below_drew1 | refine below_set ?_ GE150.out) | exact HB.out)⟩⟩
         case round =>
          clear H'
          try clear c1
          try clear p1
          try clear q1
          try clear hx1
          try clear c2
          try clear p2
          try clear c3
          try clear c4
          try clear c5
          try clear c6
          try clear p6
          try clear c8
          try clear p8
          try clear q8
          try clear hx8
          try clear hf8
          try clear c9
          try clear p9
          try clear q9
          try clear hx9
          try clear hf9
          try clear p16
          try clear q16
          try clear p17
          try clear q17
          try clear hx17
          try clear c25
          try clear c25b0
          try clear c26
          try clear c26b0
          try clear c39
          try clear c40
          try clear c40b0
          try clear c40b1
          try clear c41
          try clear c41b0
          try clear c41b1
          try clear c43
          try clear c43b0
          try clear c43b1
          try clear c45
          try clear c46
          try clear c47
          try clear c53
          try clear c61
          try clear p64
          try clear c80
          try clear c80b0
          try clear c81
          try clear c81b0
          try clear c82
          try clear c82b0
          try clear c83
          try clear c83b0
          try clear c83b1
          try clear c84
          try clear c84b0
          try clear p85
          try clear q85
          try clear hx85
          try clear hf85
          try clear p86
          try clear q86
          try clear hx86
          try clear hf86
          try clear c96
          try clear c96b0
          try clear c97
          try clear c97b0
          try clear p98
          try clear q98
          try clear hx98
          try clear hf98
          try clear p99
          try clear q99
          try clear hx99
          try clear hf99
          try clear hx170_0
          try clear hx173_0
          try clear hx174_0
          try clear hx177_0
          try clear hx85_0
          try clear hx86_0
          try clear hx98_0
          try clear hx99_0
          try clear p167
          try clear p170
          try clear p173
          try clear p174
          try clear p177
          try clear p85
          try clear p86
          try clear p98
          try clear p99
          try clear q167
          try clear q170
          try clear q173
          try clear q174
          try clear q177
          try clear q85
          try clear q86
          try clear q98
          try clear q99
          obtain ⟨x14_3, x15_3, rfl, HA, HK3, HO_8, HO_9, HO_14, BK150, HB⟩ := hrel
          cases gk with
          | zero => exact absurd HA.out (by simp [spec_BestBreaking.l2])
          | succ k3 =>
           have H := HA.out
           clear HA
           simp only [spec_BestBreaking.l2] at H
           by_cases c116 : x15_3 < (l1.length : Int)
           ·rw [if_pos c116] at H
            have c116b0 : decide (x15_3 < (l1.length : Int)) = true := decide_eq_true c116
            clear c116
            by_cases c117 : 0 ≤ x15_3
            ·rw [if_pos c117] at H
             have c117b0 : decide (0 ≤ x15_3) = true := decide_eq_true c117
             clear c117
             by_cases c118 : x15_3 < (x9_2.length : Int)
             ·rw [if_pos c118] at H
              have c118b0 : decide (x15_3 < (x9_2.length : Int)) = true := decide_eq_true c118
              clear c118
              by_cases c119 : x14_3.length < 17592186044416
              ·rw [if_pos c119] at H
               have LMc119 := Aside0.mk c119
               clear c119
               obtain ⟨y184, hy184⟩ : ∃ y_ : List Int, y_ = (x14_3 ++ [rd x9_2 x15_3]) := ⟨_, rfl⟩
               replace H : (spec_BestBreaking.l2 k3 l1 x8_2 x9_2 y184 (wrap64 (x15_3 + (rd x9_2 x15_3)))) = some (r1, r2, r3) := by first | (rw [hy184]; with_reducible exact H) | (have H2_ := (Option.bind_some _ _).symm.trans H; rw [hy184]; with_reducible exact H2_) | (have H2_ := (Option.bind_some _ _).symm.trans H; with_reducible exact H2_) | with_reducible exact H | (rw [hy184]; exact H) | exact H
               have Ny184 := Aside0.mk hy184
               clear hy184
               have H' := Aside0.mk H
               clear H
               obtain ⟨Ao120, co120, eo120⟩ := Kd.R_slice HO_9.out
               subst eo120
               have p183 : 0 ≤ (x15_3 : Int) := of_decide_eq_true zp1
               have q183 : x15_3 < (x9_2.length : Int) := of_decide_eq_true zp1
               obtain ⟨ad183, e183, hx183_0⟩ := Kd.at_int (Kd.R_reads' HO_9.out).2.2 x15_3 p183 q183
               cases e183
               replace p183 := eq_true p183
               replace q183 := eq_true q183
               go_wp2_with (first | ((with_reducible refine gate_builtin (b := .append) (xs := #[.tmp 123, .tmp 128]) rfl ?_); at_builtin; refine Kd.R_append (Kd.int .i64) (w0 := w) w.heap.size rfl (.tmp 123) (.tmp 128) 24 3 (.int .i64 0) 8 rfl Try.underlying24 info3 rfl (by decide) zp38 u14 x14_3 (rd x9_2 x15_3) [.int .i64 (rd x9_2 x15_3)] (fun k_ => some k_ ≠ (v157 : Value).ownBlock ∧ some k_ ≠ (.slice (some ad183) x9_2.length co120 : Value).ownBlock) (fun _ => False) rfl rfl ?aP (fun _ hk => hk.elim) ?aF ?aO ?aB ?aS ?aL ?_; (case aP => exact rfl); (case aB => exact zp3); (case aF => exact (fun k_ hk => ⟨Kd.fresh' (Kd.R_lt zp8) k_ hk, Kd.fresh' (Kd.R_lt zp11) k_ hk⟩)); (case aO => exact (by (with_reducible repeat (first | apply Kd.R_alloc | apply Kd.R_drewN | apply Kd.R_drew)); exact HO_14.out)); (case aS => exact (below_size zp3)); (case aL => have := LMc119.out; omega); intro v185 w121 ho hb hg hat; rw [← Ny184.out] at ho; have n0_ := Aside0.mk (Kd.R_after (ok := (fun k_ => some k_ ≠ (.slice (some ad183) x9_2.length co120 : Value).ownBlock)) zp8 hg hat); have n1_ := Aside0.mk (Kd.R_after (ok := (fun k_ => some k_ ≠ (v157 : Value).ownBlock)) zp11 hg hat); have n2_ := Aside0.mk (blk_grown (g := gb150) (o := .cells #[.int .i64 a0_0, .int .i64 a0_1, .int .i64 a0_2] 27 (0, 0)) zp9 hg (Kd.R_ne HO_14.out BK150.out (by decide))); have n3_ := Aside0.mk (hb); have n4_ := Aside0.mk (ho); clear HO_8; clear HO_9; clear BK150; clear HB; clear HO_14; have HO_8 := n0_; have HO_9 := n1_; have BK150 := n2_; have HB := n3_; have HO186 := n4_; clear n0_ n1_ n2_ n3_ n4_; clear ho hb hg hat; have p187 : 0 ≤ (x15_3 : Int) := of_decide_eq_true zp1; have q187 : x15_3 < (x9_2.length : Int) := of_decide_eq_true zp1; obtain ⟨ad187, e187, hx187_0⟩ := Kd.at_int (Kd.R_reads' HO_9.out).2.2 x15_3 p187 q187; obtain rfl : ad183 = ad187 := (by injection e187); replace p187 := eq_true p187; replace q187 := eq_true q187))
               go_roundg k3
               case measure => have := HJ2.out; have := HK2.out; have := HK3.out; omega
               case rel => exact ⟨(y184), (wrap64 (x15_3 + (rd x9_2 x15_3))), zp6, H', ⟨by have := HJ2.out; have := HK2.out; have := HK3.out; omega⟩, ⟨by (with_reducible repeat (first | apply Kd.R_alloc | apply Kd.R_drewN | apply Kd.R_drew)); exact HO_8.out⟩, ⟨by (with_reducible repeat (first | apply Kd.R_alloc | apply Kd.R_drewN | apply Kd.R_drew)); exact HO_9.out⟩, ⟨by (with_reducible repeat (first | apply Kd.R_alloc | apply Kd.R_drewN | apply Kd.R_drew)); exact HO186.out⟩, ⟨by (with_reducible repeat (first | refine blk_drewN ?_ _ | refine blk_drew ?_ | refine blk_alloc ?_ _)); exact BK150.out⟩, ⟨by repeat (first | (with_reducible first | exact HB.out | apply below_alloc | apply pw_below_drewN | apply below_drew1 | refine below_set ?_ GE150.out) | exact HB.out)⟩⟩
              ·rw [if_neg c119] at H
               exact absurd H zp36
             ·rw [if_neg c118] at H
              exact absurd H zp36
            ·rw [if_neg c117] at H
             exact absurd H zp36
           ·rw [if_neg c116] at H
            have c116b0 : decide (x15_3 < (l1.length : Int)) = false := decide_eq_false c116
            clear c116
            by_cases c122 : 0 < (x8_2.length : Int)
            ·rw [if_pos c122] at H
             have c122b0 : decide (0 < (x8_2.length : Int)) = true := decide_eq_true c122
             have c122b1 : decide (0 < x8_2.length) = true := decide_eq_true zp38
             clear c122
             simp only [Option.some.injEq, Prod.mk.injEq] at H
             obtain ⟨rfl, rfl, rfl⟩ := H
             try go_wp2
             have n0_ := Aside0.mk (Kd.R_drew HO_8.out)
             have n1_ := Aside0.mk (Kd.R_drew HO_9.out)
             have n2_ := Aside0.mk (Kd.R_drew HO_14.out)
             have n3_ := Aside0.mk (blk_drew BK150.out)
             have n4_ := Aside0.mk (below_drew1 HB.out)
             clear HO_8
             clear HO_9
             clear HO_14
             clear BK150
             clear HB
             have HO_8 := n0_
             have HO_9 := n1_
             have HO_14 := n2_
             have BK150 := n3_
             have HB := n4_
             clear n0_ n1_ n2_ n3_ n4_
             obtain ⟨Ao124, co124, eo124⟩ := Kd.R_slice HO_8.out
             (first | subst eo124 | (injection eo124 with f1_ f2_ f3_; have f4_ := f1_.symm; have f5_ := f3_.symm; clear f1_ f2_ f3_; subst f4_; subst f5_))
             have p188 : 0 ≤ (0 : Int) := zp38
             have q188 : 0 < (x8_2.length : Int) := of_decide_eq_true zp1
             obtain ⟨ad188, e188, hx188_0⟩ := Kd.at_int (Kd.R_reads' HO_8.out).2.2 0 p188 q188
             cases e188
             have qi188 : (0 < x8_2.length) = True := eq_true zp38
             (try rw [show ((0 : Int)).toNat = 0 from rfl] at hx188_0)
             (try rw [Addr.add_zero'] at hx188_0)
             replace p188 := eq_true p188
             replace q188 := eq_true q188
             refine start_ (n := 7) (S := fun w' => w'.cell? ad188 = some (.int .i64 (rd x8_2 0))) (ds := []) #[false, false, false, false, false, false, false] (by kernel_rfl) rfl rfl (hx188_0) (fun hHeld => ?_)
             generalize wr.drew = w123 at HO_8 HO_9 HO_14 BK150 HB hx188_0 hHeld ⊢
             refine pure_ (i := 0) (N := some 130) (v := ?_) (a' := ?_) #[true, false, false, false, false, false, false] rfl rfl (by kernel_rfl) (fun _ _ _ h => h) (Or.inl ⟨by rfl, ?_⟩) ?_ ?_
             rotate_left
             ·intro w'
              go_simp
              with_reducible rfl
             rotate_left
             ·simp only [Act.put, List.setIfInBounds_toArray, List.set_cons_zero, List.set_cons_succ, i64_w, i32_w]
              rfl
             refine pure_ (i := 1) (N := some 131) (v := ?_) (a' := ?_) #[true, true, false, false, false, false, false] rfl rfl (by kernel_rfl) (fun _ _ _ h => h) (Or.inl ⟨by rfl, ?_⟩) ?_ ?_
             rotate_left
             ·intro w'
              go_simp
              with_reducible rfl
             rotate_left
             ·simp only [Act.put, List.setIfInBounds_toArray, List.set_cons_zero, List.set_cons_succ, i64_w, i32_w]
              rfl
             refine pure_ (i := 2) (N := some 132) (v := ?_) (a' := ?_) #[true, true, true, false, false, false, false] rfl rfl (by kernel_rfl) (fun _ _ _ h => h) (Or.inl ⟨by rfl, ?_⟩) ?_ ?_
             rotate_left
             ·intro w'
              go_simp
              with_reducible rfl
             rotate_left
             ·simp only [Act.put, List.setIfInBounds_toArray, List.set_cons_zero, List.set_cons_succ, i64_w, i32_w]
              rfl
             refine pure_ (i := 4) (N := some 4) (v := ?_) (a' := ?_) #[true, true, true, false, true, false, false] rfl rfl (by kernel_rfl) (fun _ _ _ h => h) (Or.inl ⟨by rfl, ?_⟩) ?_ ?_
             rotate_left
             ·intro w'
              go_simp
              with_reducible rfl
             rotate_left
             ·simp only [Act.put, List.setIfInBounds_toArray, List.set_cons_zero, List.set_cons_succ, i64_w, i32_w]
              rfl
             refine take_ (i := 3) (N := some 133) (v := ?_) (a' := ?_) #[true, true, true, true, true, false, false] rfl rfl (by kernel_rfl) (fun _ _ _ h => h) (Or.inl ⟨by rfl, ?_⟩) hHeld ?_ ?_
             rotate_left
             ·intro w' s0
              go_simp
              with_reducible rfl
             rotate_left
             ·simp only [Act.put, List.setIfInBounds_toArray, List.set_cons_zero, List.set_cons_succ, i64_w, i32_w]
              rfl
             refine pure_ (i := 5) (N := some 5) (v := ?_) (a' := ?_) #[true, true, true, true, true, true, false] rfl rfl (by kernel_rfl) (fun _ _ _ h => h) (Or.inl ⟨by rfl, ?_⟩) ?_ ?_
             rotate_left
             ·intro w'
              go_simp
              with_reducible rfl
             rotate_left
             ·simp only [Act.put, List.setIfInBounds_toArray, List.set_cons_zero, List.set_cons_succ, i64_w, i32_w]
              rfl
             refine pure_ (i := 6) (N := some 6) (v := ?_) (a' := ?_) #[true, true, true, true, true, true, true] rfl rfl (by kernel_rfl) (fun _ _ _ h => h) (Or.inl ⟨by rfl, ?_⟩) ?_ ?_
             rotate_left
             ·intro w'
              go_simp
              with_reducible rfl
             rotate_left
             ·simp only [Act.put, List.setIfInBounds_toArray, List.set_cons_zero, List.set_cons_succ, i64_w, i32_w]
              rfl
             refine done_ (by kernel_rfl) ?_
             try go_wp2
             go_ret3
             exact ⟨_, by first | rfl | (simp [errW_none, errW_some] <;> rfl) | (simp only [← hji16]; first | rfl | (simp [errW_none, errW_some] <;> rfl)) | (simp [*, errW_none, errW_some] <;> rfl), by (with_reducible repeat (first | apply Kd.R_alloc | apply Kd.R_drewN | apply Kd.R_drew)); exact Kd.R_mono HO_14.out (fun _ hk => trivial), by repeat (first | (with_reducible first | exact HB.out | apply below_alloc | apply pw_below_drewN | apply below_drew1 | refine below_set ?_ GE150.out) | exact HB.out)⟩
            ·rw [if_neg c122] at H
             exact absurd H zp36
     ·rw [if_neg c18] at H
      exact absurd H zp36
    ·rw [if_neg c17] at H
     exact absurd H zp36
end Go.Proofs.Ytnbmlblcmjaclaa.PFnExactBestBreaking
