/- Written by a program of this session with the help of the kit's print: of each Go function a Lean function, and the proof that its call comes to just what that tells. No condition beyond those that each theorem states. -/
import Derived.Test.YtlhipchbjgfodaaPFnReset0
import Derived.Test.YtlhipchbjgfodaaPFnReset1
import Derived.Test.YtlhipchbjgfodaaPFnReset2
import Derived.Test.YtlhipchbjgfodaaPFnReset3
namespace Go.Proofs.Ytlhipchbjgfodaa.PFnReset
open Go.RowKit Go.Proofs.YtlhipchbjgfodaaW.PrintWords Go.Proofs.YtlhipchbjgfodaaW.PrintLast Go.Proofs.YtlhipchbjgfodaaW.PrintMore
attribute [local go_sem] max2_int min2_int max_two min_two max_three min_three max_four min_four
set_option linter.unusedVariables false
set_option linter.unusedSimpArgs false
mutual
def laws_FnReset.j0 : Nat → List ByteArray → List ByteArray → Int → Int → Int → Bool → Option (Bool)
 | 0, _, _, _, _, _, _ => none
 | k + 1, x3, x4, x5, x6, x7, x63 => if x63 = true then (some false) else (if 0 ≤ x5 then (if x5 ≤ (wrap64 (x5 + x7)) then (if (wrap64 (x5 + x7)) ≤ (x4.length : Int) then ((impl_ApplyReset.f k x3 x5 x6 ((x4.take ((wrap64 (x5 + x7)) : Int).toNat).drop (x5 : Int).toNat)).bind fun bt212 => (if x5 ≤ (wrap64 (x5 + x6)) then (if (wrap64 (x5 + x6)) ≤ (x3.length : Int) then ((impl_ApplyReset.f k x4 x5 x7 ((x3.take ((wrap64 (x5 + x6)) : Int).toNat).drop (x5 : Int).toNat)).bind fun bt220 => (if bt212.2 = true then (if bt220.2 = true then ((laws_strings.f k bt212.1 x4).bind fun t224 => (if t224 = true then ((laws_strings.f k bt220.1 x3).bind fun t225 => (laws_FnReset.j1 k x3 x4 x5 x6 x7 (!t225))) else (laws_FnReset.j1 k x3 x4 x5 x6 x7 true))) else (laws_FnReset.j1 k x3 x4 x5 x6 x7 true)) else (laws_FnReset.j1 k x3 x4 x5 x6 x7 true))) else (none)) else (none))) else (none)) else (none)) else (none))
def laws_FnReset.j1 : Nat → List ByteArray → List ByteArray → Int → Int → Int → Bool → Option (Bool)
 | 0, _, _, _, _, _, _ => none
 | k + 1, x3, x4, x5, x6, x7, x107 => if x107 = true then (some false) else (if x6 > 0 then (if x7 > 0 then (if 0 ≤ x5 then (if x5 < (x3.length : Int) then (if x5 < (x4.length : Int) then (if (rdOf ByteArray.empty x3 x5).toList = (rdOf ByteArray.empty x4 x5).toList then (some false) else (if 0 ≤ (wrap64 ((wrap64 (x5 + x6)) - 1)) then (if (wrap64 ((wrap64 (x5 + x6)) - 1)) < (x3.length : Int) then (if 0 ≤ (wrap64 ((wrap64 (x5 + x7)) - 1)) then (if (wrap64 ((wrap64 (x5 + x7)) - 1)) < (x4.length : Int) then (some ((rdOf ByteArray.empty x3 (wrap64 ((wrap64 (x5 + x6)) - 1))).toList != (rdOf ByteArray.empty x4 (wrap64 ((wrap64 (x5 + x7)) - 1))).toList)) else (none)) else (none)) else (none)) else (none))) else (none)) else (none)) else (none)) else ((laws_strings.f k x3 x4).bind fun t230 => (if (((x3.length : Int) == (x4.length : Int)) == t230) = true then (some true) else (some (decide ((wrap64 (x6 + x7)) > 0)))))) else ((laws_strings.f k x3 x4).bind fun t231 => (if (((x3.length : Int) == (x4.length : Int)) == t231) = true then (some true) else (some (decide ((wrap64 (x6 + x7)) > 0))))))
end
def laws_FnReset.f (k : Nat) (l0 : List Int) : Option (Bool) := if (l0.length : Int) > 1048576 then (some true) else ((spec_DrawResetOf.f k l0).bind fun bt199 => ((impl_ResetOf.f k bt199.1 bt199.2).bind fun bt205 => (if bt205.1 < 0 then (laws_FnReset.j0 k bt199.1 bt199.2 bt205.1 bt205.2.1 bt205.2.2 true) else (if bt205.2.1 < 0 then (laws_FnReset.j0 k bt199.1 bt199.2 bt205.1 bt205.2.1 bt205.2.2 true) else (if bt205.2.2 < 0 then (laws_FnReset.j0 k bt199.1 bt199.2 bt205.1 bt205.2.1 bt205.2.2 true) else (if (wrap64 (bt205.1 + bt205.2.1)) > (bt199.1.length : Int) then (laws_FnReset.j0 k bt199.1 bt199.2 bt205.1 bt205.2.1 bt205.2.2 true) else (if (wrap64 (bt205.1 + bt205.2.2)) > (bt199.2.length : Int) then (laws_FnReset.j0 k bt199.1 bt199.2 bt205.1 bt205.2.1 bt205.2.2 true) else (laws_FnReset.j0 k bt199.1 bt199.2 bt205.1 bt205.2.1 bt205.2.2 ((wrap64 ((bt199.1.length : Int) - bt205.2.1)) != (wrap64 ((bt199.2.length : Int) - bt205.2.2)))))))))))
theorem laws_FnReset.mono_l : ∀ k, (∀ y0 y1 y2 y3 y4 y5, LeO (laws_FnReset.j0 k y0 y1 y2 y3 y4 y5) (laws_FnReset.j0 (k + 1) y0 y1 y2 y3 y4 y5)) ∧ (∀ y0 y1 y2 y3 y4 y5, LeO (laws_FnReset.j1 k y0 y1 y2 y3 y4 y5) (laws_FnReset.j1 (k + 1) y0 y1 y2 y3 y4 y5))
 | 0 => ⟨fun _ _ _ _ _ _ r h => by simp [laws_FnReset.j0] at h, fun _ _ _ _ _ _ r h => by simp [laws_FnReset.j1] at h⟩
 | k + 1 => by
  obtain ⟨ih0, ih1⟩ := laws_FnReset.mono_l k
  refine ⟨?_, ?_⟩
  ·intro y0 y1 y2 y3 y4 y5
   unfold laws_FnReset.j0
   repeat' first
   | (with_reducible exact ih0 _ _ _ _ _ _)
   | (with_reducible exact ih1 _ _ _ _ _ _)
   | (with_reducible exact impl_ApplyReset.mono _ _ _ _ _)
   | (with_reducible exact impl_ResetOf.mono _ _ _)
   | (with_reducible exact laws_strings.mono _ _ _)
   | (with_reducible exact spec_DrawResetOf.mono _ _)
   | (with_reducible exact LeO.refl _)
   | (with_reducible exact LeO.none _)
   | (with_reducible refine LeO.ite ?_ ?_)
   | (with_reducible refine LeO.bind ?_ (fun _ => ?_))
   | exact ih0 _ _ _ _ _ _
   | exact ih1 _ _ _ _ _ _
   | exact impl_ApplyReset.mono _ _ _ _ _
   | exact impl_ResetOf.mono _ _ _
   | exact laws_strings.mono _ _ _
   | exact spec_DrawResetOf.mono _ _
   | exact LeO.none _
   | refine LeO.ite ?_ ?_
   | refine LeO.bind ?_ (fun _ => ?_)
  ·intro y0 y1 y2 y3 y4 y5
   unfold laws_FnReset.j1
   repeat' first
   | (with_reducible exact ih0 _ _ _ _ _ _)
   | (with_reducible exact ih1 _ _ _ _ _ _)
   | (with_reducible exact impl_ApplyReset.mono _ _ _ _ _)
   | (with_reducible exact impl_ResetOf.mono _ _ _)
   | (with_reducible exact laws_strings.mono _ _ _)
   | (with_reducible exact spec_DrawResetOf.mono _ _)
   | (with_reducible exact LeO.refl _)
   | (with_reducible exact LeO.none _)
   | (with_reducible refine LeO.ite ?_ ?_)
   | (with_reducible refine LeO.bind ?_ (fun _ => ?_))
   | exact ih0 _ _ _ _ _ _
   | exact ih1 _ _ _ _ _ _
   | exact impl_ApplyReset.mono _ _ _ _ _
   | exact impl_ResetOf.mono _ _ _
   | exact laws_strings.mono _ _ _
   | exact spec_DrawResetOf.mono _ _
   | exact LeO.none _
   | refine LeO.ite ?_ ?_
   | refine LeO.bind ?_ (fun _ => ?_)
theorem laws_FnReset.mono : ∀ a0 k, LeO (laws_FnReset.f k a0) (laws_FnReset.f (k + 1) a0) := by
 intro a0 k
 obtain ⟨ih0, ih1⟩ := laws_FnReset.mono_l k
 unfold laws_FnReset.f
 repeat' first
  | (with_reducible exact ih0 _ _ _ _ _ _)
  | (with_reducible exact ih1 _ _ _ _ _ _)
  | (with_reducible exact impl_ApplyReset.mono _ _ _ _ _)
  | (with_reducible exact impl_ResetOf.mono _ _ _)
  | (with_reducible exact laws_strings.mono _ _ _)
  | (with_reducible exact spec_DrawResetOf.mono _ _)
  | (with_reducible exact LeO.refl _)
  | (with_reducible exact LeO.none _)
  | (with_reducible refine LeO.ite ?_ ?_)
  | (with_reducible refine LeO.bind ?_ (fun _ => ?_))
  | exact ih0 _ _ _ _ _ _
  | exact ih1 _ _ _ _ _ _
  | exact impl_ApplyReset.mono _ _ _ _ _
  | exact impl_ResetOf.mono _ _ _
  | exact laws_strings.mono _ _ _
  | exact spec_DrawResetOf.mono _ _
  | exact LeO.none _
  | refine LeO.ite ?_ ?_
  | refine LeO.bind ?_ (fun _ => ?_)
set_option maxHeartbeats 8000000 in
set_option maxRecDepth 100000 in
theorem laws_FnReset.calls (k : Nat) (A0 : Option Addr) (c0 : Nat) (l0 : List Int) (r : Bool) (w : World) (hr0 : Kd.C (Kd.int .u8) w A0 l0.length l0) (hc0 : l0.length ≤ c0) (h : laws_FnReset.f k l0 = some r) :
 Calls Try.prog 6 #[.slice A0 l0.length c0] w fun e w' => e = .returned (.bool r) ∧ Below w.heap.size w w' := by
 have HR0 := Aside0.mk hr0
 have HC0 := Aside0.mk hc0
 clear hr0 hc0
 have HB := Aside0.mk (Below.refl w.heap.size w)
 have H : (if (l0.length : Int) > 1048576 then (some true) else ((spec_DrawResetOf.f k l0).bind fun bt199 => ((impl_ResetOf.f k bt199.1 bt199.2).bind fun bt205 => (if bt205.1 < 0 then (laws_FnReset.j0 k bt199.1 bt199.2 bt205.1 bt205.2.1 bt205.2.2 true) else (if bt205.2.1 < 0 then (laws_FnReset.j0 k bt199.1 bt199.2 bt205.1 bt205.2.1 bt205.2.2 true) else (if bt205.2.2 < 0 then (laws_FnReset.j0 k bt199.1 bt199.2 bt205.1 bt205.2.1 bt205.2.2 true) else (if (wrap64 (bt205.1 + bt205.2.1)) > (bt199.1.length : Int) then (laws_FnReset.j0 k bt199.1 bt199.2 bt205.1 bt205.2.1 bt205.2.2 true) else (if (wrap64 (bt205.1 + bt205.2.2)) > (bt199.2.length : Int) then (laws_FnReset.j0 k bt199.1 bt199.2 bt205.1 bt205.2.1 bt205.2.2 true) else (laws_FnReset.j0 k bt199.1 bt199.2 bt205.1 bt205.2.1 bt205.2.2 ((wrap64 ((bt199.1.length : Int) - bt205.2.1)) != (wrap64 ((bt199.2.length : Int) - bt205.2.2)))))))))))) = some r := h
 clear h
 by_cases c2 : (l0.length : Int) > 1048576
 ·rw [if_pos c2] at H
  have c2b0 : decide (1048576 < (l0.length : Int)) = true := decide_eq_true c2
  have c2b1 : decide (1048576 < l0.length) = true := decide_eq_true zp15
  clear c2
  obtain rfl := Option.some.inj H
  go_enter Try.func6, Try.ntmps6
  go_wp2
  repeat (go_quiet (fail); try go_wp2)
  go_ret
  exact ⟨by first | rfl | (simp [errW_none, errW_some] <;> rfl) | (simp [*, errW_none, errW_some] <;> rfl), by repeat (first | (with_reducible first | exact HB.out | apply below_alloc | apply pw_below_drewN | apply below_drew1) | exact HB.out)⟩
 ·rw [if_neg c2] at H
  have c2b0 : decide (1048576 < (l0.length : Int)) = false := decide_eq_false c2
  have c2b1 : decide (1048576 < l0.length) = false := decide_eq_false zp15
  clear c2
  replace H := Option.bind_eq_some_iff.mp H
  obtain ⟨⟨t199, t200⟩, A30, H⟩ := H
  replace H : ((impl_ResetOf.f k t199 t200).bind fun bt205 => (if bt205.1 < 0 then (laws_FnReset.j0 k t199 t200 bt205.1 bt205.2.1 bt205.2.2 true) else (if bt205.2.1 < 0 then (laws_FnReset.j0 k t199 t200 bt205.1 bt205.2.1 bt205.2.2 true) else (if bt205.2.2 < 0 then (laws_FnReset.j0 k t199 t200 bt205.1 bt205.2.1 bt205.2.2 true) else (if (wrap64 (bt205.1 + bt205.2.1)) > (t199.length : Int) then (laws_FnReset.j0 k t199 t200 bt205.1 bt205.2.1 bt205.2.2 true) else (if (wrap64 (bt205.1 + bt205.2.2)) > (t200.length : Int) then (laws_FnReset.j0 k t199 t200 bt205.1 bt205.2.1 bt205.2.2 true) else (laws_FnReset.j0 k t199 t200 bt205.1 bt205.2.1 bt205.2.2 ((wrap64 ((t199.length : Int) - bt205.2.1)) != (wrap64 ((t200.length : Int) - bt205.2.2)))))))))) = some r := H
  have A3 := Aside0.mk A30
  clear A30
  replace H := Option.bind_eq_some_iff.mp H
  obtain ⟨⟨t205, t206, t207⟩, A40, H⟩ := H
  replace H : (if t205 < 0 then (laws_FnReset.j0 k t199 t200 t205 t206 t207 true) else (if t206 < 0 then (laws_FnReset.j0 k t199 t200 t205 t206 t207 true) else (if t207 < 0 then (laws_FnReset.j0 k t199 t200 t205 t206 t207 true) else (if (wrap64 (t205 + t206)) > (t199.length : Int) then (laws_FnReset.j0 k t199 t200 t205 t206 t207 true) else (if (wrap64 (t205 + t207)) > (t200.length : Int) then (laws_FnReset.j0 k t199 t200 t205 t206 t207 true) else (laws_FnReset.j0 k t199 t200 t205 t206 t207 ((wrap64 ((t199.length : Int) - t206)) != (wrap64 ((t200.length : Int) - t207))))))))) = some r := H
  have A4 := Aside0.mk A40
  clear A40
  have HC5 := Aside0.mk H
  clear H
  go_enter Try.func6, Try.ntmps6
  go_upto_region 5 with (first | (go_at_call 23; (with_reducible refine (spec_DrawResetOf.calls k _ _ l0 t199 t200 _ ?side1 ?side2 A3.out).mono ?_); (case side1 => repeat (first | exact HR0.out | (with_reducible refine Kd.C_alloc ?_ _) | (with_reducible refine Kd.C_drewN ?_ _) | (with_reducible refine Kd.C_drew ?_))); (case side2 => exact HC0.out); rintro e w6 ⟨v201, v203, rfl, ho0, ho1, hb⟩; have n0_ := Aside0.mk (Kd.R_lower ho0 (below_size zp1)); have n1_ := Aside0.mk (Kd.R_lower ho1 (below_size zp1)); have n2_ := Aside0.mk (below_step zp1 hb); clear HB; have HO202 := n0_; have HO204 := n1_; have HB := n2_; clear n0_ n1_ n2_; (try clear hb); (try clear hb2); (try clear hk); (try clear hi); (try clear ho0); (try clear ho1); obtain ⟨Ao7, co7, eo7⟩ := Kd.R_slice HO202.out; subst eo7; obtain ⟨Ao8, co8, eo8⟩ := Kd.R_slice HO204.out; subst eo8) | (go_at_call 17; (with_reducible refine (impl_ResetOf.calls k _ _ t199 _ _ t200 t205 t206 t207 _ ?side1 ?side2 ?side3 ?side4 A4.out).mono ?_); (case side1 => repeat (first | exact (Kd.R_reads' HO202.out).2.2 | (with_reducible refine Kd.C_alloc ?_ _) | (with_reducible refine Kd.C_drewN ?_ _) | (with_reducible refine Kd.C_drew ?_))); (case side2 => exact (Kd.R_reads' HO202.out).2.1); (case side3 => repeat (first | exact (Kd.R_reads' HO204.out).2.2 | (with_reducible refine Kd.C_alloc ?_ _) | (with_reducible refine Kd.C_drewN ?_ _) | (with_reducible refine Kd.C_drew ?_))); (case side4 => exact (Kd.R_reads' HO204.out).2.1); rintro e w' ⟨rfl, ⟨nd, rfl⟩⟩; (try first | exact ⟨rfl, _, World.drewN_drewN _ _ _⟩ | exact ⟨rfl, _, Eq.trans (World.drewN_drewN _ _ _) (congrArg (World.drewN _) (Nat.add_assoc _ _ _))⟩)))
  repeat (go_quiet (first | (go_at_call 23; (with_reducible refine (spec_DrawResetOf.calls k _ _ l0 t199 t200 _ ?side1 ?side2 A3.out).mono ?_); (case side1 => repeat (first | exact HR0.out | (with_reducible refine Kd.C_alloc ?_ _) | (with_reducible refine Kd.C_drewN ?_ _) | (with_reducible refine Kd.C_drew ?_))); (case side2 => exact HC0.out); rintro e w6 ⟨v201, v203, rfl, ho0, ho1, hb⟩; have n0_ := Aside0.mk (Kd.R_lower ho0 (below_size zp1)); have n1_ := Aside0.mk (Kd.R_lower ho1 (below_size zp1)); have n2_ := Aside0.mk (below_step zp1 hb); clear HB; have HO202 := n0_; have HO204 := n1_; have HB := n2_; clear n0_ n1_ n2_; (try clear hb); (try clear hb2); (try clear hk); (try clear hi); (try clear ho0); (try clear ho1); obtain ⟨Ao7, co7, eo7⟩ := Kd.R_slice HO202.out; subst eo7; obtain ⟨Ao8, co8, eo8⟩ := Kd.R_slice HO204.out; subst eo8) | (go_at_call 17; (with_reducible refine (impl_ResetOf.calls k _ _ t199 _ _ t200 t205 t206 t207 _ ?side1 ?side2 ?side3 ?side4 A4.out).mono ?_); (case side1 => repeat (first | exact (Kd.R_reads' HO202.out).2.2 | (with_reducible refine Kd.C_alloc ?_ _) | (with_reducible refine Kd.C_drewN ?_ _) | (with_reducible refine Kd.C_drew ?_))); (case side2 => exact (Kd.R_reads' HO202.out).2.1); (case side3 => repeat (first | exact (Kd.R_reads' HO204.out).2.2 | (with_reducible refine Kd.C_alloc ?_ _) | (with_reducible refine Kd.C_drewN ?_ _) | (with_reducible refine Kd.C_drew ?_))); (case side4 => exact (Kd.R_reads' HO204.out).2.1); rintro e w' ⟨rfl, ⟨nd, rfl⟩⟩; (try first | exact ⟨rfl, _, World.drewN_drewN _ _ _⟩ | exact ⟨rfl, _, Eq.trans (World.drewN_drewN _ _ _) (congrArg (World.drewN _) (Nat.add_assoc _ _ _))⟩))); go_upto_region 5 with (first | (go_at_call 23; (with_reducible refine (spec_DrawResetOf.calls k _ _ l0 t199 t200 _ ?side1 ?side2 A3.out).mono ?_); (case side1 => repeat (first | exact HR0.out | (with_reducible refine Kd.C_alloc ?_ _) | (with_reducible refine Kd.C_drewN ?_ _) | (with_reducible refine Kd.C_drew ?_))); (case side2 => exact HC0.out); rintro e w6 ⟨v201, v203, rfl, ho0, ho1, hb⟩; have n0_ := Aside0.mk (Kd.R_lower ho0 (below_size zp1)); have n1_ := Aside0.mk (Kd.R_lower ho1 (below_size zp1)); have n2_ := Aside0.mk (below_step zp1 hb); clear HB; have HO202 := n0_; have HO204 := n1_; have HB := n2_; clear n0_ n1_ n2_; (try clear hb); (try clear hb2); (try clear hk); (try clear hi); (try clear ho0); (try clear ho1); obtain ⟨Ao7, co7, eo7⟩ := Kd.R_slice HO202.out; subst eo7; obtain ⟨Ao8, co8, eo8⟩ := Kd.R_slice HO204.out; subst eo8) | (go_at_call 17; (with_reducible refine (impl_ResetOf.calls k _ _ t199 _ _ t200 t205 t206 t207 _ ?side1 ?side2 ?side3 ?side4 A4.out).mono ?_); (case side1 => repeat (first | exact (Kd.R_reads' HO202.out).2.2 | (with_reducible refine Kd.C_alloc ?_ _) | (with_reducible refine Kd.C_drewN ?_ _) | (with_reducible refine Kd.C_drew ?_))); (case side2 => exact (Kd.R_reads' HO202.out).2.1); (case side3 => repeat (first | exact (Kd.R_reads' HO204.out).2.2 | (with_reducible refine Kd.C_alloc ?_ _) | (with_reducible refine Kd.C_drewN ?_ _) | (with_reducible refine Kd.C_drew ?_))); (case side4 => exact (Kd.R_reads' HO204.out).2.1); rintro e w' ⟨rfl, ⟨nd, rfl⟩⟩; (try first | exact ⟨rfl, _, World.drewN_drewN _ _ _⟩ | exact ⟨rfl, _, Eq.trans (World.drewN_drewN _ _ _) (congrArg (World.drewN _) (Nat.add_assoc _ _ _))⟩))))
  (try simp only [Act.put, List.setIfInBounds_toArray, List.set_cons_zero, List.set_cons_succ])
  go_cut [63] (fun v63 wc => ∃ (kq : Nat) (x63_4 : Bool), v63 = .bool x63_4 ∧ Aside0 (laws_FnReset.j0 kq t199 t200 t205 t206 t207 x63_4 = some r) ∧ Aside0 (kq ≤ k) ∧ Aside0 (Kd.R Kd.string 9 wc w.heap.size (fun k_ => some k_ ≠ ((.slice Ao8 t200.length co8) : Value).ownBlock) (.slice Ao7 t199.length co7) t199) ∧ Aside0 (Kd.R Kd.string 9 wc w.heap.size (fun k_ => some k_ ≠ ((.slice Ao7 t199.length co7) : Value).ownBlock) (.slice Ao8 t200.length co8) t200) ∧ Aside0 (Below w.heap.size w wc))
  case first =>
   have H := HC5.out
   clear HC5
   by_cases c9 : t205 < 0
   ·rw [if_pos c9] at H
    have c9b0 : decide (t205 < 0) = true := decide_eq_true c9
    clear c9
    (first | rw [c9b0] | (simp only [i64_w, i32_w]; rw [c9b0]) | skip)
    have H' := Aside0.mk H
    clear H
    go_wp2
    repeat (go_quiet (fail); try go_wp2)
    go_meet
    case rel => exact ⟨_, (true), zp10, H', ⟨by first | omega | exact Nat.le_refl _⟩, ⟨by (with_reducible repeat (first | apply Kd.R_alloc | apply Kd.R_drewN | apply Kd.R_drew)); exact HO202.out⟩, ⟨by (with_reducible repeat (first | apply Kd.R_alloc | apply Kd.R_drewN | apply Kd.R_drew)); exact HO204.out⟩, ⟨by repeat (first | (with_reducible first | exact HB.out | apply below_alloc | apply pw_below_drewN | apply below_drew1) | exact HB.out)⟩⟩
   ·rw [if_neg c9] at H
    have c9b0 : decide (t205 < 0) = false := decide_eq_false c9
    clear c9
    (first | rw [c9b0] | (simp only [i64_w, i32_w]; rw [c9b0]) | skip)
    by_cases c10 : t206 < 0
    ·rw [if_pos c10] at H
     have c10b0 : decide (t206 < 0) = true := decide_eq_true c10
     clear c10
     have H' := Aside0.mk H
     clear H
     go_wp2
     repeat (go_quiet (fail); try go_wp2)
     go_meet
     case rel => exact ⟨_, (true), zp10, H', ⟨by first | omega | exact Nat.le_refl _⟩, ⟨by (with_reducible repeat (first | apply Kd.R_alloc | apply Kd.R_drewN | apply Kd.R_drew)); exact HO202.out⟩, ⟨by (with_reducible repeat (first | apply Kd.R_alloc | apply Kd.R_drewN | apply Kd.R_drew)); exact HO204.out⟩, ⟨by repeat (first | (with_reducible first | exact HB.out | apply below_alloc | apply pw_below_drewN | apply below_drew1) | exact HB.out)⟩⟩
    ·rw [if_neg c10] at H
     have c10b0 : decide (t206 < 0) = false := decide_eq_false c10
     clear c10
     by_cases c11 : t207 < 0
     ·rw [if_pos c11] at H
      have c11b0 : decide (t207 < 0) = true := decide_eq_true c11
      clear c11
      have H' := Aside0.mk H
      clear H
      go_wp2
      repeat (go_quiet (fail); try go_wp2)
      go_meet
      case rel => exact ⟨_, (true), zp10, H', ⟨by first | omega | exact Nat.le_refl _⟩, ⟨by (with_reducible repeat (first | apply Kd.R_alloc | apply Kd.R_drewN | apply Kd.R_drew)); exact HO202.out⟩, ⟨by (with_reducible repeat (first | apply Kd.R_alloc | apply Kd.R_drewN | apply Kd.R_drew)); exact HO204.out⟩, ⟨by repeat (first | (with_reducible first | exact HB.out | apply below_alloc | apply pw_below_drewN | apply below_drew1) | exact HB.out)⟩⟩
     ·rw [if_neg c11] at H
      have c11b0 : decide (t207 < 0) = false := decide_eq_false c11
      clear c11
      by_cases c12 : (wrap64 (t205 + t206)) > (t199.length : Int)
      ·rw [if_pos c12] at H
       have c12b0 : decide ((t199.length : Int) < (wrap64 (t205 + t206))) = true := decide_eq_true c12
       clear c12
       have H' := Aside0.mk H
       clear H
       go_wp2
       repeat (go_quiet (fail); try go_wp2)
       go_meet
       case rel => exact ⟨_, (true), zp10, H', ⟨by first | omega | exact Nat.le_refl _⟩, ⟨by (with_reducible repeat (first | apply Kd.R_alloc | apply Kd.R_drewN | apply Kd.R_drew)); exact HO202.out⟩, ⟨by (with_reducible repeat (first | apply Kd.R_alloc | apply Kd.R_drewN | apply Kd.R_drew)); exact HO204.out⟩, ⟨by repeat (first | (with_reducible first | exact HB.out | apply below_alloc | apply pw_below_drewN | apply below_drew1) | exact HB.out)⟩⟩
      ·rw [if_neg c12] at H
       have c12b0 : decide ((t199.length : Int) < (wrap64 (t205 + t206))) = false := decide_eq_false c12
       clear c12
       by_cases c13 : (wrap64 (t205 + t207)) > (t200.length : Int)
       ·rw [if_pos c13] at H
        have c13b0 : decide ((t200.length : Int) < (wrap64 (t205 + t207))) = true := decide_eq_true c13
        clear c13
        have H' := Aside0.mk H
        clear H
        go_wp2
        repeat (go_quiet (fail); try go_wp2)
        go_meet
        case rel => exact ⟨_, (true), zp10, H', ⟨by first | omega | exact Nat.le_refl _⟩, ⟨by (with_reducible repeat (first | apply Kd.R_alloc | apply Kd.R_drewN | apply Kd.R_drew)); exact HO202.out⟩, ⟨by (with_reducible repeat (first | apply Kd.R_alloc | apply Kd.R_drewN | apply Kd.R_drew)); exact HO204.out⟩, ⟨by repeat (first | (with_reducible first | exact HB.out | apply below_alloc | apply pw_below_drewN | apply below_drew1) | exact HB.out)⟩⟩
       ·rw [if_neg c13] at H
        have c13b0 : decide ((t200.length : Int) < (wrap64 (t205 + t207))) = false := decide_eq_false c13
        clear c13
        have H' := Aside0.mk H
        clear H
        go_wp2
        repeat (go_quiet (fail); try go_wp2)
        go_meet
        case rel => exact ⟨_, (((wrap64 ((t199.length : Int) - t206)) != (wrap64 ((t200.length : Int) - t207)))), zp10, H', ⟨by first | omega | exact Nat.le_refl _⟩, ⟨by (with_reducible repeat (first | apply Kd.R_alloc | apply Kd.R_drewN | apply Kd.R_drew)); exact HO202.out⟩, ⟨by (with_reducible repeat (first | apply Kd.R_alloc | apply Kd.R_drewN | apply Kd.R_drew)); exact HO204.out⟩, ⟨by repeat (first | (with_reducible first | exact HB.out | apply below_alloc | apply pw_below_drewN | apply below_drew1) | exact HB.out)⟩⟩
  case rest =>
   clear HC5
   try clear c1
   try clear c2
   try clear c2b0
   try clear c2b1
   try clear p2
   try clear c6
   try clear p6
   try clear c9
   try clear c9b0
   try clear c10
   try clear c10b0
   try clear c11
   try clear c11b0
   try clear c12
   try clear c12b0
   try clear c13
   try clear c13b0
   obtain ⟨kq, x63_4, rfl, HA, HJ4, HO_3, HO_4, HB⟩ := hcut
   cases kq with
   | zero => exact absurd HA.out (by simp [laws_FnReset.j0])
   | succ kj4 =>
    have H := HA.out
    clear HA
    simp only [laws_FnReset.j0] at H
    by_cases c14 : x63_4 = true
    ·subst c14
     have H1 : (some false) = some r := by rw [if_pos rfl] at H; exact H
     clear H
     have H := H1
     clear H1
     obtain rfl := Option.some.inj H
     go_wp2
     repeat (go_quiet (fail); try go_wp2)
     go_ret
     exact ⟨by first | rfl | (simp [errW_none, errW_some] <;> rfl) | (simp [*, errW_none, errW_some] <;> rfl), by repeat (first | (with_reducible first | exact HB.out | apply below_alloc | apply pw_below_drewN | apply below_drew1) | exact HB.out)⟩
    ·replace c14 := Bool.eq_false_iff.mpr c14
     subst c14
     have H1 : (if 0 ≤ t205 then (if t205 ≤ (wrap64 (t205 + t207)) then (if (wrap64 (t205 + t207)) ≤ (t200.length : Int) then ((impl_ApplyReset.f kj4 t199 t205 t206 ((t200.take ((wrap64 (t205 + t207)) : Int).toNat).drop (t205 : Int).toNat)).bind fun bt212 => (if t205 ≤ (wrap64 (t205 + t206)) then (if (wrap64 (t205 + t206)) ≤ (t199.length : Int) then ((impl_ApplyReset.f kj4 t200 t205 t207 ((t199.take ((wrap64 (t205 + t206)) : Int).toNat).drop (t205 : Int).toNat)).bind fun bt220 => (if bt212.2 = true then (if bt220.2 = true then ((laws_strings.f kj4 bt212.1 t200).bind fun t224 => (if t224 = true then ((laws_strings.f kj4 bt220.1 t199).bind fun t225 => (laws_FnReset.j1 kj4 t199 t200 t205 t206 t207 (!t225))) else (laws_FnReset.j1 kj4 t199 t200 t205 t206 t207 true))) else (laws_FnReset.j1 kj4 t199 t200 t205 t206 t207 true)) else (laws_FnReset.j1 kj4 t199 t200 t205 t206 t207 true))) else (none)) else (none))) else (none)) else (none)) else (none)) = some r := by rw [if_neg (show ¬ (false = true) by decide)] at H; exact H
     clear H
     have H := H1
     clear H1
     by_cases c15 : 0 ≤ t205
     ·rw [if_pos c15] at H
      have c15b0 := eq_true c15
      have c15b1 : decide (0 ≤ t205) = true := decide_eq_true c15
      clear c15
      by_cases c16 : t205 ≤ (wrap64 (t205 + t207))
      ·rw [if_pos c16] at H
       have c16b0 := eq_true c16
       have c16b1 : decide (t205 ≤ (wrap64 (t205 + t207))) = true := decide_eq_true c16
       by_cases c17 : (wrap64 (t205 + t207)) ≤ (t200.length : Int)
       ·rw [if_pos c17] at H
        have c17b0 := eq_true c17
        have c17b1 : decide ((wrap64 (t205 + t207)) ≤ (t200.length : Int)) = true := decide_eq_true c17
        obtain ⟨y208, hy208⟩ : ∃ y_ : List ByteArray, y_ = ((t200.take ((wrap64 (t205 + t207)) : Int).toNat).drop (t205 : Int).toNat) := ⟨_, rfl⟩
        replace H : ((impl_ApplyReset.f kj4 t199 t205 t206 y208).bind fun bt212 => (if t205 ≤ (wrap64 (t205 + t206)) then (if (wrap64 (t205 + t206)) ≤ (t199.length : Int) then ((impl_ApplyReset.f kj4 t200 t205 t207 ((t199.take ((wrap64 (t205 + t206)) : Int).toNat).drop (t205 : Int).toNat)).bind fun bt220 => (if bt212.2 = true then (if bt220.2 = true then ((laws_strings.f kj4 bt212.1 t200).bind fun t224 => (if t224 = true then ((laws_strings.f kj4 bt220.1 t199).bind fun t225 => (laws_FnReset.j1 kj4 t199 t200 t205 t206 t207 (!t225))) else (laws_FnReset.j1 kj4 t199 t200 t205 t206 t207 true))) else (laws_FnReset.j1 kj4 t199 t200 t205 t206 t207 true)) else (laws_FnReset.j1 kj4 t199 t200 t205 t206 t207 true))) else (none)) else (none))) = some r := by first | (rw [hy208]; with_reducible exact H) | (have H2_ := (Option.bind_some _ _).symm.trans H; rw [hy208]; with_reducible exact H2_) | (have H2_ := (Option.bind_some _ _).symm.trans H; with_reducible exact H2_) | with_reducible exact H | (rw [hy208]; exact H) | exact H
        have Ny208 := Aside0.mk hy208
        clear hy208
        replace H := Option.bind_eq_some_iff.mp H
        obtain ⟨⟨t212, t213⟩, A180, H⟩ := H
        replace H : (if t205 ≤ (wrap64 (t205 + t206)) then (if (wrap64 (t205 + t206)) ≤ (t199.length : Int) then ((impl_ApplyReset.f kj4 t200 t205 t207 ((t199.take ((wrap64 (t205 + t206)) : Int).toNat).drop (t205 : Int).toNat)).bind fun bt220 => (if t213 = true then (if bt220.2 = true then ((laws_strings.f kj4 t212 t200).bind fun t224 => (if t224 = true then ((laws_strings.f kj4 bt220.1 t199).bind fun t225 => (laws_FnReset.j1 kj4 t199 t200 t205 t206 t207 (!t225))) else (laws_FnReset.j1 kj4 t199 t200 t205 t206 t207 true))) else (laws_FnReset.j1 kj4 t199 t200 t205 t206 t207 true)) else (laws_FnReset.j1 kj4 t199 t200 t205 t206 t207 true))) else (none)) else (none)) = some r := H
        have A18 := Aside0.mk A180
        clear A180
        have c19b0 := eq_true (of_decide_eq_true zp4 : 0 ≤ t205)
        by_cases c20 : t205 ≤ (wrap64 (t205 + t206))
        ·rw [if_pos c20] at H
         have c20b0 := eq_true c20
         have c20b1 : decide (t205 ≤ (wrap64 (t205 + t206))) = true := decide_eq_true c20
         by_cases c21 : (wrap64 (t205 + t206)) ≤ (t199.length : Int)
         ·rw [if_pos c21] at H
          have c21b0 := eq_true c21
          have c21b1 : decide ((wrap64 (t205 + t206)) ≤ (t199.length : Int)) = true := decide_eq_true c21
          obtain ⟨y216, hy216⟩ : ∃ y_ : List ByteArray, y_ = ((t199.take ((wrap64 (t205 + t206)) : Int).toNat).drop (t205 : Int).toNat) := ⟨_, rfl⟩
          replace H : ((impl_ApplyReset.f kj4 t200 t205 t207 y216).bind fun bt220 => (if t213 = true then (if bt220.2 = true then ((laws_strings.f kj4 t212 t200).bind fun t224 => (if t224 = true then ((laws_strings.f kj4 bt220.1 t199).bind fun t225 => (laws_FnReset.j1 kj4 t199 t200 t205 t206 t207 (!t225))) else (laws_FnReset.j1 kj4 t199 t200 t205 t206 t207 true))) else (laws_FnReset.j1 kj4 t199 t200 t205 t206 t207 true)) else (laws_FnReset.j1 kj4 t199 t200 t205 t206 t207 true))) = some r := by first | (rw [hy216]; with_reducible exact H) | (have H2_ := (Option.bind_some _ _).symm.trans H; rw [hy216]; with_reducible exact H2_) | (have H2_ := (Option.bind_some _ _).symm.trans H; with_reducible exact H2_) | with_reducible exact H | (rw [hy216]; exact H) | exact H
          have Ny216 := Aside0.mk hy216
          clear hy216
          replace H := Option.bind_eq_some_iff.mp H
          obtain ⟨⟨t220, t221⟩, A220, H⟩ := H
          replace H : (if t213 = true then (if t221 = true then ((laws_strings.f kj4 t212 t200).bind fun t224 => (if t224 = true then ((laws_strings.f kj4 t220 t199).bind fun t225 => (laws_FnReset.j1 kj4 t199 t200 t205 t206 t207 (!t225))) else (laws_FnReset.j1 kj4 t199 t200 t205 t206 t207 true))) else (laws_FnReset.j1 kj4 t199 t200 t205 t206 t207 true)) else (laws_FnReset.j1 kj4 t199 t200 t205 t206 t207 true)) = some r := H
          have A22 := Aside0.mk A220
          clear A220
          have HC23 := Aside0.mk H
          clear H
          have q24 : ((wrap64 (t205 + t207)) : Int) ≤ ((t200.length : Int) : Int) := of_decide_eq_true zp4
          obtain ⟨i024, hi024, _, hsz24, _⟩ := info_parts info9
          have hroom24 : t200.length ≤ co8 := (Kd.R_reads' HO_4.out).2.1
          have hC24 : Kd.C Kd.string _ Ao8 t200.length t200 := (Kd.R_reads' HO_4.out).2.2
          have ql24 : (t205 : Int) ≤ ((wrap64 (t205 + t207)) : Int) := of_decide_eq_true zp4
          have q024 : (0 : Int) ≤ (t205 : Int) := of_decide_eq_true zp4
          have hcut24 := cut_mid (P := Try.prog) 28 9 .i64 .i64 Try.underlying28 hi024 1 hsz24 Ao8 t200.length co8 t205 (wrap64 (t205 + t207)) q024 ql24 q24 hroom24
          have hr24 := Kd.C_mid (lo := (t205 : Int).toNat) (hi := ((wrap64 (t205 + t207)) : Int).toNat) (c := co8) hC24 zp15 zp15 hroom24
          obtain ⟨A24, hA24⟩ : ∃ A1, A1 = (if co8 = (t205 : Int).toNat then Ao8 else (Ao8 : Option Addr).map (·.add ((t205 : Int).toNat * 1))) := ⟨_, rfl⟩
          obtain ⟨c24, hc24⟩ : ∃ c1, c1 = co8 - (t205 : Int).toNat := ⟨_, rfl⟩
          have hy24 : y208.length = ((wrap64 (t205 + t207)) : Int).toNat - (t205 : Int).toNat := (by rw [Ny208.out, List.length_drop, List.length_take] <;> omega)
          rw [show ((t200).take ((wrap64 (t205 + t207)) : Int).toNat).drop (t205 : Int).toNat = y208 from Ny208.out.symm] at hr24
          replace hr24 : Kd.C Kd.string _ A24 y208.length y208 := (by rw [hA24]; exact hr24)
          rw [← hy24, ← hA24, ← hc24] at hcut24
          have HR211 := Aside0.mk hr24
          have HC211 := Aside0.mk (show y208.length ≤ c24 from by rw [hy24, hc24]; exact Nat.sub_le_sub_right (Nat.le_trans zp15 hroom24) _)
          clear hr24 hC24 hroom24 hi024 hsz24 hc24
          have KY24 := Aside0.mk hy24
          have KA24 := Aside0.mk hA24
          clear hy24 hA24
          have KL24 := Aside0.mk (show ((wrap64 (t205 + t207)) : Int).toNat ≤ t200.length from by omega)
          have KM24 := Aside0.mk (show (t205 : Int).toNat ≤ ((wrap64 (t205 + t207)) : Int).toNat from by omega)
          replace q24 := eq_true q24
          go_upto_region 9 with (first | (go_at_call 20; (with_reducible refine (impl_ApplyReset.calls kj4 _ _ t199 t205 t206 _ _ y208 t212 t213 _ ?side1 ?side2 ?side3 ?side4 A18.out).mono ?_); (case side1 => repeat (first | exact (Kd.R_reads' HO_3.out).2.2 | (with_reducible refine Kd.C_alloc ?_ _) | (with_reducible refine Kd.C_drewN ?_ _) | (with_reducible refine Kd.C_drew ?_))); (case side2 => exact (Kd.R_reads' HO_3.out).2.1); (case side3 => repeat (first | exact zp9 | (with_reducible refine Kd.C_alloc ?_ _) | (with_reducible refine Kd.C_drewN ?_ _) | (with_reducible refine Kd.C_drew ?_))); (case side4 => exact HC211.out); rintro e w25 ⟨v214, rfl, ho0, hb⟩; have n0_ := Aside0.mk (Kd.R_elder' zp11 (Kd.R_base ho0) hb); have n1_ := Aside0.mk (Kd.R_elder' zp2 (Kd.R_base ho0) hb); have n2_ := Aside0.mk (Kd.R_lower (Kd.R_new' (Kd.R_new' ho0 (Kd.R_lt zp11)) (Kd.R_lt zp2)) (below_size zp1)); have n3_ := Aside0.mk (Kd.C_below zp9 hb); have n4_ := Aside0.mk (below_step zp1 hb); clear HO_3; clear HO_4; clear HR211; clear HB; have HO_3 := n0_; have HO_4 := n1_; have HO215 := n2_; have HR211 := n3_; have HB := n4_; clear n0_ n1_ n2_ n3_ n4_; (try clear hb); (try clear hb2); (try clear hk); (try clear hi); (try clear ho0); have q26 : ((wrap64 (t205 + t206)) : Int) ≤ ((t199.length : Int) : Int) := of_decide_eq_true zp4; obtain ⟨i026, hi026, _, hsz26, _⟩ := info_parts info9; have hroom26 : t199.length ≤ co7 := (Kd.R_reads' HO_3.out).2.1; have hC26 : Kd.C Kd.string _ Ao7 t199.length t199 := (Kd.R_reads' HO_3.out).2.2; have ql26 : (t205 : Int) ≤ ((wrap64 (t205 + t206)) : Int) := of_decide_eq_true zp4; have q026 : (0 : Int) ≤ (t205 : Int) := of_decide_eq_true zp4; have hcut26 := cut_mid (P := Try.prog) 28 9 .i64 .i64 Try.underlying28 hi026 1 hsz26 Ao7 t199.length co7 t205 (wrap64 (t205 + t206)) q026 ql26 q26 hroom26; have hr26 := Kd.C_mid (lo := (t205 : Int).toNat) (hi := ((wrap64 (t205 + t206)) : Int).toNat) (c := co7) hC26 zp15 zp15 hroom26; obtain ⟨A26, hA26⟩ : ∃ A1, A1 = (if co7 = (t205 : Int).toNat then Ao7 else (Ao7 : Option Addr).map (·.add ((t205 : Int).toNat * 1))) := ⟨_, rfl⟩; obtain ⟨c26, hc26⟩ : ∃ c1, c1 = co7 - (t205 : Int).toNat := ⟨_, rfl⟩; have hy26 : y216.length = ((wrap64 (t205 + t206)) : Int).toNat - (t205 : Int).toNat := (by rw [Ny216.out, List.length_drop, List.length_take] <;> omega); rw [show ((t199).take ((wrap64 (t205 + t206)) : Int).toNat).drop (t205 : Int).toNat = y216 from Ny216.out.symm] at hr26; replace hr26 : Kd.C Kd.string _ A26 y216.length y216 := (by rw [hA26]; exact hr26); rw [← hy26, ← hA26, ← hc26] at hcut26; have HR219 := Aside0.mk hr26; have HC219 := Aside0.mk (show y216.length ≤ c26 from by rw [hy26, hc26]; exact Nat.sub_le_sub_right (Nat.le_trans zp15 hroom26) _); clear hr26 hC26 hroom26 hi026 hsz26 hc26; have KY26 := Aside0.mk hy26; have KA26 := Aside0.mk hA26; clear hy26 hA26; have KL26 := Aside0.mk (show ((wrap64 (t205 + t206)) : Int).toNat ≤ t199.length from by omega); have KM26 := Aside0.mk (show (t205 : Int).toNat ≤ ((wrap64 (t205 + t206)) : Int).toNat from by omega); replace q26 := eq_true q26) | (go_at_call 20; (with_reducible refine (impl_ApplyReset.calls kj4 _ _ t200 t205 t207 _ _ y216 t220 t221 _ ?side1 ?side2 ?side3 ?side4 A22.out).mono ?_); (case side1 => repeat (first | exact (Kd.R_reads' HO_4.out).2.2 | (with_reducible refine Kd.C_alloc ?_ _) | (with_reducible refine Kd.C_drewN ?_ _) | (with_reducible refine Kd.C_drew ?_))); (case side2 => exact (Kd.R_reads' HO_4.out).2.1); (case side3 => repeat (first | exact zp12 | (with_reducible refine Kd.C_alloc ?_ _) | (with_reducible refine Kd.C_drewN ?_ _) | (with_reducible refine Kd.C_drew ?_))); (case side4 => exact HC219.out); rintro e w27 ⟨v222, rfl, ho0, hb⟩; have n0_ := Aside0.mk (Kd.R_elder' zp11 (Kd.R_base ho0) hb); have n1_ := Aside0.mk (Kd.R_elder' zp2 (Kd.R_base ho0) hb); have n2_ := Aside0.mk (Kd.R_elder' zp13 (Kd.R_base ho0) hb); have n3_ := Aside0.mk (Kd.R_lower (Kd.R_new' (Kd.R_new' (Kd.R_new' ho0 (Kd.R_lt zp11)) (Kd.R_lt zp2)) (Kd.R_lt zp13)) (below_size zp1)); have n4_ := Aside0.mk (Kd.C_below zp9 hb); have n5_ := Aside0.mk (Kd.C_below zp12 hb); have n6_ := Aside0.mk (below_step zp1 hb); clear HO_3; clear HO_4; clear HO215; clear HR211; clear HR219; clear HB; have HO_3 := n0_; have HO_4 := n1_; have HO215 := n2_; have HO223 := n3_; have HR211 := n4_; have HR219 := n5_; have HB := n6_; clear n0_ n1_ n2_ n3_ n4_ n5_ n6_; (try clear hb); (try clear hb2); (try clear hk); (try clear hi); (try clear ho0)))
          repeat (go_quiet (first | (go_at_call 20; (with_reducible refine (impl_ApplyReset.calls kj4 _ _ t199 t205 t206 _ _ y208 t212 t213 _ ?side1 ?side2 ?side3 ?side4 A18.out).mono ?_); (case side1 => repeat (first | exact (Kd.R_reads' HO_3.out).2.2 | (with_reducible refine Kd.C_alloc ?_ _) | (with_reducible refine Kd.C_drewN ?_ _) | (with_reducible refine Kd.C_drew ?_))); (case side2 => exact (Kd.R_reads' HO_3.out).2.1); (case side3 => repeat (first | exact zp9 | (with_reducible refine Kd.C_alloc ?_ _) | (with_reducible refine Kd.C_drewN ?_ _) | (with_reducible refine Kd.C_drew ?_))); (case side4 => exact HC211.out); rintro e w25 ⟨v214, rfl, ho0, hb⟩; have n0_ := Aside0.mk (Kd.R_elder' zp11 (Kd.R_base ho0) hb); have n1_ := Aside0.mk (Kd.R_elder' zp2 (Kd.R_base ho0) hb); have n2_ := Aside0.mk (Kd.R_lower (Kd.R_new' (Kd.R_new' ho0 (Kd.R_lt zp11)) (Kd.R_lt zp2)) (below_size zp1)); have n3_ := Aside0.mk (Kd.C_below zp9 hb); have n4_ := Aside0.mk (below_step zp1 hb); clear HO_3; clear HO_4; clear HR211; clear HB; have HO_3 := n0_; have HO_4 := n1_; have HO215 := n2_; have HR211 := n3_; have HB := n4_; clear n0_ n1_ n2_ n3_ n4_; (try clear hb); (try clear hb2); (try clear hk); (try clear hi); (try clear ho0); have q26 : ((wrap64 (t205 + t206)) : Int) ≤ ((t199.length : Int) : Int) := of_decide_eq_true zp4; obtain ⟨i026, hi026, _, hsz26, _⟩ := info_parts info9; have hroom26 : t199.length ≤ co7 := (Kd.R_reads' HO_3.out).2.1; have hC26 : Kd.C Kd.string _ Ao7 t199.length t199 := (Kd.R_reads' HO_3.out).2.2; have ql26 : (t205 : Int) ≤ ((wrap64 (t205 + t206)) : Int) := of_decide_eq_true zp4; have q026 : (0 : Int) ≤ (t205 : Int) := of_decide_eq_true zp4; have hcut26 := cut_mid (P := Try.prog) 28 9 .i64 .i64 Try.underlying28 hi026 1 hsz26 Ao7 t199.length co7 t205 (wrap64 (t205 + t206)) q026 ql26 q26 hroom26; have hr26 := Kd.C_mid (lo := (t205 : Int).toNat) (hi := ((wrap64 (t205 + t206)) : Int).toNat) (c := co7) hC26 zp15 zp15 hroom26; obtain ⟨A26, hA26⟩ : ∃ A1, A1 = (if co7 = (t205 : Int).toNat then Ao7 else (Ao7 : Option Addr).map (·.add ((t205 : Int).toNat * 1))) := ⟨_, rfl⟩; obtain ⟨c26, hc26⟩ : ∃ c1, c1 = co7 - (t205 : Int).toNat := ⟨_, rfl⟩; have hy26 : y216.length = ((wrap64 (t205 + t206)) : Int).toNat - (t205 : Int).toNat := (by rw [Ny216.out, List.length_drop, List.length_take] <;> omega); rw [show ((t199).take ((wrap64 (t205 + t206)) : Int).toNat).drop (t205 : Int).toNat = y216 from Ny216.out.symm] at hr26; replace hr26 : Kd.C Kd.string _ A26 y216.length y216 := (by rw [hA26]; exact hr26); rw [← hy26, ← hA26, ← hc26] at hcut26; have HR219 := Aside0.mk hr26; have HC219 := Aside0.mk (show y216.length ≤ c26 from by rw [hy26, hc26]; exact Nat.sub_le_sub_right (Nat.le_trans zp15 hroom26) _); clear hr26 hC26 hroom26 hi026 hsz26 hc26; have KY26 := Aside0.mk hy26; have KA26 := Aside0.mk hA26; clear hy26 hA26; have KL26 := Aside0.mk (show ((wrap64 (t205 + t206)) : Int).toNat ≤ t199.length from by omega); have KM26 := Aside0.mk (show (t205 : Int).toNat ≤ ((wrap64 (t205 + t206)) : Int).toNat from by omega); replace q26 := eq_true q26) | (go_at_call 20; (with_reducible refine (impl_ApplyReset.calls kj4 _ _ t200 t205 t207 _ _ y216 t220 t221 _ ?side1 ?side2 ?side3 ?side4 A22.out).mono ?_); (case side1 => repeat (first | exact (Kd.R_reads' HO_4.out).2.2 | (with_reducible refine Kd.C_alloc ?_ _) | (with_reducible refine Kd.C_drewN ?_ _) | (with_reducible refine Kd.C_drew ?_))); (case side2 => exact (Kd.R_reads' HO_4.out).2.1); (case side3 => repeat (first | exact zp12 | (with_reducible refine Kd.C_alloc ?_ _) | (with_reducible refine Kd.C_drewN ?_ _) | (with_reducible refine Kd.C_drew ?_))); (case side4 => exact HC219.out); rintro e w27 ⟨v222, rfl, ho0, hb⟩; have n0_ := Aside0.mk (Kd.R_elder' zp11 (Kd.R_base ho0) hb); have n1_ := Aside0.mk (Kd.R_elder' zp2 (Kd.R_base ho0) hb); have n2_ := Aside0.mk (Kd.R_elder' zp13 (Kd.R_base ho0) hb); have n3_ := Aside0.mk (Kd.R_lower (Kd.R_new' (Kd.R_new' (Kd.R_new' ho0 (Kd.R_lt zp11)) (Kd.R_lt zp2)) (Kd.R_lt zp13)) (below_size zp1)); have n4_ := Aside0.mk (Kd.C_below zp9 hb); have n5_ := Aside0.mk (Kd.C_below zp12 hb); have n6_ := Aside0.mk (below_step zp1 hb); clear HO_3; clear HO_4; clear HO215; clear HR211; clear HR219; clear HB; have HO_3 := n0_; have HO_4 := n1_; have HO215 := n2_; have HO223 := n3_; have HR211 := n4_; have HR219 := n5_; have HB := n6_; clear n0_ n1_ n2_ n3_ n4_ n5_ n6_; (try clear hb); (try clear hb2); (try clear hk); (try clear hi); (try clear ho0))); go_upto_region 9 with (first | (go_at_call 20; (with_reducible refine (impl_ApplyReset.calls kj4 _ _ t199 t205 t206 _ _ y208 t212 t213 _ ?side1 ?side2 ?side3 ?side4 A18.out).mono ?_); (case side1 => repeat (first | exact (Kd.R_reads' HO_3.out).2.2 | (with_reducible refine Kd.C_alloc ?_ _) | (with_reducible refine Kd.C_drewN ?_ _) | (with_reducible refine Kd.C_drew ?_))); (case side2 => exact (Kd.R_reads' HO_3.out).2.1); (case side3 => repeat (first | exact zp9 | (with_reducible refine Kd.C_alloc ?_ _) | (with_reducible refine Kd.C_drewN ?_ _) | (with_reducible refine Kd.C_drew ?_))); (case side4 => exact HC211.out); rintro e w25 ⟨v214, rfl, ho0, hb⟩; have n0_ := Aside0.mk (Kd.R_elder' zp11 (Kd.R_base ho0) hb); have n1_ := Aside0.mk (Kd.R_elder' zp2 (Kd.R_base ho0) hb); have n2_ := Aside0.mk (Kd.R_lower (Kd.R_new' (Kd.R_new' ho0 (Kd.R_lt zp11)) (Kd.R_lt zp2)) (below_size zp1)); have n3_ := Aside0.mk (Kd.C_below zp9 hb); have n4_ := Aside0.mk (below_step zp1 hb); clear HO_3; clear HO_4; clear HR211; clear HB; have HO_3 := n0_; have HO_4 := n1_; have HO215 := n2_; have HR211 := n3_; have HB := n4_; clear n0_ n1_ n2_ n3_ n4_; (try clear hb); (try clear hb2); (try clear hk); (try clear hi); (try clear ho0); have q26 : ((wrap64 (t205 + t206)) : Int) ≤ ((t199.length : Int) : Int) := of_decide_eq_true zp4; obtain ⟨i026, hi026, _, hsz26, _⟩ := info_parts info9; have hroom26 : t199.length ≤ co7 := (Kd.R_reads' HO_3.out).2.1; have hC26 : Kd.C Kd.string _ Ao7 t199.length t199 := (Kd.R_reads' HO_3.out).2.2; have ql26 : (t205 : Int) ≤ ((wrap64 (t205 + t206)) : Int) := of_decide_eq_true zp4; have q026 : (0 : Int) ≤ (t205 : Int) := of_decide_eq_true zp4; have hcut26 := cut_mid (P := Try.prog) 28 9 .i64 .i64 Try.underlying28 hi026 1 hsz26 Ao7 t199.length co7 t205 (wrap64 (t205 + t206)) q026 ql26 q26 hroom26; have hr26 := Kd.C_mid (lo := (t205 : Int).toNat) (hi := ((wrap64 (t205 + t206)) : Int).toNat) (c := co7) hC26 zp15 zp15 hroom26; obtain ⟨A26, hA26⟩ : ∃ A1, A1 = (if co7 = (t205 : Int).toNat then Ao7 else (Ao7 : Option Addr).map (·.add ((t205 : Int).toNat * 1))) := ⟨_, rfl⟩; obtain ⟨c26, hc26⟩ : ∃ c1, c1 = co7 - (t205 : Int).toNat := ⟨_, rfl⟩; have hy26 : y216.length = ((wrap64 (t205 + t206)) : Int).toNat - (t205 : Int).toNat := (by rw [Ny216.out, List.length_drop, List.length_take] <;> omega); rw [show ((t199).take ((wrap64 (t205 + t206)) : Int).toNat).drop (t205 : Int).toNat = y216 from Ny216.out.symm] at hr26; replace hr26 : Kd.C Kd.string _ A26 y216.length y216 := (by rw [hA26]; exact hr26); rw [← hy26, ← hA26, ← hc26] at hcut26; have HR219 := Aside0.mk hr26; have HC219 := Aside0.mk (show y216.length ≤ c26 from by rw [hy26, hc26]; exact Nat.sub_le_sub_right (Nat.le_trans zp15 hroom26) _); clear hr26 hC26 hroom26 hi026 hsz26 hc26; have KY26 := Aside0.mk hy26; have KA26 := Aside0.mk hA26; clear hy26 hA26; have KL26 := Aside0.mk (show ((wrap64 (t205 + t206)) : Int).toNat ≤ t199.length from by omega); have KM26 := Aside0.mk (show (t205 : Int).toNat ≤ ((wrap64 (t205 + t206)) : Int).toNat from by omega); replace q26 := eq_true q26) | (go_at_call 20; (with_reducible refine (impl_ApplyReset.calls kj4 _ _ t200 t205 t207 _ _ y216 t220 t221 _ ?side1 ?side2 ?side3 ?side4 A22.out).mono ?_); (case side1 => repeat (first | exact (Kd.R_reads' HO_4.out).2.2 | (with_reducible refine Kd.C_alloc ?_ _) | (with_reducible refine Kd.C_drewN ?_ _) | (with_reducible refine Kd.C_drew ?_))); (case side2 => exact (Kd.R_reads' HO_4.out).2.1); (case side3 => repeat (first | exact zp12 | (with_reducible refine Kd.C_alloc ?_ _) | (with_reducible refine Kd.C_drewN ?_ _) | (with_reducible refine Kd.C_drew ?_))); (case side4 => exact HC219.out); rintro e w27 ⟨v222, rfl, ho0, hb⟩; have n0_ := Aside0.mk (Kd.R_elder' zp11 (Kd.R_base ho0) hb); have n1_ := Aside0.mk (Kd.R_elder' zp2 (Kd.R_base ho0) hb); have n2_ := Aside0.mk (Kd.R_elder' zp13 (Kd.R_base ho0) hb); have n3_ := Aside0.mk (Kd.R_lower (Kd.R_new' (Kd.R_new' (Kd.R_new' ho0 (Kd.R_lt zp11)) (Kd.R_lt zp2)) (Kd.R_lt zp13)) (below_size zp1)); have n4_ := Aside0.mk (Kd.C_below zp9 hb); have n5_ := Aside0.mk (Kd.C_below zp12 hb); have n6_ := Aside0.mk (below_step zp1 hb); clear HO_3; clear HO_4; clear HO215; clear HR211; clear HR219; clear HB; have HO_3 := n0_; have HO_4 := n1_; have HO215 := n2_; have HO223 := n3_; have HR211 := n4_; have HR219 := n5_; have HB := n6_; clear n0_ n1_ n2_ n3_ n4_ n5_ n6_; (try clear hb); (try clear hb2); (try clear hk); (try clear hi); (try clear ho0))))
          (try simp only [Act.put, List.setIfInBounds_toArray, List.set_cons_zero, List.set_cons_succ])
          go_cut [107] (fun v107 wc => ∃ (kq : Nat) (x107_22 : Bool), v107 = .bool x107_22 ∧ Aside0 (laws_FnReset.j1 kq t199 t200 t205 t206 t207 x107_22 = some r) ∧ Aside0 (kq ≤ kj4) ∧ Aside0 (Kd.R Kd.string 9 wc w.heap.size (fun k_ => some k_ ≠ ((.slice Ao8 t200.length co8) : Value).ownBlock) (.slice Ao7 t199.length co7) t199) ∧ Aside0 (Kd.R Kd.string 9 wc w.heap.size (fun k_ => some k_ ≠ ((.slice Ao7 t199.length co7) : Value).ownBlock) (.slice Ao8 t200.length co8) t200) ∧ Aside0 (Below w.heap.size w wc))
          case first =>
           have H := HC23.out
           clear HC23
           by_cases c28 : t213 = true
           ·subst c28
            have H1 : (if t221 = true then ((laws_strings.f kj4 t212 t200).bind fun t224 => (if t224 = true then ((laws_strings.f kj4 t220 t199).bind fun t225 => (laws_FnReset.j1 kj4 t199 t200 t205 t206 t207 (!t225))) else (laws_FnReset.j1 kj4 t199 t200 t205 t206 t207 true))) else (laws_FnReset.j1 kj4 t199 t200 t205 t206 t207 true)) = some r := by rw [if_pos rfl] at H; exact H
            clear H
            have H := H1
            clear H1
            by_cases c29 : t221 = true
            ·subst c29
             have H1 : ((laws_strings.f kj4 t212 t200).bind fun t224 => (if t224 = true then ((laws_strings.f kj4 t220 t199).bind fun t225 => (laws_FnReset.j1 kj4 t199 t200 t205 t206 t207 (!t225))) else (laws_FnReset.j1 kj4 t199 t200 t205 t206 t207 true))) = some r := by rw [if_pos rfl] at H; exact H
             clear H
             have H := H1
             clear H1
             replace H := Option.bind_eq_some_iff.mp H
             obtain ⟨t224, A300, H⟩ := H
             replace H : (if t224 = true then ((laws_strings.f kj4 t220 t199).bind fun t225 => (laws_FnReset.j1 kj4 t199 t200 t205 t206 t207 (!t225))) else (laws_FnReset.j1 kj4 t199 t200 t205 t206 t207 true)) = some r := H
             have A30 := Aside0.mk A300
             clear A300
             by_cases c31 : t224 = true
             ·subst c31
              have H1 : ((laws_strings.f kj4 t220 t199).bind fun t225 => (laws_FnReset.j1 kj4 t199 t200 t205 t206 t207 (!t225))) = some r := by rw [if_pos rfl] at H; exact H
              clear H
              have H := H1
              clear H1
              replace H := Option.bind_eq_some_iff.mp H
              obtain ⟨t225, A320, H⟩ := H
              replace H : (laws_FnReset.j1 kj4 t199 t200 t205 t206 t207 (!t225)) = some r := H
              have A32 := Aside0.mk A320
              clear A320
              have H' := Aside0.mk H
              clear H
              obtain ⟨Ao33, co33, eo33⟩ := Kd.R_slice HO215.out
              subst eo33
              go_wp2_with (first | (go_at_call 24; (with_reducible refine (laws_strings.calls kj4 _ _ t212 _ _ t200 true _ ?side1 ?side2 ?side3 ?side4 A30.out).mono ?_); (case side1 => repeat (first | exact (Kd.R_reads' HO215.out).2.2 | (with_reducible refine Kd.C_alloc ?_ _) | (with_reducible refine Kd.C_drewN ?_ _) | (with_reducible refine Kd.C_drew ?_))); (case side2 => exact (Kd.R_reads' HO215.out).2.1); (case side3 => repeat (first | exact (Kd.R_reads' HO_4.out).2.2 | (with_reducible refine Kd.C_alloc ?_ _) | (with_reducible refine Kd.C_drewN ?_ _) | (with_reducible refine Kd.C_drew ?_))); (case side4 => exact (Kd.R_reads' HO_4.out).2.1); rintro e w' ⟨rfl, ⟨nd, rfl⟩⟩; (try first | exact ⟨rfl, _, World.drewN_drewN _ _ _⟩ | exact ⟨rfl, _, Eq.trans (World.drewN_drewN _ _ _) (congrArg (World.drewN _) (Nat.add_assoc _ _ _))⟩); obtain ⟨Ao34, co34, eo34⟩ := Kd.R_slice HO223.out; subst eo34) | (go_at_call 24; (with_reducible refine (laws_strings.calls kj4 _ _ t220 _ _ t199 t225 _ ?side1 ?side2 ?side3 ?side4 A32.out).mono ?_); (case side1 => repeat (first | exact (Kd.R_reads' HO223.out).2.2 | (with_reducible refine Kd.C_alloc ?_ _) | (with_reducible refine Kd.C_drewN ?_ _) | (with_reducible refine Kd.C_drew ?_))); (case side2 => exact (Kd.R_reads' HO223.out).2.1); (case side3 => repeat (first | exact (Kd.R_reads' HO_3.out).2.2 | (with_reducible refine Kd.C_alloc ?_ _) | (with_reducible refine Kd.C_drewN ?_ _) | (with_reducible refine Kd.C_drew ?_))); (case side4 => exact (Kd.R_reads' HO_3.out).2.1); rintro e w' ⟨rfl, ⟨nd, rfl⟩⟩; (try first | exact ⟨rfl, _, World.drewN_drewN _ _ _⟩ | exact ⟨rfl, _, Eq.trans (World.drewN_drewN _ _ _) (congrArg (World.drewN _) (Nat.add_assoc _ _ _))⟩)))
              repeat (go_quiet (first | (go_at_call 24; (with_reducible refine (laws_strings.calls kj4 _ _ t212 _ _ t200 true _ ?side1 ?side2 ?side3 ?side4 A30.out).mono ?_); (case side1 => repeat (first | exact (Kd.R_reads' HO215.out).2.2 | (with_reducible refine Kd.C_alloc ?_ _) | (with_reducible refine Kd.C_drewN ?_ _) | (with_reducible refine Kd.C_drew ?_))); (case side2 => exact (Kd.R_reads' HO215.out).2.1); (case side3 => repeat (first | exact (Kd.R_reads' HO_4.out).2.2 | (with_reducible refine Kd.C_alloc ?_ _) | (with_reducible refine Kd.C_drewN ?_ _) | (with_reducible refine Kd.C_drew ?_))); (case side4 => exact (Kd.R_reads' HO_4.out).2.1); rintro e w' ⟨rfl, ⟨nd, rfl⟩⟩; (try first | exact ⟨rfl, _, World.drewN_drewN _ _ _⟩ | exact ⟨rfl, _, Eq.trans (World.drewN_drewN _ _ _) (congrArg (World.drewN _) (Nat.add_assoc _ _ _))⟩); obtain ⟨Ao34, co34, eo34⟩ := Kd.R_slice HO223.out; subst eo34) | (go_at_call 24; (with_reducible refine (laws_strings.calls kj4 _ _ t220 _ _ t199 t225 _ ?side1 ?side2 ?side3 ?side4 A32.out).mono ?_); (case side1 => repeat (first | exact (Kd.R_reads' HO223.out).2.2 | (with_reducible refine Kd.C_alloc ?_ _) | (with_reducible refine Kd.C_drewN ?_ _) | (with_reducible refine Kd.C_drew ?_))); (case side2 => exact (Kd.R_reads' HO223.out).2.1); (case side3 => repeat (first | exact (Kd.R_reads' HO_3.out).2.2 | (with_reducible refine Kd.C_alloc ?_ _) | (with_reducible refine Kd.C_drewN ?_ _) | (with_reducible refine Kd.C_drew ?_))); (case side4 => exact (Kd.R_reads' HO_3.out).2.1); rintro e w' ⟨rfl, ⟨nd, rfl⟩⟩; (try first | exact ⟨rfl, _, World.drewN_drewN _ _ _⟩ | exact ⟨rfl, _, Eq.trans (World.drewN_drewN _ _ _) (congrArg (World.drewN _) (Nat.add_assoc _ _ _))⟩))); try go_wp2_with (first | (go_at_call 24; (with_reducible refine (laws_strings.calls kj4 _ _ t212 _ _ t200 true _ ?side1 ?side2 ?side3 ?side4 A30.out).mono ?_); (case side1 => repeat (first | exact (Kd.R_reads' HO215.out).2.2 | (with_reducible refine Kd.C_alloc ?_ _) | (with_reducible refine Kd.C_drewN ?_ _) | (with_reducible refine Kd.C_drew ?_))); (case side2 => exact (Kd.R_reads' HO215.out).2.1); (case side3 => repeat (first | exact (Kd.R_reads' HO_4.out).2.2 | (with_reducible refine Kd.C_alloc ?_ _) | (with_reducible refine Kd.C_drewN ?_ _) | (with_reducible refine Kd.C_drew ?_))); (case side4 => exact (Kd.R_reads' HO_4.out).2.1); rintro e w' ⟨rfl, ⟨nd, rfl⟩⟩; (try first | exact ⟨rfl, _, World.drewN_drewN _ _ _⟩ | exact ⟨rfl, _, Eq.trans (World.drewN_drewN _ _ _) (congrArg (World.drewN _) (Nat.add_assoc _ _ _))⟩); obtain ⟨Ao34, co34, eo34⟩ := Kd.R_slice HO223.out; subst eo34) | (go_at_call 24; (with_reducible refine (laws_strings.calls kj4 _ _ t220 _ _ t199 t225 _ ?side1 ?side2 ?side3 ?side4 A32.out).mono ?_); (case side1 => repeat (first | exact (Kd.R_reads' HO223.out).2.2 | (with_reducible refine Kd.C_alloc ?_ _) | (with_reducible refine Kd.C_drewN ?_ _) | (with_reducible refine Kd.C_drew ?_))); (case side2 => exact (Kd.R_reads' HO223.out).2.1); (case side3 => repeat (first | exact (Kd.R_reads' HO_3.out).2.2 | (with_reducible refine Kd.C_alloc ?_ _) | (with_reducible refine Kd.C_drewN ?_ _) | (with_reducible refine Kd.C_drew ?_))); (case side4 => exact (Kd.R_reads' HO_3.out).2.1); rintro e w' ⟨rfl, ⟨nd, rfl⟩⟩; (try first | exact ⟨rfl, _, World.drewN_drewN _ _ _⟩ | exact ⟨rfl, _, Eq.trans (World.drewN_drewN _ _ _) (congrArg (World.drewN _) (Nat.add_assoc _ _ _))⟩))))
              go_meet
              case rel => exact ⟨_, (!t225), zp10, H', ⟨by have := HJ4.out; first | omega | exact Nat.le_refl _⟩, ⟨by (with_reducible repeat (first | apply Kd.R_alloc | apply Kd.R_drewN | apply Kd.R_drew)); exact Kd.R_mono HO_3.out (fun _ hk => hk.1.1)⟩, ⟨by (with_reducible repeat (first | apply Kd.R_alloc | apply Kd.R_drewN | apply Kd.R_drew)); exact Kd.R_mono HO_4.out (fun _ hk => hk.1.1)⟩, ⟨by repeat (first | (with_reducible first | exact HB.out | apply below_alloc | apply pw_below_drewN | apply below_drew1) | exact HB.out)⟩⟩
             ·replace c31 := Bool.eq_false_iff.mpr c31
              subst c31
              have H1 : (laws_FnReset.j1 kj4 t199 t200 t205 t206 t207 true) = some r := by rw [if_neg (show ¬ (false = true) by decide)] at H; exact H
              clear H
              have H := H1
              clear H1
              have H' := Aside0.mk H
              clear H
              obtain ⟨Ao35, co35, eo35⟩ := Kd.R_slice HO215.out
              subst eo35
              go_wp2_with (first | (go_at_call 24; (with_reducible refine (laws_strings.calls kj4 _ _ t212 _ _ t200 false _ ?side1 ?side2 ?side3 ?side4 A30.out).mono ?_); (case side1 => repeat (first | exact (Kd.R_reads' HO215.out).2.2 | (with_reducible refine Kd.C_alloc ?_ _) | (with_reducible refine Kd.C_drewN ?_ _) | (with_reducible refine Kd.C_drew ?_))); (case side2 => exact (Kd.R_reads' HO215.out).2.1); (case side3 => repeat (first | exact (Kd.R_reads' HO_4.out).2.2 | (with_reducible refine Kd.C_alloc ?_ _) | (with_reducible refine Kd.C_drewN ?_ _) | (with_reducible refine Kd.C_drew ?_))); (case side4 => exact (Kd.R_reads' HO_4.out).2.1); rintro e w' ⟨rfl, ⟨nd, rfl⟩⟩; (try first | exact ⟨rfl, _, World.drewN_drewN _ _ _⟩ | exact ⟨rfl, _, Eq.trans (World.drewN_drewN _ _ _) (congrArg (World.drewN _) (Nat.add_assoc _ _ _))⟩)))
              repeat (go_quiet (first | (go_at_call 24; (with_reducible refine (laws_strings.calls kj4 _ _ t212 _ _ t200 false _ ?side1 ?side2 ?side3 ?side4 A30.out).mono ?_); (case side1 => repeat (first | exact (Kd.R_reads' HO215.out).2.2 | (with_reducible refine Kd.C_alloc ?_ _) | (with_reducible refine Kd.C_drewN ?_ _) | (with_reducible refine Kd.C_drew ?_))); (case side2 => exact (Kd.R_reads' HO215.out).2.1); (case side3 => repeat (first | exact (Kd.R_reads' HO_4.out).2.2 | (with_reducible refine Kd.C_alloc ?_ _) | (with_reducible refine Kd.C_drewN ?_ _) | (with_reducible refine Kd.C_drew ?_))); (case side4 => exact (Kd.R_reads' HO_4.out).2.1); rintro e w' ⟨rfl, ⟨nd, rfl⟩⟩; (try first | exact ⟨rfl, _, World.drewN_drewN _ _ _⟩ | exact ⟨rfl, _, Eq.trans (World.drewN_drewN _ _ _) (congrArg (World.drewN _) (Nat.add_assoc _ _ _))⟩))); try go_wp2_with (first | (go_at_call 24; (with_reducible refine (laws_strings.calls kj4 _ _ t212 _ _ t200 false _ ?side1 ?side2 ?side3 ?side4 A30.out).mono ?_); (case side1 => repeat (first | exact (Kd.R_reads' HO215.out).2.2 | (with_reducible refine Kd.C_alloc ?_ _) | (with_reducible refine Kd.C_drewN ?_ _) | (with_reducible refine Kd.C_drew ?_))); (case side2 => exact (Kd.R_reads' HO215.out).2.1); (case side3 => repeat (first | exact (Kd.R_reads' HO_4.out).2.2 | (with_reducible refine Kd.C_alloc ?_ _) | (with_reducible refine Kd.C_drewN ?_ _) | (with_reducible refine Kd.C_drew ?_))); (case side4 => exact (Kd.R_reads' HO_4.out).2.1); rintro e w' ⟨rfl, ⟨nd, rfl⟩⟩; (try first | exact ⟨rfl, _, World.drewN_drewN _ _ _⟩ | exact ⟨rfl, _, Eq.trans (World.drewN_drewN _ _ _) (congrArg (World.drewN _) (Nat.add_assoc _ _ _))⟩))))
              go_meet
              case rel => exact ⟨_, (true), zp10, H', ⟨by have := HJ4.out; first | omega | exact Nat.le_refl _⟩, ⟨by (with_reducible repeat (first | apply Kd.R_alloc | apply Kd.R_drewN | apply Kd.R_drew)); exact Kd.R_mono HO_3.out (fun _ hk => hk.1.1)⟩, ⟨by (with_reducible repeat (first | apply Kd.R_alloc | apply Kd.R_drewN | apply Kd.R_drew)); exact Kd.R_mono HO_4.out (fun _ hk => hk.1.1)⟩, ⟨by repeat (first | (with_reducible first | exact HB.out | apply below_alloc | apply pw_below_drewN | apply below_drew1) | exact HB.out)⟩⟩
            ·replace c29 := Bool.eq_false_iff.mpr c29
             subst c29
             have H1 : (laws_FnReset.j1 kj4 t199 t200 t205 t206 t207 true) = some r := by rw [if_neg (show ¬ (false = true) by decide)] at H; exact H
             clear H
             have H := H1
             clear H1
             have H' := Aside0.mk H
             clear H
             go_wp2
             repeat (go_quiet (fail); try go_wp2)
             go_meet
             case rel => exact ⟨_, (true), zp10, H', ⟨by have := HJ4.out; first | omega | exact Nat.le_refl _⟩, ⟨by (with_reducible repeat (first | apply Kd.R_alloc | apply Kd.R_drewN | apply Kd.R_drew)); exact Kd.R_mono HO_3.out (fun _ hk => hk.1.1)⟩, ⟨by (with_reducible repeat (first | apply Kd.R_alloc | apply Kd.R_drewN | apply Kd.R_drew)); exact Kd.R_mono HO_4.out (fun _ hk => hk.1.1)⟩, ⟨by repeat (first | (with_reducible first | exact HB.out | apply below_alloc | apply pw_below_drewN | apply below_drew1) | exact HB.out)⟩⟩
           ·replace c28 := Bool.eq_false_iff.mpr c28
            subst c28
            have H1 : (laws_FnReset.j1 kj4 t199 t200 t205 t206 t207 true) = some r := by rw [if_neg (show ¬ (false = true) by decide)] at H; exact H
            clear H
            have H := H1
            clear H1
            have H' := Aside0.mk H
            clear H
            go_wp2
            repeat (go_quiet (fail); try go_wp2)
            go_meet
            case rel => exact ⟨_, (true), zp10, H', ⟨by have := HJ4.out; first | omega | exact Nat.le_refl _⟩, ⟨by (with_reducible repeat (first | apply Kd.R_alloc | apply Kd.R_drewN | apply Kd.R_drew)); exact Kd.R_mono HO_3.out (fun _ hk => hk.1.1)⟩, ⟨by (with_reducible repeat (first | apply Kd.R_alloc | apply Kd.R_drewN | apply Kd.R_drew)); exact Kd.R_mono HO_4.out (fun _ hk => hk.1.1)⟩, ⟨by repeat (first | (with_reducible first | exact HB.out | apply below_alloc | apply pw_below_drewN | apply below_drew1) | exact HB.out)⟩⟩
          case rest =>
           clear HC23
           try clear c1
           try clear c2
           try clear c2b0
           try clear c2b1
           try clear p2
           try clear q2
           try clear c3
           try clear c6
           try clear p6
           try clear c9
           try clear c9b0
           try clear c10
           try clear c10b0
           try clear c11
           try clear c11b0
           try clear c12
           try clear c12b0
           try clear c13
           try clear c13b0
           try clear c14
           try clear c15
           try clear c15b0
           try clear c15b1
           try clear c16
           try clear c16b0
           try clear c16b1
           try clear c17
           try clear c17b0
           try clear c17b1
           try clear c19
           try clear c19b0
           try clear c20
           try clear c20b0
           try clear c20b1
           try clear c21
           try clear c21b0
           try clear c21b1
           try clear c24
           try clear q24
           try clear c26
           try clear q26
           try clear c28
           try clear c29
           try clear c31
           try clear p2
           try clear p6
           try clear q024
           try clear q026
           try clear q24
           try clear q26
           obtain ⟨kq, x107_22, rfl, HA, HJ22, HO_3, HO_4, HB⟩ := hcut
           cases kq with
           | zero => exact absurd HA.out (by simp [laws_FnReset.j1])
           | succ kj22 =>
            have H := HA.out
            clear HA
            simp only [laws_FnReset.j1] at H
            by_cases c36 : x107_22 = true
            ·subst c36
             have H1 : (some false) = some r := by rw [if_pos rfl] at H; exact H
             clear H
             have H := H1
             clear H1
             obtain rfl := Option.some.inj H
             go_wp2
             repeat (go_quiet (fail); try go_wp2)
             go_ret
             exact ⟨by first | rfl | (simp [errW_none, errW_some] <;> rfl) | (simp [*, errW_none, errW_some] <;> rfl), by repeat (first | (with_reducible first | exact HB.out | apply below_alloc | apply pw_below_drewN | apply below_drew1) | exact HB.out)⟩
            ·replace c36 := Bool.eq_false_iff.mpr c36
             subst c36
             have H1 : (if t206 > 0 then (if t207 > 0 then (if 0 ≤ t205 then (if t205 < (t199.length : Int) then (if t205 < (t200.length : Int) then (if (rdOf ByteArray.empty t199 t205).toList = (rdOf ByteArray.empty t200 t205).toList then (some false) else (if 0 ≤ (wrap64 ((wrap64 (t205 + t206)) - 1)) then (if (wrap64 ((wrap64 (t205 + t206)) - 1)) < (t199.length : Int) then (if 0 ≤ (wrap64 ((wrap64 (t205 + t207)) - 1)) then (if (wrap64 ((wrap64 (t205 + t207)) - 1)) < (t200.length : Int) then (some ((rdOf ByteArray.empty t199 (wrap64 ((wrap64 (t205 + t206)) - 1))).toList != (rdOf ByteArray.empty t200 (wrap64 ((wrap64 (t205 + t207)) - 1))).toList)) else (none)) else (none)) else (none)) else (none))) else (none)) else (none)) else (none)) else ((laws_strings.f kj22 t199 t200).bind fun t230 => (if (((t199.length : Int) == (t200.length : Int)) == t230) = true then (some true) else (some (decide ((wrap64 (t206 + t207)) > 0)))))) else ((laws_strings.f kj22 t199 t200).bind fun t231 => (if (((t199.length : Int) == (t200.length : Int)) == t231) = true then (some true) else (some (decide ((wrap64 (t206 + t207)) > 0)))))) = some r := by rw [if_neg (show ¬ (false = true) by decide)] at H; exact H
             clear H
             have H := H1
             clear H1
             by_cases c37 : t206 > 0
             ·rw [if_pos c37] at H
              have c37b0 : decide (0 < t206) = true := decide_eq_true c37
              clear c37
              by_cases c38 : t207 > 0
              ·rw [if_pos c38] at H
               have c38b0 : decide (0 < t207) = true := decide_eq_true c38
               clear c38
               by_cases c39 : 0 ≤ t205
               ·rw [if_pos c39] at H
                have c39b0 : decide (0 ≤ t205) = true := decide_eq_true c39
                clear c39
                by_cases c40 : t205 < (t199.length : Int)
                ·rw [if_pos c40] at H
                 have c40b0 : decide (t205 < (t199.length : Int)) = true := decide_eq_true c40
                 clear c40
                 by_cases c41 : t205 < (t200.length : Int)
                 ·rw [if_pos c41] at H
                  have c41b0 : decide (t205 < (t200.length : Int)) = true := decide_eq_true c41
                  clear c41
                  by_cases c42 : (rdOf ByteArray.empty t199 t205).toList = (rdOf ByteArray.empty t200 t205).toList
                  ·rw [if_pos c42] at H
                   have c42b0 : ((rdOf ByteArray.empty t199 t205).toList == (rdOf ByteArray.empty t200 t205).toList) = true := beq_iff_eq.mpr c42
                   have c42b1 : ((rdOf ByteArray.empty t199 t205).toList != (rdOf ByteArray.empty t200 t205).toList) = false := bne_eq_false_iff_eq.mpr c42
                   clear c42
                   obtain rfl := Option.some.inj H
                   have p226 : 0 ≤ (t205 : Int) := of_decide_eq_true zp4
                   have q226 : t205 < (t199.length : Int) := of_decide_eq_true zp4
                   obtain ⟨ad226, e226, hx226_0⟩ := Kd.at_string (Kd.R_reads' HO_3.out).2.2 t205 p226 q226
                   cases e226
                   replace p226 := eq_true p226
                   replace q226 := eq_true q226
                   have p227 : 0 ≤ (t205 : Int) := of_decide_eq_true zp4
                   have q227 : t205 < (t200.length : Int) := of_decide_eq_true zp4
                   obtain ⟨ad227, e227, hx227_0⟩ := Kd.at_string (Kd.R_reads' HO_4.out).2.2 t205 p227 q227
                   cases e227
                   replace p227 := eq_true p227
                   replace q227 := eq_true q227
                   go_wp2
                   repeat (go_quiet (fail); try go_wp2)
                   go_ret
                   exact ⟨by first | rfl | (simp [errW_none, errW_some] <;> rfl) | (simp [*, errW_none, errW_some] <;> rfl), by repeat (first | (with_reducible first | exact HB.out | apply below_alloc | apply pw_below_drewN | apply below_drew1) | exact HB.out)⟩
                  ·rw [if_neg c42] at H
                   have c42b0 : ((rdOf ByteArray.empty t199 t205).toList == (rdOf ByteArray.empty t200 t205).toList) = false := beq_eq_false_iff_ne.mpr c42
                   have c42b1 : ((rdOf ByteArray.empty t199 t205).toList != (rdOf ByteArray.empty t200 t205).toList) = true := bne_iff_ne.mpr c42
                   obtain ⟨ji43, hji43⟩ : ∃ j_ : Int, (wrap64 ((wrap64 (t205 + t206)) - 1)) = j_ := ⟨_, rfl⟩
                   replace H : (if 0 ≤ (ji43) then (if (ji43) < (t199.length : Int) then (if 0 ≤ (wrap64 ((wrap64 (t205 + t207)) - 1)) then (if (wrap64 ((wrap64 (t205 + t207)) - 1)) < (t200.length : Int) then (some ((rdOf ByteArray.empty t199 (ji43)).toList != (rdOf ByteArray.empty t200 (wrap64 ((wrap64 (t205 + t207)) - 1))).toList)) else (none)) else (none)) else (none)) else (none)) = some r := by first | (rw [hji43] at H; exact H) | (simp only [hji43] at H ⊢; exact H)
                   have hji43w : (IntKind.i64.wrap ((wrap64 (t205 + t206)) - 1)) = ji43 := (i64_w _).trans hji43
                   by_cases c44 : 0 ≤ (ji43)
                   ·rw [if_pos c44] at H
                    have c44b0 : decide (0 ≤ (ji43)) = true := decide_eq_true c44
                    clear c44
                    by_cases c45 : (ji43) < (t199.length : Int)
                    ·rw [if_pos c45] at H
                     have c45b0 : decide ((ji43) < (t199.length : Int)) = true := decide_eq_true c45
                     clear c45
                     obtain ⟨ji46, hji46⟩ : ∃ j_ : Int, (wrap64 ((wrap64 (t205 + t207)) - 1)) = j_ := ⟨_, rfl⟩
                     replace H : (if 0 ≤ (ji46) then (if (ji46) < (t200.length : Int) then (some ((rdOf ByteArray.empty t199 (ji43)).toList != (rdOf ByteArray.empty t200 (ji46)).toList)) else (none)) else (none)) = some r := by first | (rw [hji46] at H; exact H) | (simp only [hji46] at H ⊢; exact H)
                     have hji46w : (IntKind.i64.wrap ((wrap64 (t205 + t207)) - 1)) = ji46 := (i64_w _).trans hji46
                     by_cases c47 : 0 ≤ (ji46)
                     ·rw [if_pos c47] at H
                      have c47b0 : decide (0 ≤ (ji46)) = true := decide_eq_true c47
                      clear c47
                      by_cases c48 : (ji46) < (t200.length : Int)
                      ·rw [if_pos c48] at H
                       have c48b0 : decide ((ji46) < (t200.length : Int)) = true := decide_eq_true c48
                       clear c48
                       obtain rfl := Option.some.inj H
                       have p226 : 0 ≤ (t205 : Int) := of_decide_eq_true zp4
                       have q226 : t205 < (t199.length : Int) := of_decide_eq_true zp4
                       obtain ⟨ad226, e226, hx226_0⟩ := Kd.at_string (Kd.R_reads' HO_3.out).2.2 t205 p226 q226
                       cases e226
                       replace p226 := eq_true p226
                       replace q226 := eq_true q226
                       have p227 : 0 ≤ (t205 : Int) := of_decide_eq_true zp4
                       have q227 : t205 < (t200.length : Int) := of_decide_eq_true zp4
                       obtain ⟨ad227, e227, hx227_0⟩ := Kd.at_string (Kd.R_reads' HO_4.out).2.2 t205 p227 q227
                       cases e227
                       replace p227 := eq_true p227
                       replace q227 := eq_true q227
                       have p228 : 0 ≤ ((ji43) : Int) := of_decide_eq_true zp4
                       have q228 : (ji43) < (t199.length : Int) := of_decide_eq_true zp4
                       obtain ⟨ad228, e228, hx228_0⟩ := Kd.at_string (Kd.R_reads' HO_3.out).2.2 (ji43) p228 q228
                       obtain rfl : ad226 = ad228 := (by injection e228)
                       replace p228 := eq_true p228
                       replace q228 := eq_true q228
                       have p229 : 0 ≤ ((ji46) : Int) := of_decide_eq_true zp4
                       have q229 : (ji46) < (t200.length : Int) := of_decide_eq_true zp4
                       obtain ⟨ad229, e229, hx229_0⟩ := Kd.at_string (Kd.R_reads' HO_4.out).2.2 (ji46) p229 q229
                       obtain rfl : ad227 = ad229 := (by injection e229)
                       replace p229 := eq_true p229
                       replace q229 := eq_true q229
                       go_wp2
                       repeat (go_quiet (fail); try go_wp2)
                       go_ret
                       exact ⟨by first | rfl | (simp [errW_none, errW_some] <;> rfl) | (simp only [← hji43, ← hji46]; first | rfl | (simp [errW_none, errW_some] <;> rfl)) | (simp [*, errW_none, errW_some] <;> rfl), by repeat (first | (with_reducible first | exact HB.out | apply below_alloc | apply pw_below_drewN | apply below_drew1) | exact HB.out)⟩
                      ·rw [if_neg c48] at H
                       exact absurd H zp14
                     ·rw [if_neg c47] at H
                      exact absurd H zp14
                    ·rw [if_neg c45] at H
                     exact absurd H zp14
                   ·rw [if_neg c44] at H
                    exact absurd H zp14
                 ·rw [if_neg c41] at H
                  exact absurd H zp14
                ·rw [if_neg c40] at H
                 exact absurd H zp14
               ·rw [if_neg c39] at H
                exact absurd H zp14
              ·rw [if_neg c38] at H
               have c38b0 : decide (0 < t207) = false := decide_eq_false c38
               clear c38
               replace H := Option.bind_eq_some_iff.mp H
               obtain ⟨t230, A490, H⟩ := H
               replace H : (if (((t199.length : Int) == (t200.length : Int)) == t230) = true then (some true) else (some (decide ((wrap64 (t206 + t207)) > 0)))) = some r := H
               have A49 := Aside0.mk A490
               clear A490
               by_cases c50 : (((t199.length : Int) == (t200.length : Int)) == t230) = true
               ·rw [if_pos c50] at H
                have c50b0 : (((t199.length : Int) == (t200.length : Int)) == t230) = true := c50
                (try (have c50b1 : decide (((t199.length : Int) == (t200.length : Int)) = t230) = true := by simpa using c50))
                (try (have c50b2 : (((t199.length : Int) == (t200.length : Int)) == t230) = true := by simpa using c50))
                clear c50
                obtain rfl := Option.some.inj H
                go_wp2_with (first | (go_at_call 24; (with_reducible refine (laws_strings.calls kj22 _ _ t199 _ _ t200 t230 _ ?side1 ?side2 ?side3 ?side4 A49.out).mono ?_); (case side1 => repeat (first | exact (Kd.R_reads' HO_3.out).2.2 | (with_reducible refine Kd.C_alloc ?_ _) | (with_reducible refine Kd.C_drewN ?_ _) | (with_reducible refine Kd.C_drew ?_))); (case side2 => exact (Kd.R_reads' HO_3.out).2.1); (case side3 => repeat (first | exact (Kd.R_reads' HO_4.out).2.2 | (with_reducible refine Kd.C_alloc ?_ _) | (with_reducible refine Kd.C_drewN ?_ _) | (with_reducible refine Kd.C_drew ?_))); (case side4 => exact (Kd.R_reads' HO_4.out).2.1); rintro e w' ⟨rfl, ⟨nd, rfl⟩⟩; (try first | exact ⟨rfl, _, World.drewN_drewN _ _ _⟩ | exact ⟨rfl, _, Eq.trans (World.drewN_drewN _ _ _) (congrArg (World.drewN _) (Nat.add_assoc _ _ _))⟩)))
                repeat (go_quiet (first | (go_at_call 24; (with_reducible refine (laws_strings.calls kj22 _ _ t199 _ _ t200 t230 _ ?side1 ?side2 ?side3 ?side4 A49.out).mono ?_); (case side1 => repeat (first | exact (Kd.R_reads' HO_3.out).2.2 | (with_reducible refine Kd.C_alloc ?_ _) | (with_reducible refine Kd.C_drewN ?_ _) | (with_reducible refine Kd.C_drew ?_))); (case side2 => exact (Kd.R_reads' HO_3.out).2.1); (case side3 => repeat (first | exact (Kd.R_reads' HO_4.out).2.2 | (with_reducible refine Kd.C_alloc ?_ _) | (with_reducible refine Kd.C_drewN ?_ _) | (with_reducible refine Kd.C_drew ?_))); (case side4 => exact (Kd.R_reads' HO_4.out).2.1); rintro e w' ⟨rfl, ⟨nd, rfl⟩⟩; (try first | exact ⟨rfl, _, World.drewN_drewN _ _ _⟩ | exact ⟨rfl, _, Eq.trans (World.drewN_drewN _ _ _) (congrArg (World.drewN _) (Nat.add_assoc _ _ _))⟩))); try go_wp2_with (first | (go_at_call 24; (with_reducible refine (laws_strings.calls kj22 _ _ t199 _ _ t200 t230 _ ?side1 ?side2 ?side3 ?side4 A49.out).mono ?_); (case side1 => repeat (first | exact (Kd.R_reads' HO_3.out).2.2 | (with_reducible refine Kd.C_alloc ?_ _) | (with_reducible refine Kd.C_drewN ?_ _) | (with_reducible refine Kd.C_drew ?_))); (case side2 => exact (Kd.R_reads' HO_3.out).2.1); (case side3 => repeat (first | exact (Kd.R_reads' HO_4.out).2.2 | (with_reducible refine Kd.C_alloc ?_ _) | (with_reducible refine Kd.C_drewN ?_ _) | (with_reducible refine Kd.C_drew ?_))); (case side4 => exact (Kd.R_reads' HO_4.out).2.1); rintro e w' ⟨rfl, ⟨nd, rfl⟩⟩; (try first | exact ⟨rfl, _, World.drewN_drewN _ _ _⟩ | exact ⟨rfl, _, Eq.trans (World.drewN_drewN _ _ _) (congrArg (World.drewN _) (Nat.add_assoc _ _ _))⟩))))
                go_ret
                exact ⟨by first | rfl | (simp [errW_none, errW_some] <;> rfl) | (simp [*, errW_none, errW_some] <;> rfl), by repeat (first | (with_reducible first | exact HB.out | apply below_alloc | apply pw_below_drewN | apply below_drew1) | exact HB.out)⟩
               ·rw [if_neg c50] at H
                have c50b0 : (((t199.length : Int) == (t200.length : Int)) == t230) = false := by simpa using c50
                (try (have c50b1 : decide (((t199.length : Int) == (t200.length : Int)) = t230) = false := by simpa using c50))
                (try (have c50b2 : (((t199.length : Int) == (t200.length : Int)) == t230) = false := by simpa using c50))
                (try (have c50b3 : ¬ (((t199.length : Int) == (t200.length : Int)) = t230) := by simpa using c50))
                clear c50
                obtain rfl := Option.some.inj H
                go_wp2_with (first | (go_at_call 24; (with_reducible refine (laws_strings.calls kj22 _ _ t199 _ _ t200 t230 _ ?side1 ?side2 ?side3 ?side4 A49.out).mono ?_); (case side1 => repeat (first | exact (Kd.R_reads' HO_3.out).2.2 | (with_reducible refine Kd.C_alloc ?_ _) | (with_reducible refine Kd.C_drewN ?_ _) | (with_reducible refine Kd.C_drew ?_))); (case side2 => exact (Kd.R_reads' HO_3.out).2.1); (case side3 => repeat (first | exact (Kd.R_reads' HO_4.out).2.2 | (with_reducible refine Kd.C_alloc ?_ _) | (with_reducible refine Kd.C_drewN ?_ _) | (with_reducible refine Kd.C_drew ?_))); (case side4 => exact (Kd.R_reads' HO_4.out).2.1); rintro e w' ⟨rfl, ⟨nd, rfl⟩⟩; (try first | exact ⟨rfl, _, World.drewN_drewN _ _ _⟩ | exact ⟨rfl, _, Eq.trans (World.drewN_drewN _ _ _) (congrArg (World.drewN _) (Nat.add_assoc _ _ _))⟩)))
                repeat (go_quiet (first | (go_at_call 24; (with_reducible refine (laws_strings.calls kj22 _ _ t199 _ _ t200 t230 _ ?side1 ?side2 ?side3 ?side4 A49.out).mono ?_); (case side1 => repeat (first | exact (Kd.R_reads' HO_3.out).2.2 | (with_reducible refine Kd.C_alloc ?_ _) | (with_reducible refine Kd.C_drewN ?_ _) | (with_reducible refine Kd.C_drew ?_))); (case side2 => exact (Kd.R_reads' HO_3.out).2.1); (case side3 => repeat (first | exact (Kd.R_reads' HO_4.out).2.2 | (with_reducible refine Kd.C_alloc ?_ _) | (with_reducible refine Kd.C_drewN ?_ _) | (with_reducible refine Kd.C_drew ?_))); (case side4 => exact (Kd.R_reads' HO_4.out).2.1); rintro e w' ⟨rfl, ⟨nd, rfl⟩⟩; (try first | exact ⟨rfl, _, World.drewN_drewN _ _ _⟩ | exact ⟨rfl, _, Eq.trans (World.drewN_drewN _ _ _) (congrArg (World.drewN _) (Nat.add_assoc _ _ _))⟩))); try go_wp2_with (first | (go_at_call 24; (with_reducible refine (laws_strings.calls kj22 _ _ t199 _ _ t200 t230 _ ?side1 ?side2 ?side3 ?side4 A49.out).mono ?_); (case side1 => repeat (first | exact (Kd.R_reads' HO_3.out).2.2 | (with_reducible refine Kd.C_alloc ?_ _) | (with_reducible refine Kd.C_drewN ?_ _) | (with_reducible refine Kd.C_drew ?_))); (case side2 => exact (Kd.R_reads' HO_3.out).2.1); (case side3 => repeat (first | exact (Kd.R_reads' HO_4.out).2.2 | (with_reducible refine Kd.C_alloc ?_ _) | (with_reducible refine Kd.C_drewN ?_ _) | (with_reducible refine Kd.C_drew ?_))); (case side4 => exact (Kd.R_reads' HO_4.out).2.1); rintro e w' ⟨rfl, ⟨nd, rfl⟩⟩; (try first | exact ⟨rfl, _, World.drewN_drewN _ _ _⟩ | exact ⟨rfl, _, Eq.trans (World.drewN_drewN _ _ _) (congrArg (World.drewN _) (Nat.add_assoc _ _ _))⟩))))
                go_ret
                exact ⟨by first | rfl | (simp [errW_none, errW_some] <;> rfl) | (simp [*, errW_none, errW_some] <;> rfl), by repeat (first | (with_reducible first | exact HB.out | apply below_alloc | apply pw_below_drewN | apply below_drew1) | exact HB.out)⟩
             ·rw [if_neg c37] at H
              have c37b0 : decide (0 < t206) = false := decide_eq_false c37
              clear c37
              replace H := Option.bind_eq_some_iff.mp H
              obtain ⟨t231, A510, H⟩ := H
              replace H : (if (((t199.length : Int) == (t200.length : Int)) == t231) = true then (some true) else (some (decide ((wrap64 (t206 + t207)) > 0)))) = some r := H
              have A51 := Aside0.mk A510
              clear A510
              by_cases c52 : (((t199.length : Int) == (t200.length : Int)) == t231) = true
              ·rw [if_pos c52] at H
               have c52b0 : (((t199.length : Int) == (t200.length : Int)) == t231) = true := c52
               (try (have c52b1 : decide (((t199.length : Int) == (t200.length : Int)) = t231) = true := by simpa using c52))
               (try (have c52b2 : (((t199.length : Int) == (t200.length : Int)) == t231) = true := by simpa using c52))
               clear c52
               obtain rfl := Option.some.inj H
               go_wp2_with (first | (go_at_call 24; (with_reducible refine (laws_strings.calls kj22 _ _ t199 _ _ t200 t231 _ ?side1 ?side2 ?side3 ?side4 A51.out).mono ?_); (case side1 => repeat (first | exact (Kd.R_reads' HO_3.out).2.2 | (with_reducible refine Kd.C_alloc ?_ _) | (with_reducible refine Kd.C_drewN ?_ _) | (with_reducible refine Kd.C_drew ?_))); (case side2 => exact (Kd.R_reads' HO_3.out).2.1); (case side3 => repeat (first | exact (Kd.R_reads' HO_4.out).2.2 | (with_reducible refine Kd.C_alloc ?_ _) | (with_reducible refine Kd.C_drewN ?_ _) | (with_reducible refine Kd.C_drew ?_))); (case side4 => exact (Kd.R_reads' HO_4.out).2.1); rintro e w' ⟨rfl, ⟨nd, rfl⟩⟩; (try first | exact ⟨rfl, _, World.drewN_drewN _ _ _⟩ | exact ⟨rfl, _, Eq.trans (World.drewN_drewN _ _ _) (congrArg (World.drewN _) (Nat.add_assoc _ _ _))⟩)))
               repeat (go_quiet (first | (go_at_call 24; (with_reducible refine (laws_strings.calls kj22 _ _ t199 _ _ t200 t231 _ ?side1 ?side2 ?side3 ?side4 A51.out).mono ?_); (case side1 => repeat (first | exact (Kd.R_reads' HO_3.out).2.2 | (with_reducible refine Kd.C_alloc ?_ _) | (with_reducible refine Kd.C_drewN ?_ _) | (with_reducible refine Kd.C_drew ?_))); (case side2 => exact (Kd.R_reads' HO_3.out).2.1); (case side3 => repeat (first | exact (Kd.R_reads' HO_4.out).2.2 | (with_reducible refine Kd.C_alloc ?_ _) | (with_reducible refine Kd.C_drewN ?_ _) | (with_reducible refine Kd.C_drew ?_))); (case side4 => exact (Kd.R_reads' HO_4.out).2.1); rintro e w' ⟨rfl, ⟨nd, rfl⟩⟩; (try first | exact ⟨rfl, _, World.drewN_drewN _ _ _⟩ | exact ⟨rfl, _, Eq.trans (World.drewN_drewN _ _ _) (congrArg (World.drewN _) (Nat.add_assoc _ _ _))⟩))); try go_wp2_with (first | (go_at_call 24; (with_reducible refine (laws_strings.calls kj22 _ _ t199 _ _ t200 t231 _ ?side1 ?side2 ?side3 ?side4 A51.out).mono ?_); (case side1 => repeat (first | exact (Kd.R_reads' HO_3.out).2.2 | (with_reducible refine Kd.C_alloc ?_ _) | (with_reducible refine Kd.C_drewN ?_ _) | (with_reducible refine Kd.C_drew ?_))); (case side2 => exact (Kd.R_reads' HO_3.out).2.1); (case side3 => repeat (first | exact (Kd.R_reads' HO_4.out).2.2 | (with_reducible refine Kd.C_alloc ?_ _) | (with_reducible refine Kd.C_drewN ?_ _) | (with_reducible refine Kd.C_drew ?_))); (case side4 => exact (Kd.R_reads' HO_4.out).2.1); rintro e w' ⟨rfl, ⟨nd, rfl⟩⟩; (try first | exact ⟨rfl, _, World.drewN_drewN _ _ _⟩ | exact ⟨rfl, _, Eq.trans (World.drewN_drewN _ _ _) (congrArg (World.drewN _) (Nat.add_assoc _ _ _))⟩))))
               go_ret
               exact ⟨by first | rfl | (simp [errW_none, errW_some] <;> rfl) | (simp [*, errW_none, errW_some] <;> rfl), by repeat (first | (with_reducible first | exact HB.out | apply below_alloc | apply pw_below_drewN | apply below_drew1) | exact HB.out)⟩
              ·rw [if_neg c52] at H
               have c52b0 : (((t199.length : Int) == (t200.length : Int)) == t231) = false := by simpa using c52
               (try (have c52b1 : decide (((t199.length : Int) == (t200.length : Int)) = t231) = false := by simpa using c52))
               (try (have c52b2 : (((t199.length : Int) == (t200.length : Int)) == t231) = false := by simpa using c52))
               (try (have c52b3 : ¬ (((t199.length : Int) == (t200.length : Int)) = t231) := by simpa using c52))
               clear c52
               obtain rfl := Option.some.inj H
               go_wp2_with (first | (go_at_call 24; (with_reducible refine (laws_strings.calls kj22 _ _ t199 _ _ t200 t231 _ ?side1 ?side2 ?side3 ?side4 A51.out).mono ?_); (case side1 => repeat (first | exact (Kd.R_reads' HO_3.out).2.2 | (with_reducible refine Kd.C_alloc ?_ _) | (with_reducible refine Kd.C_drewN ?_ _) | (with_reducible refine Kd.C_drew ?_))); (case side2 => exact (Kd.R_reads' HO_3.out).2.1); (case side3 => repeat (first | exact (Kd.R_reads' HO_4.out).2.2 | (with_reducible refine Kd.C_alloc ?_ _) | (with_reducible refine Kd.C_drewN ?_ _) | (with_reducible refine Kd.C_drew ?_))); (case side4 => exact (Kd.R_reads' HO_4.out).2.1); rintro e w' ⟨rfl, ⟨nd, rfl⟩⟩; (try first | exact ⟨rfl, _, World.drewN_drewN _ _ _⟩ | exact ⟨rfl, _, Eq.trans (World.drewN_drewN _ _ _) (congrArg (World.drewN _) (Nat.add_assoc _ _ _))⟩)))
               repeat (go_quiet (first | (go_at_call 24; (with_reducible refine (laws_strings.calls kj22 _ _ t199 _ _ t200 t231 _ ?side1 ?side2 ?side3 ?side4 A51.out).mono ?_); (case side1 => repeat (first | exact (Kd.R_reads' HO_3.out).2.2 | (with_reducible refine Kd.C_alloc ?_ _) | (with_reducible refine Kd.C_drewN ?_ _) | (with_reducible refine Kd.C_drew ?_))); (case side2 => exact (Kd.R_reads' HO_3.out).2.1); (case side3 => repeat (first | exact (Kd.R_reads' HO_4.out).2.2 | (with_reducible refine Kd.C_alloc ?_ _) | (with_reducible refine Kd.C_drewN ?_ _) | (with_reducible refine Kd.C_drew ?_))); (case side4 => exact (Kd.R_reads' HO_4.out).2.1); rintro e w' ⟨rfl, ⟨nd, rfl⟩⟩; (try first | exact ⟨rfl, _, World.drewN_drewN _ _ _⟩ | exact ⟨rfl, _, Eq.trans (World.drewN_drewN _ _ _) (congrArg (World.drewN _) (Nat.add_assoc _ _ _))⟩))); try go_wp2_with (first | (go_at_call 24; (with_reducible refine (laws_strings.calls kj22 _ _ t199 _ _ t200 t231 _ ?side1 ?side2 ?side3 ?side4 A51.out).mono ?_); (case side1 => repeat (first | exact (Kd.R_reads' HO_3.out).2.2 | (with_reducible refine Kd.C_alloc ?_ _) | (with_reducible refine Kd.C_drewN ?_ _) | (with_reducible refine Kd.C_drew ?_))); (case side2 => exact (Kd.R_reads' HO_3.out).2.1); (case side3 => repeat (first | exact (Kd.R_reads' HO_4.out).2.2 | (with_reducible refine Kd.C_alloc ?_ _) | (with_reducible refine Kd.C_drewN ?_ _) | (with_reducible refine Kd.C_drew ?_))); (case side4 => exact (Kd.R_reads' HO_4.out).2.1); rintro e w' ⟨rfl, ⟨nd, rfl⟩⟩; (try first | exact ⟨rfl, _, World.drewN_drewN _ _ _⟩ | exact ⟨rfl, _, Eq.trans (World.drewN_drewN _ _ _) (congrArg (World.drewN _) (Nat.add_assoc _ _ _))⟩))))
               go_ret
               exact ⟨by first | rfl | (simp [errW_none, errW_some] <;> rfl) | (simp [*, errW_none, errW_some] <;> rfl), by repeat (first | (with_reducible first | exact HB.out | apply below_alloc | apply pw_below_drewN | apply below_drew1) | exact HB.out)⟩
         ·rw [if_neg c21] at H
          exact absurd H zp14
        ·rw [if_neg c20] at H
         exact absurd H zp14
       ·rw [if_neg c17] at H
        exact absurd H zp14
      ·rw [if_neg c16] at H
       exact absurd H zp14
     ·rw [if_neg c15] at H
      exact absurd H zp14
def laws_FnReset.Pure : Prop := ∀ (l0 : List Int), l0.length ≤ maxLen → l0.length * 1 ≤ 140737488351232 → (∀ x ∈ l0, (Lit.int .u8 x).wf = true) → ∃ k, laws_FnReset.f k l0 = some true
theorem laws_FnReset.walk (P : laws_FnReset.Pure) (a0 : Option Addr) (len0 cap0 : Nat) (z0 : List Int) (w : World) (w0 : (a0 = none ∧ len0 = 0 ∧ cap0 = 0 ∧ z0 = []) ∨ ∃ x, a0 = some x ∧ len0 ≤ cap0 ∧ cap0 ≤ maxLen ∧ z0.length = cap0 ∧ (∀ i, i < z0.length → w.cell? (x.add i) = some (.int .u8 (z0.getD i 0))) ∧ ∀ n ∈ z0, (Lit.int .u8 n).wf = true) (y0 : len0 * 1 ≤ 140737488351232) :
 Calls Try.prog 6 #[.slice a0 len0 cap0] w fun e w' => e = .returned (.bool true) ∧ Below w.heap.size w w' := by
 obtain ⟨l0, rfl, hr0, hm0, hw0, hc0⟩ := ReadsInt.ofRowC w0
 obtain ⟨k, h⟩ := P l0 hm0 y0 hw0
 refine (laws_FnReset.calls k _ _ l0 true w (Kd.C_of_reads (d := (0 : Int)) (h1 := fun _ => rfl) hr0) hc0 h).mono ?_
 rintro e w' ⟨rfl, hd⟩
 exact ⟨rfl, hd⟩
end Go.Proofs.Ytlhipchbjgfodaa.PFnReset
