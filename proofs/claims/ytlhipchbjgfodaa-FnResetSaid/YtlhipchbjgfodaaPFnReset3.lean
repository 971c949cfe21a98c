/- Written by a program of this session with the help of the kit's print: of each Go function a Lean function, and the proof that its call comes to just what that tells. No condition beyond those that each theorem states. -/
import Derived.Test.YtlhipchbjgfodaaPFnReset0
import Derived.Test.YtlhipchbjgfodaaPFnReset2
namespace Go.Proofs.Ytlhipchbjgfodaa.PFnReset
open Go.RowKit Go.Proofs.YtlhipchbjgfodaaW.PrintWords Go.Proofs.YtlhipchbjgfodaaW.PrintLast Go.Proofs.YtlhipchbjgfodaaW.PrintMore
attribute [local go_sem] max2_int min2_int max_two min_two max_three min_three max_four min_four
set_option linter.unusedVariables false
set_option linter.unusedSimpArgs false
def l01Hash (h : Int) : List Int → Int
 | [] => h
 | b :: t => l01Hash (Go.bits .and .i64 (wrap64 (wrap64 (wrap64 (h * 1103) + wrap64 b) + 7)) 1073741823) t
theorem l01Hash_snoc (b : Int) : ∀ (l : List Int) (h : Int), l01Hash h (l ++ [b]) = Go.bits .and .i64 (wrap64 (wrap64 (wrap64 (l01Hash h l * 1103) + wrap64 b) + 7)) 1073741823
 | [], _ => rfl
 | _ :: t, _ => l01Hash_snoc b t _
theorem take_snoc_int (l : List Int) (k : Nat) (h : k < l.length) : l.take (k + 1) = l.take k ++ [l.getD k 0] := by
 rw [List.take_succ_eq_append_getElem h, List.getD_eq_getElem?_getD, List.getElem?_eq_getElem h]; rfl
theorem l01_cell {w : World} {A : Option Addr} {l : List Int} {k : IntKind} (h : Kd.C (Kd.int k) w A l.length l) : 0 < l.length → ∃ ad, A = some ad ∧ ∀ j : Nat, j < l.length → w.cell? (ad.add j) = some (.int k (l.getD j 0)) := by
 intro hp
 obtain ⟨ad, e, hc⟩ := h.2.2 hp
 refine ⟨ad, e, fun j hj => ?_⟩
 obtain ⟨c, hs, hr, hcell⟩ := hc j _ (List.getElem?_eq_getElem hj)
 have hr' : c = [.int k l[j]] := hr
 subst hr'
 have := hcell 0 _ rfl
 rw [List.getD_eq_getElem?_getD, List.getElem?_eq_getElem hj]
 simpa [Kd.int, Kd.scalar] using this
def spec_l01New.f (l0 : List Int) : Option (List Int × Int × Int) := some (l0, 0, l01Hash (wrap64 (3230 + (l0.length : Int))) (l0.take 4000))
set_option maxHeartbeats 1600000 in
theorem spec_l01New.calls (A0 : Option Addr) (c0 : Nat) (l0 : List Int) (r1 : List Int) (r2 : Int) (r3 : Int) (w0 w : World) (hB : Below w0.heap.size w0 w) (hr0 : Kd.C (Kd.int .u8) w0 A0 l0.length l0) (hc0 : l0.length ≤ c0) (h : spec_l01New.f l0 = some (r1, r2, r3)) :
 Calls Try.prog 33 #[.slice A0 l0.length c0] w fun e w' => ∃ g_ : Nat, e = .returned (.pointer (some ⟨g_, 0, none⟩)) ∧ IsS62 w0 w' g_ r1 r2 r3 ∧ Below w0.heap.size w0 w' ∧ Below w.heap.size w w' := by
 obtain ⟨rfl, rfl, rfl⟩ : l0 = r1 ∧ 0 = r2 ∧ l01Hash (wrap64 (3230 + (l0.length : Int))) (l0.take 4000) = r3 := by
  have := Option.some.inj h; simp only [Prod.mk.injEq] at this; exact this
 have hm := hr0.2.1
 have hcell := l01_cell hr0
 have HB := Lib.hid hB
 have HR := Lib.hid hr0
 have hsz := hB.size
 clear h hB hr0
 go_enter Try.func33, Try.ntmps33
 go_wp2
 go_loop [3, 4] (fun h i => ∃ k : Nat, k ≤ l0.length ∧ k ≤ 4000 ∧ i = .int .i64 k ∧ h = .int .i64 (l01Hash (wrap64 (3230 + (l0.length : Int))) (l0.take k))) (fun _ i => 4000 - (intOf i).toNat)
 case atStart => exact ⟨0, Nat.zero_le _, by omega, rfl, rfl⟩
 case round =>
  obtain ⟨k, hk, hk2, rfl, rfl⟩ := hrel
  by_cases hlt : k < l0.length ∧ k < 4000
  ·obtain ⟨h1, h2⟩ := hlt
   obtain ⟨ad, rfl, hc⟩ := hcell zp15
   obtain ⟨x, hx⟩ : ∃ x, x = l0.getD k 0 := ⟨_, rfl⟩
   have hck := pw_cell_below HB.out (hc k h1)
   rw [← hx] at hck
   have HX := Lib.hid hx
   have hd : decide ((k : Int) < 4000) = true := decide_eq_true zp15
   clear hc hcell hx
   go_wp2
   repeat (go_quiet (fail); try go_wp2)
   go_round
   case rel => exact ⟨k + 1, by omega, by omega, by go_num, by rw [take_snoc_int l0 k h1, l01Hash_snoc, ← HX.out]⟩
   case measure => simp [intOf]; omega
  ·have ht : l0.take k = l0.take 4000 := by
    by_cases h1 : k < l0.length
    ·rw [show k = 4000 from by omega]
    ·rw [List.take_of_length_le zp15, List.take_of_length_le zp15]
   rw [ht]
   clear ht
   by_cases h1 : k < l0.length
   ·have hd : decide ((k : Int) < 4000) = false := decide_eq_false zp15
    have hd2 : decide (k < 4000) = false := decide_eq_false zp15
    clear hlt
    go_wp2
    go_ret
    exact ⟨_, rfl, ⟨A0, c0, heap_alloc_new _ _, by simpa using hsz, HR.out⟩, HB.out.alloc hsz _, (Below.refl _ _).alloc (Nat.le_refl _) _⟩
   ·clear hlt
    go_wp2
    go_ret
    exact ⟨_, rfl, ⟨A0, c0, heap_alloc_new _ _, by simpa using hsz, HR.out⟩, HB.out.alloc hsz _, (Below.refl _ _).alloc (Nat.le_refl _) _⟩
def spec_DrawResetOf.f (k : Nat) (l0 : List Int) : Option (List ByteArray × List ByteArray) := (spec_l01New.f l0).bind fun bt185 => ((spec_l6Lists.f k bt185.1 bt185.2.1 bt185.2.2).bind fun bt189 => (some (bt189.1, bt189.2.1)))
theorem spec_DrawResetOf.mono : ∀ a0 k, LeO (spec_DrawResetOf.f k a0) (spec_DrawResetOf.f (k + 1) a0) := by
 intro a0 k
 unfold spec_DrawResetOf.f
 repeat' first
  | (with_reducible exact spec_l6Lists.mono _ _ _ _)
  | (with_reducible exact LeO.refl _)
  | (with_reducible exact LeO.none _)
  | (with_reducible refine LeO.ite ?_ ?_)
  | (with_reducible refine LeO.bind ?_ (fun _ => ?_))
  | exact spec_l6Lists.mono _ _ _ _
  | exact LeO.none _
  | refine LeO.ite ?_ ?_
  | refine LeO.bind ?_ (fun _ => ?_)
set_option maxHeartbeats 8000000 in
set_option maxRecDepth 100000 in
theorem spec_DrawResetOf.calls (k : Nat) (A0 : Option Addr) (c0 : Nat) (l0 : List Int) (r1 : List ByteArray) (r2 : List ByteArray) (w : World) (hr0 : Kd.C (Kd.int .u8) w A0 l0.length l0) (hc0 : l0.length ≤ c0) (h : spec_DrawResetOf.f k l0 = some (r1, r2)) :
 Calls Try.prog 23 #[.slice A0 l0.length c0] w fun e w' => ∃ v0_ v1_ : Value, e = .returned (.tuple #[v0_, v1_]) ∧ Kd.R Kd.string 9 w' w.heap.size (fun k_ => some k_ ≠ (v1_ : Value).ownBlock) v0_ r1 ∧ Kd.R Kd.string 9 w' w.heap.size (fun k_ => some k_ ≠ (v0_ : Value).ownBlock) v1_ r2 ∧ Below w.heap.size w w' := by
 have HR0 := Aside0.mk hr0
 have HC0 := Aside0.mk hc0
 clear hr0 hc0
 have HB := Aside0.mk (Below.refl w.heap.size w)
 have H : ((spec_l01New.f l0).bind fun bt185 => ((spec_l6Lists.f k bt185.1 bt185.2.1 bt185.2.2).bind fun bt189 => (some (bt189.1, bt189.2.1)))) = some (r1, r2) := h
 clear h
 replace H := Option.bind_eq_some_iff.mp H
 obtain ⟨⟨t185, t186, t187⟩, A20, H⟩ := H
 replace H : ((spec_l6Lists.f k t185 t186 t187).bind fun bt189 => (some (bt189.1, bt189.2.1))) = some (r1, r2) := H
 have A2 := Aside0.mk A20
 clear A20
 replace H := Option.bind_eq_some_iff.mp H
 obtain ⟨⟨t189, t192, t195, t196⟩, A30, H⟩ := H
 replace H : (some (t189, t192)) = some (r1, r2) := H
 have A3 := Aside0.mk A30
 clear A30
 simp only [Option.some.injEq, Prod.mk.injEq] at H
 obtain ⟨rfl, rfl⟩ := H
 go_enter Try.func23, Try.ntmps23
 go_wp2_with (first | ((with_reducible refine gate_callee (f := 33) rfl ?_); refine goesL_ (some 5) rfl rfl Try.func33 (by kernel_rfl) rfl #[.slice A0 l0.length c0] rfl zp3 ?_; (with_reducible refine (spec_l01New.calls _ _ l0 t185 t186 t187 w _ ?side1 ?side2 ?side3 A2.out).mono ?_); (case side1 => repeat (first | (with_reducible first | exact HB.out | apply below_alloc | apply pw_below_drewN | apply below_drew1) | exact HB.out)); (case side2 => exact HR0.out); (case side3 => exact HC0.out); rintro e w4 ⟨g188, rfl, hi, hb, hb2⟩; refine ⟨_, rfl, ?_⟩; have n0_ := Aside0.mk (hb); have n1_ := Aside0.mk (hi); clear HB; have HB := n0_; have HI188 := n1_; clear n0_ n1_; (try clear hb); (try clear hb2); (try clear hk); (try clear hi)) | ((with_reducible refine gate_callee (f := 32) rfl ?_); refine goesL_ (some 6) rfl rfl Try.func32 (by kernel_rfl) rfl #[.pointer (some ⟨g188, 0, none⟩)] rfl zp3 ?_; (with_reducible refine (spec_l6Lists.calls k g188 t185 t186 t187 t189 t192 t195 t196 w _ ?side1 ?side2 A3.out).mono ?_); (case side1 => repeat (first | (with_reducible first | exact HI188.out | apply IsS62.alloc | apply IsS62.drewN | apply IsS62.drew | apply IsS62.set_1 | apply IsS62.set_2) | exact HI188.out)); (case side2 => repeat (first | (with_reducible first | exact HB.out | apply below_alloc | apply pw_below_drewN | apply below_drew1 | refine below_set ?_ (IsS62.ge HI188.out)) | exact HB.out)); rintro e w5 ⟨v190, v193, rfl, ho0, ho1, hi, hb, hk⟩; refine ⟨_, rfl, ?_⟩; have n0_ := Aside0.mk (Kd.R_lower ho0 (below_size (by repeat (first | (with_reducible first | exact HB.out | apply below_alloc | apply pw_below_drewN | apply below_drew1 | refine below_set ?_ (IsS62.ge HI188.out)) | exact HB.out)))); have n1_ := Aside0.mk (Kd.R_lower ho1 (below_size (by repeat (first | (with_reducible first | exact HB.out | apply below_alloc | apply pw_below_drewN | apply below_drew1 | refine below_set ?_ (IsS62.ge HI188.out)) | exact HB.out)))); have n2_ := Aside0.mk (hb); have n3_ := Aside0.mk (hi); clear HB; clear HI188; have HO191 := n0_; have HO194 := n1_; have HB := n2_; have HI188 := n3_; clear n0_ n1_ n2_ n3_; (try clear hb); (try clear hb2); (try clear hk); (try clear hi); (try clear ho0); (try clear ho1)))
 go_ret2
 exact ⟨_, _, by first | rfl | (simp [errW_none, errW_some] <;> rfl) | (simp [*, errW_none, errW_some] <;> rfl), by (with_reducible repeat (first | apply Kd.R_alloc | apply Kd.R_drewN | apply Kd.R_drew)); exact HO191.out, by (with_reducible repeat (first | apply Kd.R_alloc | apply Kd.R_drewN | apply Kd.R_drew)); exact HO194.out, by repeat (first | (with_reducible first | exact HB.out | apply below_alloc | apply pw_below_drewN | apply below_drew1 | refine below_set ?_ (IsS62.ge HI188.out)) | exact HB.out)⟩
def laws_strings.l0 : Nat → List ByteArray → List ByteArray → Int → Int → Option (Bool)
 | 0, _, _, _, _ => none
 | k + 1, x0, x1, x12, x13 => if x13 < x12 then (if 0 ≤ x13 then (if x13 < (x0.length : Int) then (if x13 < (x1.length : Int) then (if (rdOf ByteArray.empty x0 x13).toList = (rdOf ByteArray.empty x1 x13).toList then (laws_strings.l0 k x0 x1 x12 (wrap64 (x13 + 1))) else (some false)) else (none)) else (none)) else (none)) else (some true)
def laws_strings.f (k : Nat) (l0 : List ByteArray) (l1 : List ByteArray) : Option (Bool) := if (l0.length : Int) = (l1.length : Int) then (laws_strings.l0 k l0 l1 (l0.length : Int) 0) else (some false)
theorem laws_strings.mono_l : ∀ k, (∀ y0 y1 y2 y3, LeO (laws_strings.l0 k y0 y1 y2 y3) (laws_strings.l0 (k + 1) y0 y1 y2 y3))
 | 0 => fun _ _ _ _ r h => by simp [laws_strings.l0] at h
 | k + 1 => by
  have ih0 := laws_strings.mono_l k
  ·intro y0 y1 y2 y3
   unfold laws_strings.l0
   repeat' first
   | (with_reducible exact ih0 _ _ _ _)
   | (with_reducible exact LeO.refl _)
   | (with_reducible exact LeO.none _)
   | (with_reducible refine LeO.ite ?_ ?_)
   | (with_reducible refine LeO.bind ?_ (fun _ => ?_))
   | exact ih0 _ _ _ _
   | exact LeO.none _
   | refine LeO.ite ?_ ?_
   | refine LeO.bind ?_ (fun _ => ?_)
theorem laws_strings.mono : ∀ a0 a1 k, LeO (laws_strings.f k a0 a1) (laws_strings.f (k + 1) a0 a1) := by
 intro a0 a1 k
 have ih0 := laws_strings.mono_l k
 unfold laws_strings.f
 repeat' first
  | (with_reducible exact ih0 _ _ _ _)
  | (with_reducible exact LeO.refl _)
  | (with_reducible exact LeO.none _)
  | (with_reducible refine LeO.ite ?_ ?_)
  | (with_reducible refine LeO.bind ?_ (fun _ => ?_))
  | exact ih0 _ _ _ _
  | exact LeO.none _
  | refine LeO.ite ?_ ?_
  | refine LeO.bind ?_ (fun _ => ?_)
set_option maxHeartbeats 8000000 in
set_option maxRecDepth 100000 in
theorem laws_strings.calls (k : Nat) (A0 : Option Addr) (c0 : Nat) (l0 : List ByteArray) (A1 : Option Addr) (c1 : Nat) (l1 : List ByteArray) (r : Bool) (w : World) (hr0 : Kd.C Kd.string w A0 l0.length l0) (hc0 : l0.length ≤ c0) (hr1 : Kd.C Kd.string w A1 l1.length l1) (hc1 : l1.length ≤ c1) (h : laws_strings.f k l0 l1 = some r) :
 Calls Try.prog 24 #[.slice A0 l0.length c0, .slice A1 l1.length c1] w fun e w' => e = .returned (.bool r) ∧ Drawn0 w w' := by
 have HR0 := Aside0.mk hr0
 have HC0 := Aside0.mk hc0
 clear hr0 hc0
 have HR1 := Aside0.mk hr1
 have HC1 := Aside0.mk hc1
 clear hr1 hc1
 have H : (if (l0.length : Int) = (l1.length : Int) then (laws_strings.l0 k l0 l1 (l0.length : Int) 0) else (some false)) = some r := h
 clear h
 by_cases c3 : (l0.length : Int) = (l1.length : Int)
 ·rw [if_pos c3] at H
  have c3b0 : ((l0.length : Int) == (l1.length : Int)) = true := beq_iff_eq.mpr c3
  have c3b1 : ((l0.length : Int) != (l1.length : Int)) = false := bne_eq_false_iff_eq.mpr c3
  have c3b2 : (l0.length == l1.length) = true := by first | simpa using c3 | (simp at c3 ⊢; omega)
  clear c3
  have H' := Aside0.mk H
  clear H
  go_enter Try.func24, Try.ntmps24
  go_wp2
  repeat (go_quiet (fail); try go_wp2)
  go_loopg [13] k (fun kq v13 w' => ∃ (x13_1 : Int), v13 = .int .i64 x13_1 ∧ Aside0 (laws_strings.l0 kq l0 l1 (l0.length : Int) x13_1 = some r) ∧ Aside0 (kq ≤ k) ∧ Drawn0 w w')
  case atStart => exact ⟨(0), zp10, H', ⟨Nat.le_refl _⟩, by repeat (first | exact Drawn0.refl _ | apply Drawn0.step)⟩
  case round =>
   clear H'
   try clear c1
   try clear c2
   try clear p2
   try clear c3
   try clear c3b0
   try clear c3b1
   try clear c3b2
   obtain ⟨x13_1, rfl, HA, HK1, ⟨m1, rfl⟩⟩ := hrel
   cases gk with
   | zero => exact absurd HA.out (by simp [laws_strings.l0])
   | succ k1 =>
    have H := HA.out
    clear HA
    simp only [laws_strings.l0] at H
    by_cases c4 : x13_1 < (l0.length : Int)
    ·rw [if_pos c4] at H
     have c4b0 : decide (x13_1 < (l0.length : Int)) = true := decide_eq_true c4
     clear c4
     by_cases c5 : 0 ≤ x13_1
     ·rw [if_pos c5] at H
      have c5b0 : decide (0 ≤ x13_1) = true := decide_eq_true c5
      clear c5
      by_cases c6 : x13_1 < (l0.length : Int)
      ·rw [if_pos c6] at H
       have c6b0 : decide (x13_1 < (l0.length : Int)) = true := decide_eq_true c6
       clear c6
       by_cases c7 : x13_1 < (l1.length : Int)
       ·rw [if_pos c7] at H
        have c7b0 : decide (x13_1 < (l1.length : Int)) = true := decide_eq_true c7
        clear c7
        by_cases c8 : (rdOf ByteArray.empty l0 x13_1).toList = (rdOf ByteArray.empty l1 x13_1).toList
        ·rw [if_pos c8] at H
         have c8b0 : ((rdOf ByteArray.empty l0 x13_1).toList == (rdOf ByteArray.empty l1 x13_1).toList) = true := beq_iff_eq.mpr c8
         have c8b1 : ((rdOf ByteArray.empty l0 x13_1).toList != (rdOf ByteArray.empty l1 x13_1).toList) = false := bne_eq_false_iff_eq.mpr c8
         clear c8
         have H' := Aside0.mk H
         clear H
         have p197 : 0 ≤ (x13_1 : Int) := of_decide_eq_true zp4
         have q197 : x13_1 < (l0.length : Int) := of_decide_eq_true zp4
         obtain ⟨ad197, e197, hx197_0⟩ := Kd.at_string HR0.out x13_1 p197 q197
         cases e197
         replace p197 := eq_true p197
         replace q197 := eq_true q197
         have p198 : 0 ≤ (x13_1 : Int) := of_decide_eq_true zp4
         have q198 : x13_1 < (l1.length : Int) := of_decide_eq_true zp4
         obtain ⟨ad198, e198, hx198_0⟩ := Kd.at_string HR1.out x13_1 p198 q198
         cases e198
         replace p198 := eq_true p198
         replace q198 := eq_true q198
         go_wp2
         repeat (go_quiet (fail); try go_wp2)
         go_roundg k1
         case measure => have := HK1.out; omega
         case rel => exact ⟨(wrap64 (x13_1 + 1)), zp10, H', ⟨by have := HK1.out; omega⟩, by repeat (first | exact Drawn0.refl _ | apply Drawn0.step)⟩
        ·rw [if_neg c8] at H
         have c8b0 : ((rdOf ByteArray.empty l0 x13_1).toList == (rdOf ByteArray.empty l1 x13_1).toList) = false := beq_eq_false_iff_ne.mpr c8
         have c8b1 : ((rdOf ByteArray.empty l0 x13_1).toList != (rdOf ByteArray.empty l1 x13_1).toList) = true := bne_iff_ne.mpr c8
         obtain rfl := Option.some.inj H
         have p197 : 0 ≤ (x13_1 : Int) := of_decide_eq_true zp4
         have q197 : x13_1 < (l0.length : Int) := of_decide_eq_true zp4
         obtain ⟨ad197, e197, hx197_0⟩ := Kd.at_string HR0.out x13_1 p197 q197
         cases e197
         replace p197 := eq_true p197
         replace q197 := eq_true q197
         have p198 : 0 ≤ (x13_1 : Int) := of_decide_eq_true zp4
         have q198 : x13_1 < (l1.length : Int) := of_decide_eq_true zp4
         obtain ⟨ad198, e198, hx198_0⟩ := Kd.at_string HR1.out x13_1 p198 q198
         cases e198
         replace p198 := eq_true p198
         replace q198 := eq_true q198
         go_wp2
         repeat (go_quiet (fail); try go_wp2)
         go_ret
         exact ⟨by first | rfl | (simp; done) | (simp [*]; done), by repeat (first | exact Drawn0.refl _ | apply Drawn0.step)⟩
       ·rw [if_neg c7] at H
        exact absurd H zp14
      ·rw [if_neg c6] at H
       exact absurd H zp14
     ·rw [if_neg c5] at H
      exact absurd H zp14
    ·rw [if_neg c4] at H
     have c4b0 : decide (x13_1 < (l0.length : Int)) = false := decide_eq_false c4
     clear c4
     obtain rfl := Option.some.inj H
     go_wp2
     repeat (go_quiet (fail); try go_wp2)
     go_ret
     exact ⟨by first | rfl | (simp; done) | (simp [*]; done), by repeat (first | exact Drawn0.refl _ | apply Drawn0.step)⟩
 ·rw [if_neg c3] at H
  have c3b0 : ((l0.length : Int) == (l1.length : Int)) = false := beq_eq_false_iff_ne.mpr c3
  have c3b1 : ((l0.length : Int) != (l1.length : Int)) = true := bne_iff_ne.mpr c3
  have c3b2 : (l0.length == l1.length) = false := by first | simpa using c3 | (simp at c3 ⊢; omega)
  obtain rfl := Option.some.inj H
  go_enter Try.func24, Try.ntmps24
  go_wp2
  repeat (go_quiet (fail); try go_wp2)
  go_ret
  exact ⟨by first | rfl | (simp; done) | (simp [*]; done), by repeat (first | exact Drawn0.refl _ | apply Drawn0.step)⟩
end Go.Proofs.Ytlhipchbjgfodaa.PFnReset
