/- Plain laws on measures, texts and the kinds of their lines: what the program computes of them and what the reference computes is one and the same. Conditions: a measure and a text, where a function is asked behind that test. -/
import Derived.Test.YtnbmlblcmjaclaaPFnWidths2
import Derived.Test.YtnbmlblcmjaclaaPFnWidths3
import Derived.Test.YtnbmlblcmjaclaaPFnWidths4
import Derived.Test.YtnbmlblcmjaclaaPFnWidths6
import Derived.Test.YtnbmlblcmjaclaaBFnWidthsBase
namespace Go.Proofs.Ytnbmlblcmjaclaa.Pure
open Go.RowKit Go.Proofs.Ytnbmlblcmjaclaa.PFnWidths Go.Proofs.YtnbmlblcmjaclaaW.PrintWords Go.Proofs.YtnbmlblcmjaclaaW.PrintLast Go.Proofs.YtnbmlblcmjaclaaW.PrintMore
set_option linter.unusedSectionVars false
set_option linter.unusedVariables false
set_option linter.unusedSimpArgs false

def MOk (W Th Tk : Int) : Prop := 1 ≤ W ∧ W ≤ 2000 ∧ 1 ≤ Th ∧ Th ≤ 100 ∧ Th ≤ Tk ∧ Tk ≤ 100
def mokB (W Th Tk : Int) : Bool := decide (1 ≤ W ∧ W ≤ 2000 ∧ 1 ≤ Th ∧ Th ≤ 100 ∧ Th ≤ Tk ∧ Tk ≤ 100)
theorem mokB_iff {W Th Tk : Int} : mokB W Th Tk = true ↔ MOk W Th Tk := by unfold mokB MOk; exact decide_eq_true_iff
def inr (a b x : Int) : Bool := decide (a ≤ x ∧ x ≤ b)
def TOk (ws : List Int) : Bool := ws.all (inr 1 2000) && decide (1 ≤ ws.length ∧ ws.length ≤ 40)
theorem l1In_eq (x a b : Int) : spec_l1In.f x a b = some (inr a b x) := by
  unfold spec_l1In.f inr
  split
  · rename_i h; congr 1; rw [decide_eq_decide]; omega
  · rename_i h; congr 1; symm; rw [decide_eq_false_iff_not]; omega
theorem specMeasureOk_eq (W Th Tk : Int) : spec_MeasureOk.f W Th Tk = some (mokB W Th Tk) := by
  unfold spec_MeasureOk.f mokB
  simp only [l1In_eq, Option.bind_some, inr]
  by_cases h1 : 1 ≤ W ∧ W ≤ 2000
  · by_cases h2 : 1 ≤ Th ∧ Th ≤ 100
    · simp only [h1, h2, and_self, decide_true, if_true, true_and]
    · simp only [h1, h2, and_self, decide_true, decide_false, if_true, Bool.false_eq_true, if_false, true_and]; congr 1; symm; rw [decide_eq_false_iff_not]; omega
  · simp only [h1, decide_false, Bool.false_eq_true, if_false]; congr 1; symm; rw [decide_eq_false_iff_not]; omega
theorem implMeasureOk_eq (W Th Tk : Int) : impl_MeasureOk.f W Th Tk = some (mokB W Th Tk) := by
  unfold impl_MeasureOk.f mokB
  repeat' split
  all_goals (congr 1; first | (rw [decide_eq_decide]; omega) | (symm; rw [decide_eq_false_iff_not]; omega))

theorem drop_cons_getD (l : List Int) (i : Nat) (h : i < l.length) : l.drop i = l.getD i 0 :: l.drop (i + 1) := by
  rw [List.drop_eq_getElem_cons h, List.getD_eq_getElem?_getD, List.getElem?_eq_getElem h]; rfl
theorem specTextOk_l0 (ws : List Int) (hl : ws.length ≤ 4611686018427387904) : ∀ (n i : Nat), i + n = ws.length →
    Ev (fun k => spec_TextOk.l0 k ws ws ws.length i) ((ws.drop i).all (inr 1 2000) && decide (1 ≤ ws.length ∧ ws.length ≤ 40))
  | 0, i, hn => by
    refine Ev.step (f := fun _ => some (inr 1 40 ws.length)) (fun k => by simp only [spec_TextOk.l0]; rw [if_neg (by omega), l1In_eq]; rfl) ?_
    rw [List.drop_of_length_le (by omega)]
    have : inr 1 40 ws.length = decide (1 ≤ ws.length ∧ ws.length ≤ 40) := by unfold inr; rw [decide_eq_decide]; omega
    rw [this]; simpa using Ev.now _
  | n + 1, i, hn => by
    refine Ev.step (f := fun k => if inr 1 2000 (ws.getD i 0) = true then spec_TextOk.l0 k ws ws ws.length ((i + 1 : Nat) : Int) else some false) (fun k => ?_) ?_
    · simp only [spec_TextOk.l0]; rw [if_pos (by omega), if_pos (by omega), if_pos (by omega), l1In_eq, wz (by omega) (by omega), rd_nat]; rfl
    · rw [drop_cons_getD ws i (by omega), List.all_cons]
      cases h : inr 1 2000 (ws.getD i 0) with
      | true => simp only [if_true, Bool.true_and]; exact specTextOk_l0 ws hl n (i + 1) (by omega)
      | false => simp only [Bool.false_eq_true, if_false, Bool.false_and]; exact Ev.now _
theorem specTextOk_ev (ws : List Int) (hl : ws.length ≤ 4611686018427387904) : Ev (fun k => spec_TextOk.f k ws) (TOk ws) := by
  unfold spec_TextOk.f TOk; exact specTextOk_l0 ws hl ws.length 0 (by omega)
theorem between_eq (l : List Int) (a b : Int) : impl_between.f l a b = some (l.all (inr a b)) := by
  unfold impl_between.f
  congr 1
  induction l with
  | nil => rfl
  | cons x t ih =>
    simp only [List.any_cons, List.all_cons, Bool.not_or, ih]
    congr 1
    unfold outB inr
    by_cases h : a ≤ x ∧ x ≤ b
    · simp [h]
    · rw [decide_eq_false h]; simp; omega
theorem implTextOk_eq (ws : List Int) : impl_TextOk.f ws = some (TOk ws) := by
  unfold impl_TextOk.f TOk
  by_cases h1 : (ws.length : Int) ≥ 1
  · rw [if_pos h1]
    by_cases h2 : (ws.length : Int) ≤ 40
    · rw [if_pos h2, between_eq, Option.bind_some, decide_eq_true (show 1 ≤ ws.length ∧ ws.length ≤ 40 by omega), Bool.and_true]
    · rw [if_neg h2, decide_eq_false (show ¬ (1 ≤ ws.length ∧ ws.length ≤ 40) by omega), Bool.and_false]
  · rw [if_neg h1, decide_eq_false (show ¬ (1 ≤ ws.length ∧ ws.length ≤ 40) by omega), Bool.and_false]
/-- There are a measure and a text. -/
def bothB (W Th Tk : Int) (ws : List Int) : Bool := mokB W Th Tk && TOk ws
theorem implBoth_eq (W Th Tk : Int) (ws : List Int) : impl_both.f W Th Tk ws = some (bothB W Th Tk ws) := by
  unfold impl_both.f bothB
  rw [implMeasureOk_eq, implTextOk_eq]
  simp only [Option.bind_some]
  cases mokB W Th Tk <;> rfl
/-- A part of a text: at most 40 words, at least one, each at most 2000 wide. -/
structure Sk (ws : List Int) : Prop where
  pos : 1 ≤ ws.length
  len : ws.length ≤ 40
  all : ∀ w ∈ ws, 1 ≤ w ∧ w ≤ 2000
theorem Sk.of (ws : List Int) (h : TOk ws = true) : Sk ws := by
  unfold TOk at h
  simp only [Bool.and_eq_true, List.all_eq_true, decide_eq_true_eq, inr] at h
  exact ⟨h.2.1, h.2.2, h.1⟩
theorem sum_bd : ∀ (l : List Int), (∀ w ∈ l, 1 ≤ w ∧ w ≤ 2000) → (l.length : Int) ≤ l.sum ∧ l.sum ≤ 2000 * l.length
  | [], _ => by simp
  | x :: t, h => by
    have h1 := h x (List.mem_cons_self ..)
    have h2 := sum_bd t (fun w hw => h w (List.mem_cons_of_mem _ hw))
    simp only [List.sum_cons, List.length_cons]; omega
theorem Sk.sum {ws : List Int} (h : Sk ws) : 1 ≤ ws.sum ∧ ws.sum ≤ 80000 := by
  have := sum_bd ws h.all; have := h.pos; have := h.len; omega
theorem Sk.cut {ws : List Int} (h : Sk ws) (i j : Nat) (hij : i < j) (hj : j ≤ ws.length) : Sk ((ws.take j).drop i) := by
  refine ⟨?_, ?_, fun w hw => h.all w (List.mem_of_mem_take (List.mem_of_mem_drop hw))⟩ <;> have := h.len <;> simp <;> omega
def restN (W Th : Int) (ws : List Int) : Int := W - ws.sum - ((ws.length : Int) - 1) * Th
def riseN (W Th Tk : Int) (ws : List Int) : Int := if (ws.length : Int) - 1 = 0 then 0 else min (restN W Th ws / ((ws.length : Int) - 1)) (Tk - Th)
def kindN (W Th Tk : Int) (ws : List Int) : Int :=
  if restN W Th ws < 0 then 0 else if restN W Th ws - ((ws.length : Int) - 1) * riseN W Th Tk ws = 0 ∨ restN W Th ws - ((ws.length : Int) - 1) * riseN W Th Tk ws < (ws.length : Int) - 1 then 2 else 1
theorem mul_bd {a b A B : Int} (ha : 0 ≤ a) (ha2 : a ≤ A) (hb : 0 ≤ b) (hb2 : b ≤ B) : 0 ≤ a * b ∧ a * b ≤ A * B :=
  ⟨Int.mul_nonneg ha hb, Int.mul_le_mul ha2 hb2 hb (by omega)⟩
theorem restN_bd {W Th Tk : Int} {ws : List Int} (m : MOk W Th Tk) (h : Sk ws) : -90000 ≤ restN W Th ws ∧ restN W Th ws ≤ 2000 ∧ 0 ≤ ((ws.length : Int) - 1) * Th ∧ ((ws.length : Int) - 1) * Th ≤ 3900 := by
  have := h.sum; have := h.pos; have := h.len
  unfold MOk at m
  have := mul_bd (a := (ws.length : Int) - 1) (b := Th) (A := 39) (B := 100) (by omega) (by omega) (by omega) (by omega)
  unfold restN; omega
theorem riseN_bd {W Th Tk : Int} {ws : List Int} (m : MOk W Th Tk) (h : Sk ws) (h0 : 0 ≤ restN W Th ws) : 0 ≤ riseN W Th Tk ws ∧ riseN W Th Tk ws ≤ 99 := by
  unfold MOk at m
  have := h.pos
  unfold riseN
  split
  · omega
  · have : 0 ≤ restN W Th ws / ((ws.length : Int) - 1) := Int.ediv_nonneg h0 (by omega)
    omega
theorem div_bd {a b : Int} (ha : 0 ≤ a) (hb : 1 ≤ b) : 0 ≤ a / b ∧ a / b ≤ a := ⟨Int.ediv_nonneg ha (by omega), Int.ediv_le_self _ ha⟩
theorem mn_eq (a b : Int) : mn a b = min a b := by unfold mn; omega
theorem implSum_l0 (ws : List Int) (hl : ws.length ≤ 1000) (hw : ∀ w ∈ ws, 0 ≤ w ∧ w ≤ 2000) : ∀ (n i : Nat) (acc : Int), i + n = ws.length → 0 ≤ acc → acc ≤ 2000 * i →
    Ev (fun k => impl_sum.l0 k acc ws ws.length i) (acc + (ws.drop i).sum)
  | 0, i, acc, hn, h0, hb => by
    refine Ev.step (f := fun _ => some acc) (fun k => by simp only [impl_sum.l0]; rw [if_neg (by omega)]) ?_
    rw [List.drop_of_length_le (by omega)]; simpa using Ev.now _
  | n + 1, i, acc, hn, h0, hb => by
    have hx := hw (ws.getD i 0) (by rw [List.getD_eq_getElem?_getD, List.getElem?_eq_getElem (show i < ws.length by omega)]; exact List.getElem_mem _)
    refine Ev.step (f := fun k => impl_sum.l0 k (acc + ws.getD i 0) ws ws.length ((i + 1 : Nat) : Int)) (fun k => ?_) ?_
    · simp only [impl_sum.l0]
      rw [if_pos (by omega), if_pos (by omega), if_pos (by omega), rd_nat, wz (n := acc + _) (by omega) (by omega), wz (by omega) (by omega)]; rfl
    · have := implSum_l0 ws hl hw n (i + 1) (acc + ws.getD i 0) (by omega) (by omega) (by omega)
      rw [drop_cons_getD ws i (by omega), List.sum_cons]
      rwa [show acc + ws.getD i 0 + (ws.drop (i + 1)).sum = acc + (ws.getD i 0 + (ws.drop (i + 1)).sum) by omega] at this
theorem implSum_ev {ws : List Int} (h : Sk ws) : Ev (fun k => impl_sum.f k ws) ws.sum := by
  unfold impl_sum.f
  have := implSum_l0 ws (by have := h.len; omega) (fun w hw => by have := h.all w hw; omega) ws.length 0 0 (by omega) (by omega) (by omega)
  simpa using this
/-- What the program's spread tells of words in one line. -/
theorem implSpread_eq {W Th Tk : Int} {ws : List Int} (h : Sk ws) (m : MOk W Th Tk) :
    impl_spread.f W Th Tk ws.sum ((ws.length : Int) - 1) = some (if restN W Th ws < 0 then (0, 0, false) else (riseN W Th Tk ws, restN W Th ws - ((ws.length : Int) - 1) * riseN W Th Tk ws, true)) := by
  have hb := restN_bd m h; have := h.pos; have := h.len; have hs := h.sum; have m' := m; unfold MOk at m'
  unfold impl_spread.f
  rw [wz (n := W - ws.sum) (by omega) (by omega), wz (n := ((ws.length : Int) - 1) * Th) (by omega) (by omega)]
  rw [show W - ws.sum - ((ws.length : Int) - 1) * Th = restN W Th ws from rfl, wz (n := restN W Th ws) (by omega) (by omega)]
  by_cases h0 : restN W Th ws < 0
  · simp only [if_pos h0]
  · simp only [if_neg h0]
    have hr := riseN_bd m h (by omega)
    have hp := mul_bd (a := (ws.length : Int) - 1) (b := riseN W Th Tk ws) (A := 39) (B := 99) (by omega) (by omega) (by omega) (by omega)
    by_cases hz : (ws.length : Int) - 1 = 0
    · rw [if_neg (by omega)]
      have : riseN W Th Tk ws = 0 := by unfold riseN; rw [if_pos hz]
      rw [this, hz, wz (by omega) (by omega)]; simp
    · rw [if_pos (by omega), if_neg hz]
      have hd := div_bd (a := restN W Th ws) (b := (ws.length : Int) - 1) (by omega) (by omega)
      rw [Int.tdiv_eq_ediv_of_nonneg (by omega), wz (n := restN W Th ws / _) (by omega) (by omega), wz (n := Tk - Th) (by omega) (by omega), mn_eq]
      have e : min (Tk - Th) (restN W Th ws / ((ws.length : Int) - 1)) = riseN W Th Tk ws := by unfold riseN; rw [if_neg hz]; omega
      rw [e, wz (n := ((ws.length : Int) - 1) * riseN W Th Tk ws) (by omega) (by omega), wz (by omega) (by omega)]
theorem implKind_ev {W Th Tk : Int} {ws : List Int} (h : Sk ws) (m : MOk W Th Tk) : Ev (fun k => impl_kindOf.f k W Th Tk ws) (kindN W Th Tk ws) := by
  have := h.pos; have := h.len
  unfold impl_kindOf.f
  refine Ev.bind (implSum_ev h) ?_
  rw [wz (n := (ws.length : Int) - 1) (by omega) (by omega), implSpread_eq h m]
  simp only [Option.bind_some]
  unfold kindN
  by_cases h0 : restN W Th ws < 0
  · simp only [if_pos h0, Bool.false_eq_true, if_false]; exact Ev.now _
  · simp only [if_neg h0, if_true]
    refine Ev.bind (implSum_ev h) ?_
    unfold impl_full.f
    rw [implSpread_eq h m]
    simp only [if_neg h0, Option.bind_some, if_true]
    by_cases h1 : restN W Th ws - ((ws.length : Int) - 1) * riseN W Th Tk ws = 0
    · simp only [if_pos h1, Option.bind_some, if_true, if_pos (Or.inl h1 : _ ∨ restN W Th ws - ((ws.length : Int) - 1) * riseN W Th Tk ws < (ws.length : Int) - 1)]; exact Ev.now _
    · simp only [if_neg h1, h1, false_or, Option.bind_some]
      by_cases h2 : restN W Th ws - ((ws.length : Int) - 1) * riseN W Th Tk ws < (ws.length : Int) - 1
      · simp only [h2, decide_true, if_true]; exact Ev.now _
      · simp only [h2, decide_false, Bool.false_eq_true, if_false]; exact Ev.now _
theorem kindN_cases (W Th Tk : Int) (ws : List Int) : kindN W Th Tk ws = 0 ∨ kindN W Th Tk ws = 1 ∨ kindN W Th Tk ws = 2 := by
  unfold kindN; split
  · exact .inl rfl
  · split
    · exact .inr (.inr rfl)
    · exact .inr (.inl rfl)
theorem kindN_rest {W Th Tk : Int} {ws : List Int} (h : kindN W Th Tk ws ≠ 0) : 0 ≤ restN W Th ws := by
  unfold kindN at h; split at h
  · exact absurd rfl h
  · omega
end Go.Proofs.Ytnbmlblcmjaclaa.Pure
