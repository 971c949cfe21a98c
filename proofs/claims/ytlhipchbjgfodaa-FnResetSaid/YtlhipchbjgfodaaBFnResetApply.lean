/- Plain laws on lines put in the place of others, program and reference. Conditions: bounds on lengths. -/
import Derived.Test.YtlhipchbjgfodaaPFnReset1
import Derived.Test.YtlhipchbjgfodaaPFnReset2
import Derived.Test.YtlhipchbjgfodaaBFnResetBase
import Derived.Test.YtlhipchbjgfodaaBFnResetStr
namespace Go.Proofs.Ytlhipchbjgfodaa.Pure
open Go.RowKit Go.Proofs.Ytlhipchbjgfodaa.PFnReset Go.Proofs.YtlhipchbjgfodaaW.PrintWords Go.Proofs.YtlhipchbjgfodaaW.PrintLast Go.Proofs.YtlhipchbjgfodaaW.PrintMore
set_option linter.unusedSectionVars false
set_option linter.unusedVariables false
set_option linter.unusedSimpArgs false
/-- The lines with others in the place of some. -/
def apN (a : List ByteArray) (f o : Int) (l : List ByteArray) : List ByteArray × Bool := if 0 ≤ f ∧ f ≤ a.length ∧ 0 ≤ o ∧ o ≤ a.length - f then (a.take f.toNat ++ l ++ a.drop (f + o).toNat, true) else ([], false)
theorem apN_len (a : List ByteArray) (f o : Int) (l : List ByteArray) : (apN a f o l).1.length ≤ a.length + l.length := by
  unfold apN
  split
  · simp; omega
  · simp
theorem rdL_nat (L : List (List ByteArray)) (i : Nat) : rd_L1 L (i : Int) = L.getD i [] := by unfold rd_L1; rw [Int.toNat_natCast]
def lens : List (List ByteArray) → Nat
  | [] => 0
  | x :: t => x.length + lens t
theorem lens_flat : ∀ L : List (List ByteArray), L.flatten.length = lens L
  | [] => rfl
  | x :: t => by rw [List.flatten_cons, List.length_append, lens_flat t, lens]
theorem dropL {L : List (List ByteArray)} {i : Nat} (h : i < L.length) : L.drop i = L.getD i [] :: L.drop (i + 1) := by
  rw [List.drop_eq_getElem_cons h, List.getD_eq_getElem?_getD, List.getElem?_eq_getElem h]; rfl
theorem concat_l1 (L : List (List ByteArray)) (hL : L.length ≤ 100) : ∀ (n i : Nat) (acc : List ByteArray), i + n = L.length → acc.length + lens (L.drop i) < 1099511627776 → Ev (fun k => slices_Concat_string_string.l1 k acc L L.length i) (acc ++ (L.drop i).flatten)
  | 0, i, acc, hn, hb => Ev.step (f := fun _ => some acc) (fun k => by simp only [slices_Concat_string_string.l1]; rw [if_neg (by omega)]) (by rw [List.drop_of_length_le (by omega)]; simpa using Ev.now _)
  | n + 1, i, acc, hn, hb => by
    rw [dropL (show i < L.length by omega)] at hb ⊢
    rw [lens] at hb
    have nx := concat_l1 L hL n (i + 1) (acc ++ L.getD i []) (by omega) (by rw [List.length_append]; omega)
    refine Ev.step (f := fun k => slices_Concat_string_string.l1 k (acc ++ L.getD i []) L L.length ((i + 1 : Nat) : Int)) (fun k => ?_) (by rwa [List.flatten_cons, ← List.append_assoc])
    simp only [slices_Concat_string_string.l1]
    rw [if_pos (by omega), if_pos (by omega), if_pos (by omega), rdL_nat, if_pos (by omega), wz (by omega) (by omega)]; rfl
theorem concat_l0 (L : List (List ByteArray)) (hL : L.length ≤ 100) (hT : lens L < 1099511627776) : ∀ (n i : Nat) (x : Nat), i + n = L.length → x + lens (L.drop i) = lens L → Ev (fun k => slices_Concat_string_string.l0 k L x L L.length i) L.flatten
  | 0, i, x, hn, hx => by
    have fin := concat_l1 L hL L.length 0 [] (by omega) (by simpa using hT)
    rw [List.drop_zero, List.nil_append] at fin
    refine Ev.step (f := fun k => slices_Concat_string_string.l1 k [] L L.length ((0 : Nat) : Int)) (fun k => ?_) fin
    rw [List.drop_of_length_le (by omega), lens] at hx
    simp only [slices_Concat_string_string.l0]
    unfold slices_Grow_string_string.f
    rw [if_neg (by omega), if_pos ⟨by omega, by omega, rfl⟩, Option.bind_some]; rfl
  | n + 1, i, x, hn, hx => by
    rw [dropL (show i < L.length by omega), lens] at hx
    have nx := concat_l0 L hL hT n (i + 1) (x + (L.getD i []).length) (by omega) (by omega)
    refine Ev.step (f := fun k => slices_Concat_string_string.l0 k L ((x + (L.getD i []).length : Nat) : Int) L L.length ((i + 1 : Nat) : Int)) (fun k => ?_) nx
    simp only [slices_Concat_string_string.l0]
    rw [if_pos (by omega), if_pos (by omega), if_pos (by omega), rdL_nat, wz (n := (x : Int) + ((L.getD i []).length : Int)) (by omega) (by omega), if_neg (by omega), wz (by omega) (by omega), show (x : Int) + ((L.getD i []).length : Int) = ((x + (L.getD i []).length : Nat) : Int) from by omega]; rfl
theorem concat_ev (L : List (List ByteArray)) (hL : L.length ≤ 100) (hT : lens L < 1099511627776) : Ev (fun k => slices_Concat_string_string.f k L) L.flatten := concat_l0 L hL hT L.length 0 0 (by omega) (by simp)
theorem implAp_ev (a : List ByteArray) (f o : Int) (l : List ByteArray) (ha : a.length ≤ 4194304) (hl : l.length ≤ 4194304) : Ev (fun k => impl_ApplyReset.f k a f o l) (apN a f o l) := by
  unfold impl_ApplyReset.f apN
  by_cases h1 : f < 0
  · simp only [if_pos h1, if_neg (show ¬ (0 ≤ f ∧ f ≤ (a.length : Int) ∧ 0 ≤ o ∧ o ≤ (a.length : Int) - f) by omega)]; exact Ev.now _
  by_cases h2 : o < 0
  · simp only [if_neg h1, if_pos h2, if_neg (show ¬ (0 ≤ f ∧ f ≤ (a.length : Int) ∧ 0 ≤ o ∧ o ≤ (a.length : Int) - f) by omega)]; exact Ev.now _
  by_cases h3 : f > (a.length : Int)
  · simp only [if_neg h1, if_neg h2, if_pos h3, if_neg (show ¬ (0 ≤ f ∧ f ≤ (a.length : Int) ∧ 0 ≤ o ∧ o ≤ (a.length : Int) - f) by omega)]; exact Ev.now _
  rw [wz (n := (a.length : Int) - f) (by omega) (by omega)]
  by_cases h4 : o > (a.length : Int) - f
  · simp only [if_neg h1, if_neg h2, if_neg h3, if_pos h4, if_neg (show ¬ (0 ≤ f ∧ f ≤ (a.length : Int) ∧ 0 ≤ o ∧ o ≤ (a.length : Int) - f) by omega)]; exact Ev.now _
  rw [wz (n := f + o) (by omega) (by omega)]
  simp only [if_neg h1, if_neg h2, if_neg h3, if_neg h4, if_pos (show 0 ≤ f by omega), if_pos (show f ≤ (a.length : Int) by omega), if_pos (show 0 ≤ f + o by omega), if_pos (show f + o ≤ (a.length : Int) by omega), if_pos (show 0 ≤ f ∧ f ≤ (a.length : Int) ∧ 0 ≤ o ∧ o ≤ (a.length : Int) - f by omega)]
  refine Ev.bind (concat_ev [a.take f.toNat, l, a.drop (f + o).toNat] (by simp) (by simp only [lens, List.length_take, List.length_drop]; omega)) ?_
  simpa using Ev.now _
end Go.Proofs.Ytlhipchbjgfodaa.Pure
