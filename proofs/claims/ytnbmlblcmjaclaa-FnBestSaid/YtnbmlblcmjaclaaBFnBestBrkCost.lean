/- Plain laws on the cost of a breaking, program and reference. Conditions: bounds on lengths alone. -/
import Derived.Test.YtnbmlblcmjaclaaPFnBest4
import Derived.Test.YtnbmlblcmjaclaaBFnBestBase
import Derived.Test.YtnbmlblcmjaclaaBFnBestKinds
import Derived.Test.YtnbmlblcmjaclaaBFnBestBrk
import Derived.Test.YtnbmlblcmjaclaaBFnBestBrkI
import Derived.Test.YtnbmlblcmjaclaaBFnBestBrkAt
namespace Go.Proofs.Ytnbmlblcmjaclaa.Pure
open Go.RowKit Go.Proofs.Ytnbmlblcmjaclaa.PFnBest Go.Proofs.YtnbmlblcmjaclaaW.PrintWords Go.Proofs.YtnbmlblcmjaclaaW.PrintLast Go.Proofs.YtnbmlblcmjaclaaW.PrintMore
set_option linter.unusedSectionVars false
set_option linter.unusedVariables false
set_option linter.unusedSimpArgs false
/-- The sum of the squares of the rises of all lines but the last one. -/
def costN (W Th Tk : Int) : List Int → List Int → Int
  | _, [] => 0
  | _, [_] => 0
  | s, n :: k :: t => riseN W Th Tk (s.take n.toNat) * riseN W Th Tk (s.take n.toNat) + costN W Th Tk (s.drop n.toNat) (k :: t)
def costR (W Th Tk : Int) (ws lines : List Int) : Int := if isN W Th Tk ws lines = true then costN W Th Tk ws lines else -1
theorem kindN_of_goes {W Th Tk : Int} {s : List Int} {n : Nat} (h : goesS W Th Tk s n = true) : kindN W Th Tk (s.take n) ≠ 0 := by
  unfold goesS at h; rw [decide_eq_true_eq] at h; omega
theorem sq_bd {r : Int} (h0 : 0 ≤ r) (h1 : r ≤ 99) : 0 ≤ r * r ∧ r * r ≤ 9801 := by
  have := mul_bd (a := r) (b := r) (A := 99) (B := 99) h0 h1 h0 h1; omega
section
variable {W Th Tk : Int} {ws : List Int} (m : MOk W Th Tk) (h : Sk ws)
include m h
theorem implCost_l0 (lines : List Int) (hl : lines.length ≤ 1048576) (x : Int) : ∀ (r i a : Nat) (acc : Int), i + r = lines.length → a ≤ ws.length → 0 ≤ acc → acc ≤ 9801 * a → isB W Th Tk (ws.drop a) (lines.drop i ++ [x]) = true →
    Ev (fun k => impl_CostOf.l0 k ws acc a lines lines.length i W Th Tk) (acc + costN W Th Tk (ws.drop a) (lines.drop i ++ [x])) := by
  have hlen := h.len
  intro r
  induction r with
  | zero =>
    intro i a acc hr ha h0 h1 hb
    refine Ev.step (f := fun _ => some acc) (fun k => by simp only [impl_CostOf.l0]; rw [if_neg (by omega)]) ?_
    rw [List.drop_of_length_le (show lines.length ≤ i by omega), List.nil_append, costN, Int.add_zero]; exact Ev.now _
  | succ r ih =>
    intro i a acc hr ha h0 h1 hb
    rw [drop_cons_getD lines i (by omega), List.cons_append] at hb ⊢
    generalize hn : lines.getD i 0 = n at hb ⊢
    have hb' := hb
    simp only [isB, inr, Bool.and_eq_true, decide_eq_true_eq, List.length_drop] at hb'
    obtain ⟨⟨n1, n2⟩, hg, ht⟩ := hb'
    obtain ⟨q, rfl⟩ := Int.eq_ofNat_of_zero_le (show 0 ≤ n by omega)
    rw [Int.toNat_natCast] at hg ht
    rw [List.drop_drop] at ht
    have hs := h.seg a q (by omega) (by omega)
    have h0r := kindN_rest (kindN_of_goes hg)
    have hrb := riseN_bd m hs h0r
    have hsq := sq_bd hrb.1 hrb.2
    refine Ev.step (f := fun k => (impl_riseOf.f k W Th Tk ((ws.drop a).take q)).bind fun t => impl_CostOf.l0 k ws (wrap64 (acc + wrap64 (t * t))) ((a + q : Nat) : Int) lines lines.length ((i + 1 : Nat) : Int) W Th Tk) (fun k => ?_) (Ev.bind (implRise_ev hs m h0r) ?_)
    · simp only [impl_CostOf.l0]
      rw [if_pos (by omega), if_pos (by omega), if_pos (by omega), if_pos (by omega), rd_nat, hn, wz (n := (a : Int) + q) (by omega) (by omega), if_pos (by omega), if_pos (by omega), toNat_add, Int.toNat_natCast, seg_eq, wz (n := (i : Int) + 1) (by omega) (by omega), show (a : Int) + (q : Int) = ((a + q : Nat) : Int) from by omega, show (i : Int) + 1 = ((i + 1 : Nat) : Int) from by omega]
    · rw [wz (n := riseN W Th Tk ((ws.drop a).take q) * _) (by omega) (by omega), wz (by omega) (by omega)]
      have nx := ih (i + 1) (a + q) (acc + riseN W Th Tk ((ws.drop a).take q) * riseN W Th Tk ((ws.drop a).take q)) (by omega) (by omega) (by omega) (by omega) ht
      obtain ⟨z, t, hz⟩ : ∃ z t, lines.drop (i + 1) ++ [x] = z :: t := by
        cases hd : lines.drop (i + 1) ++ [x] with
        | nil => simp at hd
        | cons z t => exact ⟨z, t, rfl⟩
      rw [hz] at nx ⊢
      rw [costN, Int.toNat_natCast, List.drop_drop, ← Int.add_assoc]; exact nx
end
theorem implCost_ev (W Th Tk : Int) (ws lines : List Int) (hl : lines.length ≤ 1048576) : Ev (fun k => impl_CostOf.f k W Th Tk ws lines) (costR W Th Tk ws lines) := by
  unfold impl_CostOf.f costR
  refine Ev.bind (implIs_ev W Th Tk ws lines hl) ?_
  cases hb : isN W Th Tk ws lines with
  | false => simp only [Bool.false_eq_true, if_false]; exact Ev.now _
  | true =>
    simp only [if_true]
    unfold isN at hb
    rw [Bool.and_eq_true] at hb
    obtain ⟨m, h⟩ := bothB_iff hb.1
    have hne : lines ≠ [] := by
      rintro rfl
      have h2 := hb.2
      simp only [isB, decide_eq_true_eq] at h2
      have := h.pos; omega
    have hpos := List.length_pos_iff.2 hne
    have e := (List.dropLast_concat_getLast hne).symm
    have hd : lines.take (lines.length - 1) = lines.dropLast := by rw [List.dropLast_eq_take]
    rw [wz (n := (lines.length : Int) - 1) (by omega) (by omega)]
    simp only [if_pos (show (0 : Int) ≤ (lines.length : Int) - 1 by omega), if_pos (show (lines.length : Int) - 1 ≤ (lines.length : Int) by omega), show ((lines.length : Int) - 1).toNat = lines.length - 1 from by omega, hd]
    have hb2 := hb.2
    rw [e] at hb2
    have := implCost_l0 m h lines.dropLast (by simp; omega) (lines.getLast hne) lines.dropLast.length 0 0 0 (by omega) (by omega) (by omega) (by omega) (by simpa using hb2)
    rw [List.drop_zero, List.drop_zero, ← e, Int.zero_add] at this
    exact this
end Go.Proofs.Ytnbmlblcmjaclaa.Pure
