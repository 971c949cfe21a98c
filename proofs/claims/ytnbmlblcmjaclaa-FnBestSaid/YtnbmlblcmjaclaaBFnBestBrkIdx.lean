/- Plain laws on the number of a breaking, program and reference. Conditions: bounds on lengths alone. -/
import Derived.Test.YtnbmlblcmjaclaaPFnBest6
import Derived.Test.YtnbmlblcmjaclaaPFnBest8
import Derived.Test.YtnbmlblcmjaclaaBFnBestBase
import Derived.Test.YtnbmlblcmjaclaaBFnBestKinds
import Derived.Test.YtnbmlblcmjaclaaBFnBestBrk
import Derived.Test.YtnbmlblcmjaclaaBFnBestBrkI
import Derived.Test.YtnbmlblcmjaclaaBFnBestBrkAt
import Derived.Test.YtnbmlblcmjaclaaBFnBestBrkIx
import Derived.Test.YtnbmlblcmjaclaaBFnBestBrkIxI
import Derived.Test.YtnbmlblcmjaclaaBFnBestBrkMem
namespace Go.Proofs.Ytnbmlblcmjaclaa.Pure
open Go.RowKit Go.Proofs.Ytnbmlblcmjaclaa.PFnBest Go.Proofs.YtnbmlblcmjaclaaW.PrintWords Go.Proofs.YtnbmlblcmjaclaaW.PrintLast Go.Proofs.YtnbmlblcmjaclaaW.PrintMore
set_option linter.unusedSectionVars false
set_option linter.unusedVariables false
set_option linter.unusedSimpArgs false
section
variable {W Th Tk : Int} {ws : List Int} (m : MOk W Th Tk) (h : Sk ws)
include m h
theorem implIdx_l1 (lines : List Int) (i a n : Nat) (hn : n ≤ ws.length - a) (R : Int) (acc : Int) (h0 : 0 ≤ acc) (h1 : acc ≤ 1099511627776)
    (next : Ev (fun k => impl_BreakingIndex.l0 k ws (wyL W Th Tk ws) (acc + psum W Th Tk (ws.drop a) (n - 1)) ((a + n : Nat) : Int) lines lines.length ((i + 1 : Nat) : Int) W Th Tk) R) (hi : i < 1048576) (ha : a ≤ ws.length) :
    ∀ (r q : Nat), q + r = n - 1 → Ev (fun k => impl_BreakingIndex.l1 k ws (wyL W Th Tk ws) (acc + psum W Th Tk (ws.drop a) q) a n ((q + 1 : Nat) : Int) lines lines.length i W Th Tk) R := by
  have hlen := h.len
  intro r
  induction r with
  | zero =>
    intro q hq
    obtain rfl : q = n - 1 := by omega
    refine Ev.step (f := fun k => impl_BreakingIndex.l0 k ws (wyL W Th Tk ws) (acc + psum W Th Tk (ws.drop a) (n - 1)) ((a + n : Nat) : Int) lines lines.length ((i + 1 : Nat) : Int) W Th Tk) (fun k => ?_) next
    simp only [impl_BreakingIndex.l1]
    rw [if_neg (by omega), wz (n := (a : Int) + (n : Int)) (by omega) (by omega), wz (n := (i : Int) + 1) (by omega) (by omega), show (a : Int) + (n : Int) = ((a + n : Nat) : Int) from by omega, show (i : Int) + 1 = ((i + 1 : Nat) : Int) from by omega]
  | succ r ih =>
    intro q hq
    have hb := psum_40 (W := W) (Th := Th) (Tk := Tk) (s := ws.drop a) (by simp; omega) (n := q + 1) (by simp; omega)
    have hp := psum_nonneg (W := W) (Th := Th) (Tk := Tk) (ws.drop a) (q + 1)
    have hs := psum_bef W Th Tk (ws.drop a) q
    refine Ev.step (f := fun k => (impl_before.f k W Th Tk ws (wyL W Th Tk ws) a ((q + 1 : Nat) : Int)).bind fun t => impl_BreakingIndex.l1 k ws (wyL W Th Tk ws) (wrap64 (acc + psum W Th Tk (ws.drop a) q + t)) a n ((q + 1 + 1 : Nat) : Int) lines lines.length i W Th Tk) (fun k => ?_) (Ev.bind (before_ev m h a (q + 1) (by omega) (by omega)) ?_)
    · simp only [impl_BreakingIndex.l1]
      rw [if_pos (by omega), wz (n := ((q + 1 : Nat) : Int) + 1) (by omega) (by omega), show ((q + 1 : Nat) : Int) + 1 = ((q + 1 + 1 : Nat) : Int) from by omega]
    · rw [show acc + psum W Th Tk (ws.drop a) q + bef W Th Tk (ws.drop a) (q + 1) = acc + psum W Th Tk (ws.drop a) (q + 1) from by omega, wz (by omega) (by omega)]
      exact ih (q + 1) (by omega)
theorem implIdx_l0 (lines : List Int) (hl : lines.length ≤ 1048576) : ∀ (r i a : Nat) (acc : Int), i + r = lines.length → a ≤ ws.length → 0 ≤ acc → acc + wy W Th Tk (ws.drop a) ≤ 1099511627776 → isB W Th Tk (ws.drop a) (lines.drop i) = true →
    Ev (fun k => impl_BreakingIndex.l0 k ws (wyL W Th Tk ws) acc a lines lines.length i W Th Tk) (acc + ixN W Th Tk (ws.drop a) (lines.drop i)) := by
  intro r
  induction r with
  | zero =>
    intro i a acc hr ha h0 h1 hb
    refine Ev.step (f := fun _ => some acc) (fun k => by simp only [impl_BreakingIndex.l0]; rw [if_neg (by omega)]) ?_
    rw [List.drop_of_length_le (show lines.length ≤ i by omega), ixN, Int.add_zero]; exact Ev.now _
  | succ r ih =>
    intro i a acc hr ha h0 h1 hb
    have hlen := h.len
    rw [drop_cons_getD lines i (by omega)] at hb ⊢
    generalize hn : lines.getD i 0 = n at hb ⊢
    have hb' := hb
    simp only [isB, inr, Bool.and_eq_true, decide_eq_true_eq, List.length_drop] at hb'
    obtain ⟨⟨n1, n2⟩, hg, ht⟩ := hb'
    obtain ⟨q, rfl⟩ := Int.eq_ofNat_of_zero_le (show 0 ≤ n by omega)
    rw [Int.toNat_natCast] at hg ht
    rw [ixN, Int.toNat_natCast]
    rw [List.drop_drop] at ht ⊢
    have hs : psum W Th Tk (ws.drop a) q = psum W Th Tk (ws.drop a) (q - 1) + wy W Th Tk (ws.drop (a + q)) := by
      obtain ⟨z, rfl⟩ : ∃ z, q = z + 1 := ⟨q - 1, by omega⟩
      rw [psum, if_pos hg, List.drop_drop]; rfl
    have hne : ws.drop a ≠ [] := by intro e; have := congrArg List.length e; simp at this; omega
    have hle := psum_le (W := W) (Th := Th) (Tk := Tk) (ws.drop a) q ((ws.drop a).length - q)
    rw [show q + ((ws.drop a).length - q) = (ws.drop a).length from by simp; omega, ← wy_psum hne] at hle
    have hp := psum_nonneg (W := W) (Th := Th) (Tk := Tk) (ws.drop a) (q - 1)
    have hw0 := wy_nonneg (W := W) (Th := Th) (Tk := Tk) (ws.drop a)
    have nx := ih (i + 1) (a + q) (acc + psum W Th Tk (ws.drop a) (q - 1)) (by omega) (by omega) (by omega) (by omega) ht
    have := implIdx_l1 m h lines i a q (by omega) _ acc h0 (by omega) nx (by omega) ha (q - 1) 0 (by omega)
    rw [show psum W Th Tk (ws.drop a) 0 = 0 from rfl, Int.add_zero] at this
    rw [← Int.add_assoc]
    refine Ev.step (f := fun k => impl_BreakingIndex.l1 k ws (wyL W Th Tk ws) acc a q ((0 + 1 : Nat) : Int) lines lines.length i W Th Tk) (fun k => ?_) this
    simp only [impl_BreakingIndex.l0]; rw [if_pos (by omega), if_pos (by omega), if_pos (by omega), rd_nat, hn]; rfl
end
/-- The number of a breaking; -1 if the list is none. -/
def ixR (W Th Tk : Int) (ws lines : List Int) : Int := if isN W Th Tk ws lines = true then ixN W Th Tk ws lines else -1
theorem implIdx_ev (W Th Tk : Int) (ws lines : List Int) (hl : lines.length ≤ 1048576) : Ev (fun k => impl_BreakingIndex.f k W Th Tk ws lines) (ixR W Th Tk ws lines) := by
  unfold impl_BreakingIndex.f ixR
  refine Ev.bind (implIs_ev W Th Tk ws lines hl) ?_
  cases hb : isN W Th Tk ws lines with
  | false => simp only [Bool.false_eq_true, if_false]; exact Ev.now _
  | true =>
    simp only [if_true]
    unfold isN at hb
    rw [Bool.and_eq_true] at hb
    obtain ⟨m, h⟩ := bothB_iff hb.1
    refine Ev.bind (implWays_ev m h) ?_
    have := implIdx_l0 m h lines hl lines.length 0 0 0 (by omega) (by omega) (by omega) (by have := wy_40 (W := W) (Th := Th) (Tk := Tk) (s := ws.drop 0) (by have := h.len; simp; omega); omega) (by simpa using hb.2)
    simpa using this
end Go.Proofs.Ytnbmlblcmjaclaa.Pure
