/- Plain laws on the breaking with a number and the number of a breaking, as the program computes them; both wholly. Conditions: none beyond bounds on lengths. -/
import Derived.Test.YtnbmlblcmjaclaaPFnBest5
import Derived.Test.YtnbmlblcmjaclaaPFnBest6
import Derived.Test.YtnbmlblcmjaclaaBFnBestBase
import Derived.Test.YtnbmlblcmjaclaaBFnBestKinds
import Derived.Test.YtnbmlblcmjaclaaBFnBestBrk
import Derived.Test.YtnbmlblcmjaclaaBFnBestBrkI
import Derived.Test.YtnbmlblcmjaclaaBFnBestBrkAt
import Derived.Test.YtnbmlblcmjaclaaBFnBestBrkIx
namespace Go.Proofs.Ytnbmlblcmjaclaa.Pure
open Go.RowKit Go.Proofs.Ytnbmlblcmjaclaa.PFnBest Go.Proofs.YtnbmlblcmjaclaaW.PrintWords Go.Proofs.YtnbmlblcmjaclaaW.PrintLast Go.Proofs.YtnbmlblcmjaclaaW.PrintMore
set_option linter.unusedSectionVars false
set_option linter.unusedVariables false
set_option linter.unusedSimpArgs false

/-- How many breakings begin with just so many words in their first line. -/
def bef (W Th Tk : Int) (s : List Int) (n : Nat) : Int := if goesS W Th Tk s n = true then wy W Th Tk (s.drop n) else 0
theorem psum_bef (W Th Tk : Int) (s : List Int) (n : Nat) : psum W Th Tk s (n + 1) = psum W Th Tk s n + bef W Th Tk s (n + 1) := rfl
section
variable {W Th Tk : Int} {ws : List Int} (m : MOk W Th Tk) (h : Sk ws)
include m h
theorem before_ev (a n : Nat) (hn : 1 ≤ n) (ha : a + n ≤ ws.length) : Ev (fun k => impl_before.f k W Th Tk ws (wyL W Th Tk ws) a n) (bef W Th Tk (ws.drop a) n) := by
  have hlen := h.len
  unfold impl_before.f bef
  rw [wz (n := (a : Int) + n) (by omega) (by omega)]
  simp only [if_pos (show (0 : Int) ≤ a by omega), if_pos (show (a : Int) ≤ (a : Int) + n by omega), if_pos (show (a : Int) + n ≤ (ws.length : Int) by omega), toNat_add, Int.toNat_natCast, seg_eq]
  refine Ev.bind (implKind_ev (h.seg a n hn ha) m) ?_
  rw [goes_kind (by simp; omega), List.drop_drop]
  have hc := kindN_cases W Th Tk ((ws.drop a).take n)
  by_cases he : (a : Int) + n = (ws.length : Int)
  · simp only [if_pos he]
    rw [List.drop_of_length_le (show ws.length ≤ a + n by omega), wy_nil, decide_eq_true (show ¬ n < (ws.drop a).length by simp; omega)]
    by_cases hk : kindN W Th Tk ((ws.drop a).take n) = 0
    · rw [hk]
      refine Ev.step (f := fun _ => some 0) (fun k => ?_) (by simpa using Ev.now _)
      simp only [impl_before.j0]; rw [if_neg (by simp), wz (n := (a : Int) + n) (by omega) (by omega), if_neg (by omega)]
    · refine Ev.step (f := fun _ => some 1) (fun k => ?_) ?_
      · simp only [impl_before.j0]; rw [if_pos (by rw [decide_eq_true_eq]; omega)]
      · rw [if_neg hk]; split <;> simpa using Ev.now _
  · simp only [if_neg he]
    rw [decide_eq_false (show ¬ ¬ n < (ws.drop a).length by simp; omega)]
    by_cases hk : kindN W Th Tk ((ws.drop a).take n) = 2
    · refine Ev.step (f := fun _ => some (wy W Th Tk (ws.drop (a + n)))) (fun k => ?_) (by rw [hk]; simpa using Ev.now _)
      simp only [impl_before.j0]
      rw [if_neg (by simp), wz (n := (a : Int) + n) (by omega) (by omega), if_pos (by omega), if_pos hk, if_pos (by omega), wyL_length, if_pos (by omega), show (a : Int) + n = ((a + n : Nat) : Int) from by omega, rd_nat, wyL_get _ _ _ _ _ (by omega)]
    · refine Ev.step (f := fun _ => some 0) (fun k => ?_) ?_
      · simp only [impl_before.j0]
        rw [if_neg (by simp), wz (n := (a : Int) + n) (by omega) (by omega), if_pos (by omega), if_neg hk]
      · rcases hc with hc | hc | hc
        · rw [hc]; simpa using Ev.now _
        · rw [hc]; simpa using Ev.now _
        · exact absurd hc hk
theorem implAt_l1 (a : Nat) (ha : a < ws.length) (idx : Int) (hi : 0 ≤ idx) (n : Nat) (hn : n < (ws.drop a).length) (h1 : psum W Th Tk (ws.drop a) n ≤ idx) (h2 : idx < psum W Th Tk (ws.drop a) (n + 1)) (out : List Int) (ho : out.length ≤ 100) (R : List Int × Bool)
    (next : Ev (fun k => impl_BreakingAt.l0 k ws (idx - psum W Th Tk (ws.drop a) n) (wyL W Th Tk ws) (out ++ [((n + 1 : Nat) : Int)]) ((a + (n + 1) : Nat) : Int) W Th Tk) R) :
    ∀ (r q : Nat), q + r = n → Ev (fun k => impl_BreakingAt.l1 k ws (idx - psum W Th Tk (ws.drop a) q) (wyL W Th Tk ws) out a ((q + 1 : Nat) : Int) (bef W Th Tk (ws.drop a) (q + 1)) W Th Tk) R := by
  have hlen := h.len
  rw [List.length_drop] at hn
  intro r
  induction r with
  | zero =>
    intro q hq
    obtain rfl : q = n := by omega
    rw [psum_bef] at h2
    refine Ev.step (f := fun k => impl_BreakingAt.l0 k ws (idx - psum W Th Tk (ws.drop a) q) (wyL W Th Tk ws) (out ++ [((q + 1 : Nat) : Int)]) ((a + (q + 1) : Nat) : Int) W Th Tk) (fun k => ?_) next
    simp only [impl_BreakingAt.l1]
    rw [if_neg (by omega), if_pos (by omega), wz (n := (a : Int) + ((q + 1 : Nat) : Int)) (by omega) (by omega), show (a : Int) + ((q + 1 : Nat) : Int) = ((a + (q + 1) : Nat) : Int) from by omega]
  | succ r ih =>
    intro q hq
    have ihq := ih (q + 1) (by omega)
    have hp := psum_nonneg (W := W) (Th := Th) (Tk := Tk) (ws.drop a) q
    have hle := psum_le (W := W) (Th := Th) (Tk := Tk) (ws.drop a) (q + 1) r
    rw [show q + 1 + r = n from by omega] at hle
    have hb2 := psum_40 (W := W) (Th := Th) (Tk := Tk) (s := ws.drop a) (by simp; omega) (n := n + 1) (by simp; omega)
    have hps := psum_bef W Th Tk (ws.drop a) q
    have hp2 := psum_nonneg (W := W) (Th := Th) (Tk := Tk) (ws.drop a) (q + 1)
    have hm := psum_mono (W := W) (Th := Th) (Tk := Tk) (ws.drop a) q
    refine Ev.step (f := fun k => (impl_before.f k W Th Tk ws (wyL W Th Tk ws) a ((q + 1 + 1 : Nat) : Int)).bind fun t => impl_BreakingAt.l1 k ws (idx - psum W Th Tk (ws.drop a) (q + 1)) (wyL W Th Tk ws) out a ((q + 1 + 1 : Nat) : Int) t W Th Tk) (fun k => ?_) (Ev.bind (before_ev m h a (q + 1 + 1) (by omega) (by omega)) ihq)
    simp only [impl_BreakingAt.l1]
    rw [if_pos (by omega), wz (n := ((q + 1 : Nat) : Int) + 1) (by omega) (by omega), wz (by omega) (by omega), show ((q + 1 : Nat) : Int) + 1 = ((q + 1 + 1 : Nat) : Int) from by omega, hps, show idx - psum W Th Tk (ws.drop a) q - bef W Th Tk (ws.drop a) (q + 1) = idx - (psum W Th Tk (ws.drop a) q + bef W Th Tk (ws.drop a) (q + 1)) from by omega]
theorem implAt_l0 : ∀ (f a : Nat) (idx : Int) (out : List Int), ws.length - a ≤ f → a ≤ ws.length → out.length ≤ a → 0 ≤ idx → idx < wy W Th Tk (ws.drop a) →
    Ev (fun k => impl_BreakingAt.l0 k ws idx (wyL W Th Tk ws) out a W Th Tk) (out ++ atN W Th Tk (ws.drop a) idx, true) := by
  have hlen := h.len
  intro f
  induction f with
  | zero =>
    intro a idx out hf ha ho hi hw
    rw [List.drop_of_length_le (by omega)] at *
    rw [wy_nil] at hw
    refine Ev.step (f := fun _ => some (out, true)) (fun k => by simp only [impl_BreakingAt.l0]; rw [if_neg (by omega)]) ?_
    rw [atN_nil _ (by omega), List.append_nil]; exact Ev.now _
  | succ f ih =>
    intro a idx out hf ha ho hi hw
    by_cases hlt : a < ws.length
    · have h0 : ws.drop a ≠ [] := by intro e; have := congrArg List.length e; simp at this; omega
      obtain ⟨n, hn, hg, h1, h2⟩ := pick h0 hi hw
      rw [atN_cons hn hg h1 h2]
      have hn' := hn
      rw [List.length_drop] at hn'
      have h2' := h2
      rw [psum, if_pos hg, List.drop_drop] at h2'
      have nx := ih (a + (n + 1)) (idx - psum W Th Tk (ws.drop a) n) (out ++ [((n + 1 : Nat) : Int)]) (by omega) (by omega) (by simp; omega) (by omega) (by omega)
      rw [List.append_assoc, List.singleton_append] at nx
      rw [List.drop_drop]
      have := implAt_l1 m h a hlt idx hi n hn h1 h2 out (by omega) _ nx n 0 (by omega)
      rw [show psum W Th Tk (ws.drop a) 0 = 0 from rfl, Int.sub_zero] at this
      refine Ev.step (f := fun k => (impl_before.f k W Th Tk ws (wyL W Th Tk ws) a ((0 + 1 : Nat) : Int)).bind fun t => impl_BreakingAt.l1 k ws idx (wyL W Th Tk ws) out a ((0 + 1 : Nat) : Int) t W Th Tk) (fun k => ?_) (Ev.bind (before_ev m h a (0 + 1) (by omega) (by omega)) this)
      simp only [impl_BreakingAt.l0]; rw [if_pos (by omega)]; rfl
    · exact ih a idx out (by omega) ha ho hi hw
end
/-- The breaking with a number, and whether there is one. -/
def atR (W Th Tk : Int) (ws : List Int) (idx : Int) : List Int × Bool := if bothB W Th Tk ws = true ∧ 0 ≤ idx ∧ idx < wy W Th Tk ws then (atN W Th Tk ws idx, true) else ([], false)
theorem implAt_ev (W Th Tk : Int) (ws : List Int) (idx : Int) : Ev (fun k => impl_BreakingAt.f k W Th Tk ws idx) (atR W Th Tk ws idx) := by
  unfold impl_BreakingAt.f atR
  rw [implBoth_eq]
  simp only [Option.bind_some]
  have no : Ev (fun k => impl_BreakingAt.j0 k ws idx true W Th Tk) ([], false) := Ev.step (f := fun _ => some ([], false)) (fun k => by simp only [impl_BreakingAt.j0]; rw [if_pos trivial]) (Ev.now _)
  cases hb : bothB W Th Tk ws with
  | false => simp only [Bool.false_eq_true, if_false, false_and]; exact no
  | true =>
    obtain ⟨m, h⟩ := bothB_iff hb
    simp only [if_true, true_and]
    by_cases hi : idx < 0
    · rw [decide_eq_true hi, if_neg (by omega)]; exact no
    · rw [decide_eq_false hi]
      refine Ev.step (f := fun k => (impl_ways.f k W Th Tk ws).bind fun t => if 0 < (t.length : Int) then (if idx ≥ rd t 0 then some ([], false) else impl_BreakingAt.l0 k ws idx t [] 0 W Th Tk) else none) (fun k => by simp only [impl_BreakingAt.j0]; rw [if_neg (by simp)]) ?_
      refine Ev.bind (implWays_ev m h) ?_
      simp only [wyL_length, wyL_0, if_pos (show (0 : Int) < ((ws.length + 1 : Nat) : Int) by omega)]
      by_cases hw : idx ≥ wy W Th Tk ws
      · simp only [if_pos hw]; rw [if_neg (by omega)]; exact Ev.now _
      · simp only [if_neg hw]; rw [if_pos (by omega)]
        have := implAt_l0 m h ws.length 0 idx [] (by omega) (by omega) (by simp) (by omega) (by simp; omega)
        simpa using this
end Go.Proofs.Ytnbmlblcmjaclaa.Pure
