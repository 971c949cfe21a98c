/- Plain laws on the breaking with a number and the number of a breaking, program and reference. Conditions: a measure and a text. -/
import Derived.Test.YtnbmlblcmjaclaaPFnExactBreakingAt2
import Derived.Test.YtnbmlblcmjaclaaPFnExactBreakingAt4
import Derived.Test.YtnbmlblcmjaclaaBFnExactBreakingAtBase
import Derived.Test.YtnbmlblcmjaclaaBFnExactBreakingAtKinds
import Derived.Test.YtnbmlblcmjaclaaBFnExactBreakingAtBrk
import Derived.Test.YtnbmlblcmjaclaaBFnExactBreakingAtBrkI
import Derived.Test.YtnbmlblcmjaclaaBFnExactBreakingAtBrkAt
namespace Go.Proofs.Ytnbmlblcmjaclaa.Pure
open Go.RowKit Go.Proofs.Ytnbmlblcmjaclaa.PFnExactBreakingAt Go.Proofs.YtnbmlblcmjaclaaW.PrintWords Go.Proofs.YtnbmlblcmjaclaaW.PrintLast Go.Proofs.YtnbmlblcmjaclaaW.PrintMore
set_option linter.unusedVariables false
set_option linter.unusedSimpArgs false

section
variable {W Th Tk : Int}
/-- Where the breaking with a number has its first line. -/
theorem pick {s : List Int} {idx : Int} (h0 : s ≠ []) (hi : 0 ≤ idx) (hw : idx < wy W Th Tk s) :
    ∃ n, n < s.length ∧ goesS W Th Tk s (n + 1) = true ∧ psum W Th Tk s n ≤ idx ∧ idx < psum W Th Tk s (n + 1) := by
  rw [wy_psum h0] at hw
  have key : ∀ n, n ≤ s.length → idx < psum W Th Tk s n → ∃ n, n < s.length ∧ goesS W Th Tk s (n + 1) = true ∧ psum W Th Tk s n ≤ idx ∧ idx < psum W Th Tk s (n + 1) := by
    intro n
    induction n with
    | zero => intro _ h; simp [psum] at h; omega
    | succ n ih =>
      intro hn h
      by_cases h2 : idx < psum W Th Tk s n
      · exact ih (by omega) h2
      · refine ⟨n, by omega, ?_, by omega, h⟩
        rw [psum] at h
        cases hg : goesS W Th Tk s (n + 1) with
        | true => rfl
        | false => rw [if_neg (by rw [hg]; simp)] at h; omega
  exact key _ (Nat.le_refl _) hw
theorem brk_get {s : List Int} {n : Nat} {idx : Int} (hn : n < s.length) (hg : goesS W Th Tk s (n + 1) = true) (h1 : psum W Th Tk s n ≤ idx) (h2 : idx < psum W Th Tk s (n + 1)) :
    (brk W Th Tk s)[idx.toNat]? = ((brk W Th Tk (s.drop (n + 1)))[(idx - psum W Th Tk s n).toNat]?).map (fun l => (n + 1) :: l) := by
  have h0 : s ≠ [] := by rintro rfl; simp at hn
  have hp := psum_nonneg (W := W) (Th := Th) (Tk := Tk) s n
  rw [brk_pre h0]
  have hpre : ∀ r, (pre W Th Tk s (n + 1 + r))[idx.toNat]? = (pre W Th Tk s (n + 1))[idx.toNat]? := by
    intro r
    induction r with
    | zero => rfl
    | succ r ih =>
      rw [show n + 1 + (r + 1) = (n + 1 + r) + 1 from by omega, pre_succ, List.getElem?_append_left, ih]
      have := pre_length (W := W) (Th := Th) (Tk := Tk) s (n + 1 + r)
      have := psum_le (W := W) (Th := Th) (Tk := Tk) s (n + 1) r
      omega
  have := hpre (s.length - (n + 1))
  rw [show n + 1 + (s.length - (n + 1)) = s.length from by omega] at this
  rw [this, pre_succ, if_pos hg, List.getElem?_append_right (by have := pre_length (W := W) (Th := Th) (Tk := Tk) s n; omega), List.getElem?_map]
  congr 2
  have := pre_length (W := W) (Th := Th) (Tk := Tk) s n
  omega
/-- The breaking with a number, as numbers. -/
def atN (W Th Tk : Int) (s : List Int) (idx : Int) : List Int := ints (((brk W Th Tk s)[idx.toNat]?).getD [])
theorem atN_nil (idx : Int) (h : idx.toNat = 0) : atN W Th Tk [] idx = [] := by unfold atN; rw [brk_nil, h]; rfl
theorem atN_cons {s : List Int} {n : Nat} {idx : Int} (hn : n < s.length) (hg : goesS W Th Tk s (n + 1) = true) (h1 : psum W Th Tk s n ≤ idx) (h2 : idx < psum W Th Tk s (n + 1)) :
    atN W Th Tk s idx = ((n + 1 : Nat) : Int) :: atN W Th Tk (s.drop (n + 1)) (idx - psum W Th Tk s n) := by
  unfold atN
  rw [brk_get hn hg h1 h2]
  have hb : (idx - psum W Th Tk s n).toNat < (brk W Th Tk (s.drop (n + 1))).length := by
    rw [psum, if_pos hg] at h2; unfold wy at h2; omega
  rw [List.getElem?_eq_getElem hb]; rfl
theorem psum_const {s : List Int} : ∀ (a r : Nat), psum W Th Tk s (a + r + 1) ≤ psum W Th Tk s (a + r + 1) := fun _ _ => Int.le_refl _
end
section
variable {W Th Tk : Int} {ws : List Int} (m : MOk W Th Tk) (h : Sk ws)
include m h
theorem specAt_l1 (a : Nat) (ha : a < ws.length) (idx : Int) (hi : 0 ≤ idx) (n : Nat) (hn : n < (ws.drop a).length) (hg : goesS W Th Tk (ws.drop a) (n + 1) = true) (h1 : psum W Th Tk (ws.drop a) n ≤ idx) (h2 : idx < psum W Th Tk (ws.drop a) (n + 1)) (out : List Int) (ho : out.length ≤ 100) (R : List Int × Bool)
    (next : Ev (fun k => spec_BreakingAt.l0 k ws (idx - psum W Th Tk (ws.drop a) n) (wyL W Th Tk ws) (out ++ [((n + 1 : Nat) : Int)]) ((a + (n + 1) : Nat) : Int) W Th Tk) R) :
    ∀ (r q : Nat), q + r = n → Ev (fun k => spec_BreakingAt.l1 k ws (idx - psum W Th Tk (ws.drop a) q) (wyL W Th Tk ws) out a ((q + 1 : Nat) : Int) W Th Tk) R := by
  have hlen := h.len
  rw [List.length_drop] at hn
  intro r
  induction r with
  | zero =>
    intro q hq
    obtain rfl : q = n := by omega
    have hb := psum_40 (W := W) (Th := Th) (Tk := Tk) (s := ws.drop a) (by simp; omega) (n := q) (by simp; omega)
    have hp := psum_nonneg (W := W) (Th := Th) (Tk := Tk) (ws.drop a) q
    have hge := goes_ev m h a (q + 1) (by omega) (by omega)
    rw [hg] at hge
    refine Ev.step (f := fun k => (spec_l4Goes.f k W Th Tk ws a ((q + 1 : Nat) : Int)).bind fun t => if t = true then spec_BreakingAt.j3 k ws (idx - psum W Th Tk (ws.drop a) q) (wyL W Th Tk ws) out a ((q + 1 : Nat) : Int) false W Th Tk else spec_BreakingAt.j3 k ws (idx - psum W Th Tk (ws.drop a) q) (wyL W Th Tk ws) out a ((q + 1 : Nat) : Int) true W Th Tk) (fun k => ?_) ?_
    · simp only [spec_BreakingAt.l1]
      rw [wz (n := (a : Int) + ((q + 1 : Nat) : Int)) (by omega) (by omega), wyL_length, if_pos (show (0 : Int) ≤ (a : Int) + ((q + 1 : Nat) : Int) by omega), if_pos (show (a : Int) + ((q + 1 : Nat) : Int) < ((ws.length + 1 : Nat) : Int) by omega), show (a : Int) + ((q + 1 : Nat) : Int) = ((a + (q + 1) : Nat) : Int) from by omega, rd_nat, wyL_get _ _ _ _ _ (by omega)]
      rw [psum, if_pos hg, List.drop_drop] at h2
      rw [decide_eq_false (show ¬ idx - psum W Th Tk (ws.drop a) q ≥ wy W Th Tk (ws.drop (a + (q + 1))) by omega)]
    · refine Ev.bind hge ?_
      simp only [if_true]
      refine Ev.step (f := fun k => spec_BreakingAt.l0 k ws (idx - psum W Th Tk (ws.drop a) q) (wyL W Th Tk ws) (out ++ [((q + 1 : Nat) : Int)]) ((a + (q + 1) : Nat) : Int) W Th Tk) (fun k => ?_) next
      simp only [spec_BreakingAt.j3]
      rw [if_neg (by simp), if_pos (by omega), wz (n := (a : Int) + ((q + 1 : Nat) : Int)) (by omega) (by omega), show (a : Int) + ((q + 1 : Nat) : Int) = ((a + (q + 1) : Nat) : Int) from by omega]
  | succ r ih =>
    intro q hq
    have ihq := ih (q + 1) (by omega)
    have hb := psum_40 (W := W) (Th := Th) (Tk := Tk) (s := ws.drop a) (by simp; omega) (n := q) (by simp; omega)
    have hp := psum_nonneg (W := W) (Th := Th) (Tk := Tk) (ws.drop a) q
    have hw0 := wy_nonneg (W := W) (Th := Th) (Tk := Tk) (ws.drop (a + (q + 1)))
    have hw1 := wy_40 (W := W) (Th := Th) (Tk := Tk) (s := ws.drop (a + (q + 1))) (by simp; omega)
    have hle := psum_le (W := W) (Th := Th) (Tk := Tk) (ws.drop a) (q + 1) r
    rw [show q + 1 + r = n from by omega] at hle
    have hb2 := psum_40 (W := W) (Th := Th) (Tk := Tk) (s := ws.drop a) (by simp; omega) (n := n + 1) (by simp; omega)
    have hge := goes_ev m h a (q + 1) (by omega) (by omega)
    have hps : psum W Th Tk (ws.drop a) (q + 1) = psum W Th Tk (ws.drop a) q + if goesS W Th Tk (ws.drop a) (q + 1) = true then wy W Th Tk (ws.drop (a + (q + 1))) else 0 := by rw [psum, List.drop_drop]
    cases hgo : goesS W Th Tk (ws.drop a) (q + 1) with
    | true =>
      rw [hgo] at hge
      rw [if_pos hgo] at hps
      refine Ev.step (f := fun k => (spec_l4Goes.f k W Th Tk ws a ((q + 1 : Nat) : Int)).bind fun t => if t = true then spec_BreakingAt.j3 k ws (idx - psum W Th Tk (ws.drop a) q) (wyL W Th Tk ws) out a ((q + 1 : Nat) : Int) true W Th Tk else spec_BreakingAt.j3 k ws (idx - psum W Th Tk (ws.drop a) q) (wyL W Th Tk ws) out a ((q + 1 : Nat) : Int) true W Th Tk) (fun k => ?_) ?_
      · simp only [spec_BreakingAt.l1]
        rw [wz (n := (a : Int) + ((q + 1 : Nat) : Int)) (by omega) (by omega), wyL_length, if_pos (show (0 : Int) ≤ (a : Int) + ((q + 1 : Nat) : Int) by omega), if_pos (show (a : Int) + ((q + 1 : Nat) : Int) < ((ws.length + 1 : Nat) : Int) by omega), show (a : Int) + ((q + 1 : Nat) : Int) = ((a + (q + 1) : Nat) : Int) from by omega, rd_nat, wyL_get _ _ _ _ _ (by omega)]
        rw [decide_eq_true (show idx - psum W Th Tk (ws.drop a) q ≥ wy W Th Tk (ws.drop (a + (q + 1))) by omega)]
      · refine Ev.bind hge ?_
        simp only [if_true]
        refine Ev.step (f := fun k => (spec_l4Goes.f k W Th Tk ws a ((q + 1 : Nat) : Int)).bind fun t => if t = true then spec_BreakingAt.l1 k ws (idx - psum W Th Tk (ws.drop a) (q + 1)) (wyL W Th Tk ws) out a ((q + 1 + 1 : Nat) : Int) W Th Tk else spec_BreakingAt.l1 k ws (idx - psum W Th Tk (ws.drop a) q) (wyL W Th Tk ws) out a (wrap64 (((q + 1 : Nat) : Int) + 1)) W Th Tk) (fun k => ?_) ?_
        · simp only [spec_BreakingAt.j3]
          rw [if_pos trivial, wz (n := (a : Int) + ((q + 1 : Nat) : Int)) (by omega) (by omega), wyL_length, if_pos (show (0 : Int) ≤ (a : Int) + ((q + 1 : Nat) : Int) by omega), if_pos (show (a : Int) + ((q + 1 : Nat) : Int) < ((ws.length + 1 : Nat) : Int) by omega), show (a : Int) + ((q + 1 : Nat) : Int) = ((a + (q + 1) : Nat) : Int) from by omega, rd_nat, wyL_get _ _ _ _ _ (by omega), wz (n := ((q + 1 : Nat) : Int) + 1) (by omega) (by omega), wz (by omega) (by omega), show ((q + 1 : Nat) : Int) + 1 = ((q + 1 + 1 : Nat) : Int) from by omega, hps, show idx - psum W Th Tk (ws.drop a) q - wy W Th Tk (ws.drop (a + (q + 1))) = idx - (psum W Th Tk (ws.drop a) q + wy W Th Tk (ws.drop (a + (q + 1)))) from by omega]
        · refine Ev.bind hge ?_
          simp only [if_true]; exact ihq
    | false =>
      rw [hgo] at hge
      rw [if_neg (by rw [hgo]; simp), Int.add_zero] at hps
      refine Ev.step (f := fun k => (spec_l4Goes.f k W Th Tk ws a ((q + 1 : Nat) : Int)).bind fun t => if t = true then spec_BreakingAt.j3 k ws (idx - psum W Th Tk (ws.drop a) q) (wyL W Th Tk ws) out a ((q + 1 : Nat) : Int) (decide (idx - psum W Th Tk (ws.drop a) q ≥ wy W Th Tk (ws.drop (a + (q + 1))))) W Th Tk else spec_BreakingAt.j3 k ws (idx - psum W Th Tk (ws.drop a) q) (wyL W Th Tk ws) out a ((q + 1 : Nat) : Int) true W Th Tk) (fun k => ?_) ?_
      · simp only [spec_BreakingAt.l1]
        rw [wz (n := (a : Int) + ((q + 1 : Nat) : Int)) (by omega) (by omega), wyL_length, if_pos (show (0 : Int) ≤ (a : Int) + ((q + 1 : Nat) : Int) by omega), if_pos (show (a : Int) + ((q + 1 : Nat) : Int) < ((ws.length + 1 : Nat) : Int) by omega), show (a : Int) + ((q + 1 : Nat) : Int) = ((a + (q + 1) : Nat) : Int) from by omega, rd_nat, wyL_get _ _ _ _ _ (by omega)]
      · refine Ev.bind hge ?_
        simp only [Bool.false_eq_true, if_false]
        refine Ev.step (f := fun k => (spec_l4Goes.f k W Th Tk ws a ((q + 1 : Nat) : Int)).bind fun t => if t = true then spec_BreakingAt.l1 k ws (idx - psum W Th Tk (ws.drop a) q - wy W Th Tk (ws.drop (a + (q + 1)))) (wyL W Th Tk ws) out a ((q + 1 + 1 : Nat) : Int) W Th Tk else spec_BreakingAt.l1 k ws (idx - psum W Th Tk (ws.drop a) (q + 1)) (wyL W Th Tk ws) out a ((q + 1 + 1 : Nat) : Int) W Th Tk) (fun k => ?_) ?_
        · simp only [spec_BreakingAt.j3]
          rw [if_pos trivial, wz (n := (a : Int) + ((q + 1 : Nat) : Int)) (by omega) (by omega), wyL_length, if_pos (show (0 : Int) ≤ (a : Int) + ((q + 1 : Nat) : Int) by omega), if_pos (show (a : Int) + ((q + 1 : Nat) : Int) < ((ws.length + 1 : Nat) : Int) by omega), show (a : Int) + ((q + 1 : Nat) : Int) = ((a + (q + 1) : Nat) : Int) from by omega, rd_nat, wyL_get _ _ _ _ _ (by omega), wz (n := ((q + 1 : Nat) : Int) + 1) (by omega) (by omega), wz (by omega) (by omega), show ((q + 1 : Nat) : Int) + 1 = ((q + 1 + 1 : Nat) : Int) from by omega, hps]
        · refine Ev.bind hge ?_
          simp only [Bool.false_eq_true, if_false]; exact ihq
theorem specAt_l0 : ∀ (f a : Nat) (idx : Int) (out : List Int), ws.length - a ≤ f → a ≤ ws.length → out.length ≤ a → 0 ≤ idx → idx < wy W Th Tk (ws.drop a) →
    Ev (fun k => spec_BreakingAt.l0 k ws idx (wyL W Th Tk ws) out a W Th Tk) (out ++ atN W Th Tk (ws.drop a) idx, true) := by
  have hlen := h.len
  intro f
  induction f with
  | zero =>
    intro a idx out hf ha ho hi hw
    rw [List.drop_of_length_le (by omega)] at *
    rw [wy_nil] at hw
    refine Ev.step (f := fun _ => some (out, true)) (fun k => by simp only [spec_BreakingAt.l0]; rw [if_neg (by omega)]) ?_
    rw [atN_nil _ (by omega), List.append_nil]; exact Ev.now _
  | succ f ih =>
    intro a idx out hf ha ho hi hw
    by_cases hlt : a < ws.length
    · have h0 : ws.drop a ≠ [] := by intro e; have := congrArg List.length e; simp at this; omega
      obtain ⟨n, hn, hg, h1, h2⟩ := pick h0 hi hw
      rw [atN_cons hn hg h1 h2]
      have hn' := hn
      rw [List.length_drop] at hn'
      have h2' := h2
      rw [psum, if_pos hg, List.drop_drop] at h2'
      have nx := ih (a + (n + 1)) (idx - psum W Th Tk (ws.drop a) n) (out ++ [((n + 1 : Nat) : Int)]) (by omega) (by omega) (by simp; omega) (by omega) (by omega)
      rw [List.append_assoc, List.singleton_append] at nx
      rw [List.drop_drop]
      have := specAt_l1 m h a hlt idx hi n hn hg h1 h2 out (by omega) _ nx n 0 (by omega)
      rw [show psum W Th Tk (ws.drop a) 0 = 0 from rfl, Int.sub_zero] at this
      refine Ev.step (f := fun k => spec_BreakingAt.l1 k ws idx (wyL W Th Tk ws) out a ((0 + 1 : Nat) : Int) W Th Tk) (fun k => ?_) this
      simp only [spec_BreakingAt.l0]; rw [if_pos (by omega)]; rfl
    · exact ih a idx out (by omega) ha ho hi hw
theorem specAt_ev' (idx : Int) (hi : 0 ≤ idx) (hw : idx < wy W Th Tk ws) : Ev (fun k => spec_BreakingAt.l0 k ws idx (wyL W Th Tk ws) [] 0 W Th Tk) (atN W Th Tk ws idx, true) := by
  have := specAt_l0 m h ws.length 0 idx [] (by omega) (by omega) (by simp) hi (by simpa using hw)
  simpa using this
end
end Go.Proofs.Ytnbmlblcmjaclaa.Pure
