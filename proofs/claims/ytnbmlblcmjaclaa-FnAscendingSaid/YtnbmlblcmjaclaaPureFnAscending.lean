/- The pure statement behind the law FnAscending: the breaking with the next number is greater at the first place at which the two differ. No condition. -/
import Derived.Test.YtnbmlblcmjaclaaPFnAscending8
import Derived.Test.YtnbmlblcmjaclaaBFnAscendingBase
import Derived.Test.YtnbmlblcmjaclaaBFnAscendingKinds
import Derived.Test.YtnbmlblcmjaclaaBFnAscendingBrk
import Derived.Test.YtnbmlblcmjaclaaBFnAscendingBrkI
import Derived.Test.YtnbmlblcmjaclaaBFnAscendingBrkAt
import Derived.Test.YtnbmlblcmjaclaaBFnAscendingBrkIx
import Derived.Test.YtnbmlblcmjaclaaBFnAscendingBrkIxI
import Derived.Test.YtnbmlblcmjaclaaBFnAscendingBrkMem
import Derived.Test.YtnbmlblcmjaclaaBFnAscendingDraw0
import Derived.Test.YtnbmlblcmjaclaaBFnAscendingDraw4
import Derived.Test.YtnbmlblcmjaclaaBFnAscendingBrkDraw
namespace Go.Proofs.Ytnbmlblcmjaclaa.Pure
open Go.RowKit Go.Proofs.Ytnbmlblcmjaclaa.PFnAscending Go.Proofs.YtnbmlblcmjaclaaW.PrintWords Go.Proofs.YtnbmlblcmjaclaaW.PrintLast Go.Proofs.YtnbmlblcmjaclaaW.PrintMore
set_option linter.unusedSectionVars false
set_option linter.unusedVariables false
set_option linter.unusedSimpArgs false
/-- Two lists differ, and the first is less at the first place at which they do. -/
def lessL (a b : List Int) : Prop := ∃ p x y s t, a = p ++ x :: s ∧ b = p ++ y :: t ∧ x < y
theorem psum_mono' {W Th Tk : Int} {s : List Int} {a b : Nat} (h : a ≤ b) : psum W Th Tk s a ≤ psum W Th Tk s b := by
  have := psum_le (W := W) (Th := Th) (Tk := Tk) s a (b - a); rwa [show a + (b - a) = b from by omega] at this
theorem at_less {W Th Tk : Int} : ∀ (d : Nat) (s : List Int) (idx : Int), s.length ≤ d → 0 ≤ idx → idx + 1 < wy W Th Tk s → lessL (atN W Th Tk s idx) (atN W Th Tk s (idx + 1))
  | d, s, idx, hd, h1, h2 => by
    by_cases h0 : s = []
    · subst h0; rw [wy_nil] at h2; omega
    · cases d with
      | zero => exact absurd (List.eq_nil_of_length_eq_zero (by omega)) h0
      | succ d =>
        obtain ⟨n, hn, hg, g1, g2⟩ := pick h0 h1 (show idx < wy W Th Tk s by omega)
        rw [atN_cons hn hg g1 g2]
        by_cases hs : idx + 1 < psum W Th Tk s (n + 1)
        · rw [atN_cons hn hg (by omega) hs]
          have hs' := hs
          rw [psum, if_pos hg] at hs'
          obtain ⟨p, x, y, s', t', e1, e2, hxy⟩ := at_less (W := W) (Th := Th) (Tk := Tk) d (s.drop (n + 1)) (idx - psum W Th Tk s n) (by simp; omega) (by omega) (by omega)
          refine ⟨((n + 1 : Nat) : Int) :: p, x, y, s', t', by rw [e1]; rfl, ?_, hxy⟩
          rw [show idx + 1 - psum W Th Tk s n = idx - psum W Th Tk s n + 1 from by omega, e2]; rfl
        · obtain ⟨n', hn', hg', g1', g2'⟩ := pick h0 (show 0 ≤ idx + 1 by omega) h2
          rw [atN_cons hn' hg' g1' g2']
          have : n < n' := by
            rcases Nat.lt_or_ge n n' with h | h
            · exact h
            · have := psum_mono' (W := W) (Th := Th) (Tk := Tk) (s := s) (show n' + 1 ≤ n + 1 by omega); omega
          exact ⟨[], _, _, _, _, rfl, rfl, by omega⟩
theorem asc_l0 (p : List Int) (x y : Int) (s t : List Int) (hxy : x < y) (hl : (p ++ x :: s).length ≤ 1000) (hl2 : (p ++ y :: t).length ≤ 1000) : ∀ (r i : Nat), i + r = p.length → Ev (fun k => laws_FnAscending.l0 k (p ++ x :: s) (p ++ y :: t) i) true
  | 0, i, hr => by
    obtain rfl : i = p.length := by omega
    have ex : (p ++ x :: s).getD p.length 0 = x := by rw [List.getD_eq_getElem?_getD, List.getElem?_append_right (Nat.le_refl _)]; simp
    have ey : (p ++ y :: t).getD p.length 0 = y := by rw [List.getD_eq_getElem?_getD, List.getElem?_append_right (Nat.le_refl _)]; simp
    have l1 : p.length < (p ++ x :: s).length := by simp
    have l2 : p.length < (p ++ y :: t).length := by simp
    refine Ev.step (f := fun k => laws_FnAscending.j1 k (p ++ x :: s) (p ++ y :: t) p.length true) (fun k => ?_) (Ev.step (f := fun _ => some true) (fun k => ?_) (Ev.now _))
    · simp only [laws_FnAscending.l0]; rw [if_pos (by omega), decide_eq_true (by omega)]
    · simp only [laws_FnAscending.j1]; rw [if_pos trivial, if_pos (by omega), if_pos (by omega), if_pos (by omega), rd_nat, rd_nat, ex, ey, if_neg (by omega), decide_eq_true hxy]
  | r + 1, i, hr => by
    have ex : (p ++ x :: s).getD i 0 = p.getD i 0 := by rw [List.getD_eq_getElem?_getD, List.getElem?_append_left (by omega), ← List.getD_eq_getElem?_getD]
    have ey : (p ++ y :: t).getD i 0 = p.getD i 0 := by rw [List.getD_eq_getElem?_getD, List.getElem?_append_left (by omega), ← List.getD_eq_getElem?_getD]
    have l1 : i < (p ++ x :: s).length := by simp; omega
    have l2 : i < (p ++ y :: t).length := by simp; omega
    have nx := asc_l0 p x y s t hxy hl hl2 r (i + 1) (by omega)
    refine Ev.step (f := fun k => laws_FnAscending.j1 k (p ++ x :: s) (p ++ y :: t) i true) (fun k => ?_) (Ev.step (f := fun k => laws_FnAscending.l0 k (p ++ x :: s) (p ++ y :: t) ((i + 1 : Nat) : Int)) (fun k => ?_) nx)
    · simp only [laws_FnAscending.l0]; rw [if_pos (by omega), decide_eq_true (by omega)]
    · simp only [laws_FnAscending.j1]; rw [if_pos trivial, if_pos (by omega), if_pos (by omega), if_pos (by omega), rd_nat, rd_nat, ex, ey, if_pos rfl, wz (n := (i : Int) + 1) (by omega) (by omega), show (i : Int) + 1 = ((i + 1 : Nat) : Int) from by omega]
theorem FnAscending : laws_FnAscending.Pure := by
  intro code hl _ _
  unfold maxLen at hl
  refine Ev.rounds (g := fun k => laws_FnAscending.f k code) ?_
  unfold laws_FnAscending.f
  by_cases hw : (code.length : Int) > 1048576
  · simp only [if_pos hw]; exact Ev.now _
  simp only [if_neg hw]
  obtain ⟨W, Th, Tk, ws, idx, ev, hl1, i0, i1⟩ := drawAt_ex code (by omega)
  refine Ev.bind ev (Ev.bind (implAt_ev W Th Tk ws idx) ?_)
  have hw1 : countN W Th Tk ws ≤ 1099511627776 := by
    unfold countN; split
    · rename_i hb; exact wy_40 (bothB_iff hb).2.len
    · omega
  by_cases hi : bothB W Th Tk ws = true ∧ 0 ≤ idx ∧ idx < wy W Th Tk ws
  · have ea : atR W Th Tk ws idx = (atN W Th Tk ws idx, true) := by unfold atR; rw [if_pos hi]
    have hcn : countN W Th Tk ws = wy W Th Tk ws := by unfold countN; rw [if_pos hi.1]
    rw [ea]
    simp only [if_true, if_neg (show ¬ idx = 9223372036854775807 by omega)]
    rw [wz (n := idx + 1) (by omega) (by omega)]
    refine Ev.bind (implAt_ev W Th Tk ws (idx + 1)) ?_
    by_cases hi2 : idx + 1 < wy W Th Tk ws
    · have ea2 : atR W Th Tk ws (idx + 1) = (atN W Th Tk ws (idx + 1), true) := by unfold atR; rw [if_pos ⟨hi.1, by omega, hi2⟩]
      rw [ea2]
      simp only [if_true]
      obtain ⟨p, x, y, s, t, e1, e2, hxy⟩ := at_less ws.length ws idx (Nat.le_refl _) hi.2.1 hi2
      have b1 := isB_len _ _ (atN_isB hi.2.1 hi.2.2)
      have b2 := isB_len _ _ (atN_isB (show 0 ≤ idx + 1 by omega) hi2)
      rw [e1] at b1 ⊢
      rw [e2] at b2 ⊢
      exact asc_l0 p x y s t hxy (by omega) (by omega) p.length 0 (by omega)
    · have ea2 : atR W Th Tk ws (idx + 1) = ([], false) := by unfold atR; rw [if_neg (by omega)]
      rw [ea2]
      simp only [Bool.false_eq_true, if_false]
      refine Ev.bind (specCount_ev W Th Tk ws (by omega)) ?_
      rw [hcn, decide_eq_true (by omega)]; exact Ev.now _
  · have ea : atR W Th Tk ws idx = ([], false) := by unfold atR; rw [if_neg hi]
    rw [ea]
    simp only [Bool.false_eq_true, if_false]
    by_cases h0 : idx < 0
    · simp only [if_pos h0]; exact Ev.now _
    · simp only [if_neg h0]
      refine Ev.bind (specCount_ev W Th Tk ws (by omega)) ?_
      have : idx ≥ countN W Th Tk ws := by
        unfold countN; split
        · rename_i hb; rcases Int.lt_or_le idx (wy W Th Tk ws) with h | h
          · exact absurd ⟨hb, by omega, h⟩ hi
          · exact h
        · omega
      rw [decide_eq_true this]; exact Ev.now _
end Go.Proofs.Ytnbmlblcmjaclaa.Pure
