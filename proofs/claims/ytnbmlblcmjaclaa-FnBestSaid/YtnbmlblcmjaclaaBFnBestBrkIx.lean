/- Plain laws on the breaking with a number and the number of a breaking, program and reference. Conditions: a measure and a text. -/
import Derived.Test.YtnbmlblcmjaclaaPFnBest0
import Derived.Test.YtnbmlblcmjaclaaBFnBestBase
import Derived.Test.YtnbmlblcmjaclaaBFnBestKinds
import Derived.Test.YtnbmlblcmjaclaaBFnBestBrk
import Derived.Test.YtnbmlblcmjaclaaBFnBestBrkI
import Derived.Test.YtnbmlblcmjaclaaBFnBestBrkAt
namespace Go.Proofs.Ytnbmlblcmjaclaa.Pure
open Go.RowKit Go.Proofs.Ytnbmlblcmjaclaa.PFnBest Go.Proofs.YtnbmlblcmjaclaaW.PrintWords Go.Proofs.YtnbmlblcmjaclaaW.PrintLast Go.Proofs.YtnbmlblcmjaclaaW.PrintMore
set_option linter.unusedSectionVars false
set_option linter.unusedVariables false
set_option linter.unusedSimpArgs false

section
variable {W Th Tk : Int}
/-- Where the breaking with a number has its first line. -/
theorem pick {s : List Int} {idx : Int} (h0 : s ≠ []) (hi : 0 ≤ idx) (hw : idx < wy W Th Tk s) :
    ∃ n, n < s.length ∧ goesS W Th Tk s (n + 1) = true ∧ psum W Th Tk s n ≤ idx ∧ idx < psum W Th Tk s (n + 1) := by
  rw [wy_psum h0] at hw
  have key : ∀ n, n ≤ s.length → idx < psum W Th Tk s n → ∃ n, n < s.length ∧ goesS W Th Tk s (n + 1) = true ∧ psum W Th Tk s n ≤ idx ∧ idx < psum W Th Tk s (n + 1) := by
    intro n
    induction n with
    | zero => intro _ h; simp [psum] at h; omega
    | succ n ih =>
      intro hn h
      by_cases h2 : idx < psum W Th Tk s n
      · exact ih (by omega) h2
      · refine ⟨n, by omega, ?_, by omega, h⟩
        rw [psum] at h
        cases hg : goesS W Th Tk s (n + 1) with
        | true => rfl
        | false => rw [if_neg (by rw [hg]; simp)] at h; omega
  exact key _ (Nat.le_refl _) hw
theorem brk_get {s : List Int} {n : Nat} {idx : Int} (hn : n < s.length) (hg : goesS W Th Tk s (n + 1) = true) (h1 : psum W Th Tk s n ≤ idx) (h2 : idx < psum W Th Tk s (n + 1)) :
    (brk W Th Tk s)[idx.toNat]? = ((brk W Th Tk (s.drop (n + 1)))[(idx - psum W Th Tk s n).toNat]?).map (fun l => (n + 1) :: l) := by
  have h0 : s ≠ [] := by rintro rfl; simp at hn
  have hp := psum_nonneg (W := W) (Th := Th) (Tk := Tk) s n
  rw [brk_pre h0]
  have hpre : ∀ r, (pre W Th Tk s (n + 1 + r))[idx.toNat]? = (pre W Th Tk s (n + 1))[idx.toNat]? := by
    intro r
    induction r with
    | zero => rfl
    | succ r ih =>
      rw [show n + 1 + (r + 1) = (n + 1 + r) + 1 from by omega, pre_succ, List.getElem?_append_left, ih]
      have := pre_length (W := W) (Th := Th) (Tk := Tk) s (n + 1 + r)
      have := psum_le (W := W) (Th := Th) (Tk := Tk) s (n + 1) r
      omega
  have := hpre (s.length - (n + 1))
  rw [show n + 1 + (s.length - (n + 1)) = s.length from by omega] at this
  rw [this, pre_succ, if_pos hg, List.getElem?_append_right (by have := pre_length (W := W) (Th := Th) (Tk := Tk) s n; omega), List.getElem?_map]
  congr 2
  have := pre_length (W := W) (Th := Th) (Tk := Tk) s n
  omega
/-- The breaking with a number, as numbers. -/
def atN (W Th Tk : Int) (s : List Int) (idx : Int) : List Int := ints (((brk W Th Tk s)[idx.toNat]?).getD [])
theorem atN_nil (idx : Int) (h : idx.toNat = 0) : atN W Th Tk [] idx = [] := by unfold atN; rw [brk_nil, h]; rfl
theorem atN_cons {s : List Int} {n : Nat} {idx : Int} (hn : n < s.length) (hg : goesS W Th Tk s (n + 1) = true) (h1 : psum W Th Tk s n ≤ idx) (h2 : idx < psum W Th Tk s (n + 1)) :
    atN W Th Tk s idx = ((n + 1 : Nat) : Int) :: atN W Th Tk (s.drop (n + 1)) (idx - psum W Th Tk s n) := by
  unfold atN
  rw [brk_get hn hg h1 h2]
  have hb : (idx - psum W Th Tk s n).toNat < (brk W Th Tk (s.drop (n + 1))).length := by
    rw [psum, if_pos hg] at h2; unfold wy at h2; omega
  rw [List.getElem?_eq_getElem hb]; rfl
theorem psum_const {s : List Int} : ∀ (a r : Nat), psum W Th Tk s (a + r + 1) ≤ psum W Th Tk s (a + r + 1) := fun _ _ => Int.le_refl _
end
section
variable {W Th Tk : Int} {ws : List Int} (m : MOk W Th Tk) (h : Sk ws)
include m h
end
end Go.Proofs.Ytnbmlblcmjaclaa.Pure
