/- Plain laws on what has to be set anew: the lines that two galleys begin with and end with alike. Conditions: bounds on lengths. -/
import Derived.Test.YtlhipchbjgfodaaPFnReset1
import Derived.Test.YtlhipchbjgfodaaBFnResetBase
import Derived.Test.YtlhipchbjgfodaaBFnResetStr
namespace Go.Proofs.Ytlhipchbjgfodaa.Pure
open Go.RowKit Go.Proofs.Ytlhipchbjgfodaa.PFnReset Go.Proofs.YtlhipchbjgfodaaW.PrintWords Go.Proofs.YtlhipchbjgfodaaW.PrintLast Go.Proofs.YtlhipchbjgfodaaW.PrintMore
set_option linter.unusedSectionVars false
set_option linter.unusedVariables false
set_option linter.unusedSimpArgs false
/-- How many strings two lists begin with alike. -/
def cp : List ByteArray → List ByteArray → Nat
  | x :: a, y :: b => if x.toList = y.toList then cp a b + 1 else 0
  | _, _ => 0
theorem cp_lt : ∀ (a b : List ByteArray) (j : Nat), j < cp a b → j < a.length ∧ j < b.length ∧ (a.getD j em).toList = (b.getD j em).toList
  | [], b, j, h => by simp [cp] at h
  | x :: a, [], j, h => by simp [cp] at h
  | x :: a, y :: b, j, h => by
    unfold cp at h
    by_cases e : x.toList = y.toList
    · rw [if_pos e] at h
      cases j with
      | zero => exact ⟨by simp, by simp, e⟩
      | succ j =>
        obtain ⟨h1, h2, h3⟩ := cp_lt a b j (by omega)
        exact ⟨by simp; omega, by simp; omega, by simpa using h3⟩
    · rw [if_neg e] at h; omega
theorem cp_stop : ∀ (a b : List ByteArray), cp a b < a.length → cp a b < b.length → ¬ (a.getD (cp a b) em).toList = (b.getD (cp a b) em).toList
  | [], b, h, _ => by simp at h
  | x :: a, [], _, h => by simp at h
  | x :: a, y :: b, h1, h2 => by
    unfold cp at h1 h2 ⊢
    by_cases e : x.toList = y.toList
    · rw [if_pos e] at h1 h2 ⊢
      have := cp_stop a b (by simpa using h1) (by simpa using h2)
      simpa using this
    · simp only [if_neg e]; simpa using e
theorem cp_le : ∀ (a b : List ByteArray), cp a b ≤ a.length ∧ cp a b ≤ b.length
  | [], b => by simp [cp]
  | x :: a, [] => by simp [cp]
  | x :: a, y :: b => by
    have := cp_le a b
    unfold cp; split <;> simp <;> omega
theorem rev_getD (l : List ByteArray) (f s : Nat) (h : f + s < l.length) : (l.drop f).reverse.getD s em = l.getD (l.length - 1 - s) em := by
  rw [List.getD_eq_getElem?_getD, List.getElem?_reverse (by simp; omega), List.getElem?_drop, List.getD_eq_getElem?_getD]
  congr 2; simp; omega
/-- How many strings two lists end with alike, behind the ones that they begin with alike. -/
def cs (a b : List ByteArray) : Nat := cp (a.drop (cp a b)).reverse (b.drop (cp a b)).reverse
theorem cs_le (a b : List ByteArray) : cp a b + cs a b ≤ a.length ∧ cp a b + cs a b ≤ b.length := by
  have h := cp_le (a.drop (cp a b)).reverse (b.drop (cp a b)).reverse
  have h2 := cp_le a b
  unfold cs
  simp only [List.length_reverse, List.length_drop] at h
  omega
def rsN (a b : List ByteArray) : Int × Int × Int := ((cp a b : Int), (a.length : Int) - cp a b - cs a b, (b.length : Int) - cp a b - cs a b)
section
variable {a b : List ByteArray} (ha : a.length ≤ 4194304) (hb : b.length ≤ 4194304)
include ha hb
theorem implRs_l1 : ∀ (n s : Nat), s + n = cs a b → Ev (fun k => impl_ResetOf.l1 k a b (cp a b) s) (rsN a b) := by
  have hle := cs_le a b
  intro n
  induction n with
  | zero =>
    intro s hn
    obtain rfl : s = cs a b := by omega
    have hr : ∀ k, (some ((cp a b : Int), wrap64 ((a.length : Int) - cp a b - cs a b), wrap64 ((b.length : Int) - cp a b - cs a b)) : Option (Int × Int × Int)) = (fun _ : Nat => some (rsN a b)) k := by
      intro k
      rw [wz (by omega) (by omega), wz (by omega) (by omega)]; rfl
    refine Ev.step (f := fun _ => some (rsN a b)) (fun k => ?_) (Ev.now _)
    simp only [impl_ResetOf.l1]
    rw [wz (n := (a.length : Int) - cp a b) (by omega) (by omega), wz (n := (b.length : Int) - cp a b) (by omega) (by omega)]
    by_cases h1 : (cs a b : Int) < (a.length : Int) - cp a b
    · rw [if_pos h1]
      by_cases h2 : (cs a b : Int) < (b.length : Int) - cp a b
      · rw [if_pos h2, wz (n := (a.length : Int) - 1) (by omega) (by omega), wz (n := (b.length : Int) - 1) (by omega) (by omega), wz (n := (a.length : Int) - 1 - cs a b) (by omega) (by omega), wz (n := (b.length : Int) - 1 - cs a b) (by omega) (by omega), if_pos (by omega), if_pos (by omega), if_pos (by omega), if_pos (by omega), show (a.length : Int) - 1 - cs a b = ((a.length - 1 - cs a b : Nat) : Int) from by omega, show (b.length : Int) - 1 - cs a b = ((b.length - 1 - cs a b : Nat) : Int) from by omega, rdOf_nat, rdOf_nat]
        have := cp_stop (a.drop (cp a b)).reverse (b.drop (cp a b)).reverse (by simp only [List.length_reverse, List.length_drop]; show cs a b < _; omega) (by simp only [List.length_reverse, List.length_drop]; show cs a b < _; omega)
        rw [show cp (a.drop (cp a b)).reverse (b.drop (cp a b)).reverse = cs a b from rfl, rev_getD _ _ _ (by omega), rev_getD _ _ _ (by omega)] at this
        rw [if_neg this]; exact hr k
      · rw [if_neg h2]; exact hr k
    · rw [if_neg h1]; exact hr k
  | succ n ih =>
    intro s hn
    obtain ⟨_, _, h3⟩ := cp_lt (a.drop (cp a b)).reverse (b.drop (cp a b)).reverse s (by show s < cs a b; omega)
    rw [rev_getD _ _ _ (by omega), rev_getD _ _ _ (by omega)] at h3
    refine Ev.step (f := fun k => impl_ResetOf.l1 k a b (cp a b) ((s + 1 : Nat) : Int)) (fun k => ?_) (ih (s + 1) (by omega))
    simp only [impl_ResetOf.l1]
    rw [wz (n := (a.length : Int) - cp a b) (by omega) (by omega), wz (n := (b.length : Int) - cp a b) (by omega) (by omega), if_pos (by omega), if_pos (by omega), wz (n := (a.length : Int) - 1) (by omega) (by omega), wz (n := (b.length : Int) - 1) (by omega) (by omega), wz (n := (a.length : Int) - 1 - s) (by omega) (by omega), wz (n := (b.length : Int) - 1 - s) (by omega) (by omega), if_pos (by omega), if_pos (by omega), if_pos (by omega), if_pos (by omega), show (a.length : Int) - 1 - s = ((a.length - 1 - s : Nat) : Int) from by omega, show (b.length : Int) - 1 - s = ((b.length - 1 - s : Nat) : Int) from by omega, rdOf_nat, rdOf_nat, if_pos h3, wz (n := (s : Int) + 1) (by omega) (by omega)]
    rfl
theorem implRs_l0 : ∀ (n i : Nat), i + n = cp a b → Ev (fun k => impl_ResetOf.l0 k a b i) (rsN a b) := by
  have hle := cp_le a b
  intro n
  induction n with
  | zero =>
    intro i hn
    obtain rfl : i = cp a b := by omega
    have fin := implRs_l1 ha hb (cs a b) 0 (by omega)
    refine Ev.step (f := fun k => impl_ResetOf.j1 k a b (cp a b)) (fun k => ?_) (Ev.step (f := fun k => impl_ResetOf.l1 k a b (cp a b) ((0 : Nat) : Int)) (fun k => by simp only [impl_ResetOf.j1]; rfl) fin)
    simp only [impl_ResetOf.l0]
    by_cases h1 : (cp a b : Int) < (a.length : Int)
    · rw [if_pos h1]
      by_cases h2 : (cp a b : Int) < (b.length : Int)
      · rw [if_pos h2, if_pos (by omega), rdOf_nat, rdOf_nat, if_neg (cp_stop a b (by omega) (by omega))]
      · rw [if_neg h2]
    · rw [if_neg h1]
  | succ n ih =>
    intro i hn
    obtain ⟨_, _, h3⟩ := cp_lt a b i (by omega)
    refine Ev.step (f := fun k => impl_ResetOf.l0 k a b ((i + 1 : Nat) : Int)) (fun k => ?_) (ih (i + 1) (by omega))
    simp only [impl_ResetOf.l0]
    rw [if_pos (by omega), if_pos (by omega), if_pos (by omega), rdOf_nat, rdOf_nat, if_pos h3, wz (n := (i : Int) + 1) (by omega) (by omega)]
    rfl
theorem implRs_ev : Ev (fun k => impl_ResetOf.f k a b) (rsN a b) := implRs_l0 ha hb (cp a b) 0 (by omega)
end
end Go.Proofs.Ytlhipchbjgfodaa.Pure
