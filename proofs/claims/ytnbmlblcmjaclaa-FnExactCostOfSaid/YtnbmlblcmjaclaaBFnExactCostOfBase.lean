/- Plain laws on what the laws' own small functions compute: equality of lists, the marks that an exact law lays and looks for, a copy of a list. No condition beyond bounds on lengths. -/
import Derived.Test.YtnbmlblcmjaclaaPFnExactCostOf1
namespace Go.Proofs.Ytnbmlblcmjaclaa.Pure
open Go.RowKit Go.Proofs.Ytnbmlblcmjaclaa.PFnExactCostOf Go.Proofs.YtnbmlblcmjaclaaW.PrintWords Go.Proofs.YtnbmlblcmjaclaaW.PrintLast Go.Proofs.YtnbmlblcmjaclaaW.PrintMore
set_option linter.unusedSectionVars false
set_option linter.unusedVariables false
set_option linter.unusedSimpArgs false

theorem wz {n : Int} (h0 : -9223372036854775808 ≤ n) (h : n ≤ 9223372036854775807) : wrap64 n = n := by unfold wrap64; omega
theorem rd_nat (l : List Int) (j : Nat) : rd l (j : Int) = l.getD j 0 := by simp [rd]
theorem rd_lt (l : List Int) (j : Nat) (h : j < l.length) : rd l (j : Int) = l[j] := by rw [rd_nat, List.getD_eq_getElem?_getD, List.getElem?_eq_getElem h]; rfl
theorem ext_getD {l m : List Int} (h : l.length = m.length) (hg : ∀ j : Nat, j < l.length → l.getD j 0 = m.getD j 0) : l = m := by
  refine List.ext_getElem h (fun j h1 h2 => ?_)
  have := hg j h1
  rwa [List.getD_eq_getElem?_getD, List.getElem?_eq_getElem h1, List.getD_eq_getElem?_getD, List.getElem?_eq_getElem h2] at this
theorem getD_set (l : List Int) (i j : Nat) (v : Int) : (l.set i v).getD j 0 = if i = j ∧ j < l.length then v else l.getD j 0 := by
  rw [List.getD_eq_getElem?_getD, List.getElem?_set, List.getD_eq_getElem?_getD]
  by_cases h : i = j
  · subst h
    by_cases h2 : i < l.length
    · simp [h2]
    · simp [h2]
  · simp [h]

/-! toIntS -/
theorem toIntS_l0 (x : List Int) (hx : x.length ≤ 1048576) : ∀ (n i : Nat) (l : List Int), l.length = x.length → i + n = x.length → (∀ j : Nat, j < i → l.getD j 0 = x.getD j 0) → Ev (fun k => laws_toIntS.l0 k x l i) x
  | 0, i, l, hl, hn, hg => by
    obtain rfl : l = x := ext_getD hl (fun j hj => hg j (by omega))
    exact Ev.step (f := fun _ => some l) (fun k => by simp only [laws_toIntS.l0]; rw [if_neg (by omega)]) (Ev.now _)
  | n + 1, i, l, hl, hn, hg => by
    refine Ev.step (f := fun k => laws_toIntS.l0 k x (l.set i (rd x i)) ((i + 1 : Nat) : Int)) (fun k => ?_) (toIntS_l0 x hx n (i + 1) _ (by simpa using hl) (by omega) (fun j hj => ?_))
    · simp only [laws_toIntS.l0]; rw [if_pos (by omega), if_pos (by omega), if_pos (by omega), wz (by omega) (by omega)]; rfl
    · rw [getD_set, rd_nat]
      by_cases h : i = j
      · subst h; rw [if_pos ⟨rfl, by omega⟩]
      · rw [if_neg (by omega)]; exact hg j (by omega)
theorem toIntS_ev (x : List Int) (hx : x.length ≤ 1048576) : Ev (fun k => laws_toIntS.f k x) x := by
  unfold laws_toIntS.f
  simp only [if_pos (show (0 : Int) ≤ x.length by omega), if_pos (show (x.length : Int).toNat ≤ 35184372088832 by omega)]
  exact toIntS_l0 x hx x.length 0 _ (by simp) (by omega) (fun j hj => by omega)

/-! eqIntS, markIntS, heldIntS -/
theorem eqIntS_l0 (l : List Int) (hl : l.length ≤ 1048576) : ∀ (n : Nat) (i : Int), 0 ≤ i → i + n = l.length → Ev (fun k => laws_eqIntS.l0 k l l i) true
  | 0, i, h0, hn => Ev.step (f := fun _ => some true) (fun k => by simp only [laws_eqIntS.l0]; rw [if_neg (by omega)]) (Ev.now _)
  | n + 1, i, h0, hn => Ev.step (f := fun k => laws_eqIntS.l0 k l l (i + 1)) (fun k => by
      simp only [laws_eqIntS.l0]; rw [if_pos (by omega), if_pos h0, if_pos (by omega)]; simp only [if_true]; rw [wz (by omega) (by omega)]) (eqIntS_l0 l hl n (i + 1) (by omega) (by omega))
theorem eqIntS_ev (l : List Int) (hl : l.length ≤ 1048576) : Ev (fun k => laws_eqIntS.f k l l) true := by
  unfold laws_eqIntS.f; simp only [if_true]; exact eqIntS_l0 l hl l.length 0 (by omega) (by omega)
end Go.Proofs.Ytnbmlblcmjaclaa.Pure
