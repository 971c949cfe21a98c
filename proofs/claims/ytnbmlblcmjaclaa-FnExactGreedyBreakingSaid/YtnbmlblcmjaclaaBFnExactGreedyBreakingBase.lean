/- Plain laws on what the laws' own small functions compute: equality of lists, the marks that an exact law lays and looks for, a copy of a list. No condition beyond bounds on lengths. -/
import Derived.Test.YtnbmlblcmjaclaaPFnExactGreedyBreaking2
import Derived.Test.YtnbmlblcmjaclaaPFnExactGreedyBreaking6
namespace Go.Proofs.Ytnbmlblcmjaclaa.Pure
open Go.RowKit Go.Proofs.Ytnbmlblcmjaclaa.PFnExactGreedyBreaking Go.Proofs.YtnbmlblcmjaclaaW.PrintWords Go.Proofs.YtnbmlblcmjaclaaW.PrintLast Go.Proofs.YtnbmlblcmjaclaaW.PrintMore
set_option linter.unusedSectionVars false
set_option linter.unusedVariables false
set_option linter.unusedSimpArgs false

theorem wz {n : Int} (h0 : -9223372036854775808 ≤ n) (h : n ≤ 9223372036854775807) : wrap64 n = n := by unfold wrap64; omega
theorem rd_nat (l : List Int) (j : Nat) : rd l (j : Int) = l.getD j 0 := by simp [rd]
theorem rd_lt (l : List Int) (j : Nat) (h : j < l.length) : rd l (j : Int) = l[j] := by rw [rd_nat, List.getD_eq_getElem?_getD, List.getElem?_eq_getElem h]; rfl
theorem ext_getD {l m : List Int} (h : l.length = m.length) (hg : ∀ j : Nat, j < l.length → l.getD j 0 = m.getD j 0) : l = m := by
  refine List.ext_getElem h (fun j h1 h2 => ?_)
  have := hg j h1
  rwa [List.getD_eq_getElem?_getD, List.getElem?_eq_getElem h1, List.getD_eq_getElem?_getD, List.getElem?_eq_getElem h2] at this
theorem getD_set (l : List Int) (i j : Nat) (v : Int) : (l.set i v).getD j 0 = if i = j ∧ j < l.length then v else l.getD j 0 := by
  rw [List.getD_eq_getElem?_getD, List.getElem?_set, List.getD_eq_getElem?_getD]
  by_cases h : i = j
  · subst h
    by_cases h2 : i < l.length
    · simp [h2]
    · simp [h2]
  · simp [h]

/-! toIntS -/
theorem toIntS_l0 (x : List Int) (hx : x.length ≤ 1048576) : ∀ (n i : Nat) (l : List Int), l.length = x.length → i + n = x.length → (∀ j : Nat, j < i → l.getD j 0 = x.getD j 0) → Ev (fun k => laws_toIntS.l0 k x l i) x
  | 0, i, l, hl, hn, hg => by
    obtain rfl : l = x := ext_getD hl (fun j hj => hg j (by omega))
    exact Ev.step (f := fun _ => some l) (fun k => by simp only [laws_toIntS.l0]; rw [if_neg (by omega)]) (Ev.now _)
  | n + 1, i, l, hl, hn, hg => by
    refine Ev.step (f := fun k => laws_toIntS.l0 k x (l.set i (rd x i)) ((i + 1 : Nat) : Int)) (fun k => ?_) (toIntS_l0 x hx n (i + 1) _ (by simpa using hl) (by omega) (fun j hj => ?_))
    · simp only [laws_toIntS.l0]; rw [if_pos (by omega), if_pos (by omega), if_pos (by omega), wz (by omega) (by omega)]; rfl
    · rw [getD_set, rd_nat]
      by_cases h : i = j
      · subst h; rw [if_pos ⟨rfl, by omega⟩]
      · rw [if_neg (by omega)]; exact hg j (by omega)
theorem toIntS_ev (x : List Int) (hx : x.length ≤ 1048576) : Ev (fun k => laws_toIntS.f k x) x := by
  unfold laws_toIntS.f
  simp only [if_pos (show (0 : Int) ≤ x.length by omega), if_pos (show (x.length : Int).toNat ≤ 35184372088832 by omega)]
  exact toIntS_l0 x hx x.length 0 _ (by simp) (by omega) (fun j hj => by omega)

/-! eqIntS, markIntS, heldIntS -/
theorem eqIntS_l0 (l : List Int) (hl : l.length ≤ 1048576) : ∀ (n : Nat) (i : Int), 0 ≤ i → i + n = l.length → Ev (fun k => laws_eqIntS.l0 k l l i) true
  | 0, i, h0, hn => Ev.step (f := fun _ => some true) (fun k => by simp only [laws_eqIntS.l0]; rw [if_neg (by omega)]) (Ev.now _)
  | n + 1, i, h0, hn => Ev.step (f := fun k => laws_eqIntS.l0 k l l (i + 1)) (fun k => by
      simp only [laws_eqIntS.l0]; rw [if_pos (by omega), if_pos h0, if_pos (by omega)]; simp only [if_true]; rw [wz (by omega) (by omega)]) (eqIntS_l0 l hl n (i + 1) (by omega) (by omega))
theorem eqIntS_ev (l : List Int) (hl : l.length ≤ 1048576) : Ev (fun k => laws_eqIntS.f k l l) true := by
  unfold laws_eqIntS.f; simp only [if_true]; exact eqIntS_l0 l hl l.length 0 (by omega) (by omega)
/-- The list that the marking leaves: from place i on, n places, the numbers from c on. -/
def marked : Nat → Int → Int → List Int → List Int
  | 0, _, _, l => l
  | n + 1, i, c, l => marked n (i + 1) (c + 1) (l.set i.toNat c)
theorem marked_length : ∀ n i c (l : List Int), (marked n i c l).length = l.length
  | 0, _, _, _ => rfl
  | n + 1, i, c, l => by rw [marked, marked_length]; simp
theorem markIntS_l0 : ∀ (n : Nat) (i c : Int) (l : List Int), l.length ≤ 1048576 → 0 ≤ i → i + n = l.length → 0 ≤ c → c + n ≤ 4611686018427387904 →
    Ev (fun k => laws_markIntS.l0 k l c i) (c + n, marked n i c l)
  | 0, i, c, l, _, h0, hn, _, _ => Ev.step (f := fun _ => some (c, l)) (fun k => by simp only [laws_markIntS.l0]; rw [if_neg (by omega)]) (by simpa [marked] using Ev.now _)
  | n + 1, i, c, l, hl, h0, hn, hc, hc2 => by
    refine Ev.step (f := fun k => laws_markIntS.l0 k (l.set i.toNat c) (c + 1) (i + 1)) (fun k => ?_) ?_
    · simp only [laws_markIntS.l0]; rw [if_pos (by omega), if_pos h0, wz (n := i + 1) (by omega) (by omega), wz (n := c + 1) (by omega) (by omega)]
    · have := markIntS_l0 n (i + 1) (c + 1) (l.set i.toNat c) (by simpa using hl) (by omega) (by simp; omega) (by omega) (by omega)
      simp only [marked]
      rwa [show c + 1 + (n : Int) = c + ((n + 1 : Nat) : Int) by omega] at this
theorem marked_get : ∀ (n : Nat) (i c : Int) (l : List Int) (j : Nat), 0 ≤ i → i + n ≤ l.length → (marked n i c l).getD j 0 = if i ≤ j ∧ (j : Int) < i + n then c + j - i else l.getD j 0
  | 0, i, c, l, j, h0, hn => by rw [if_neg (by omega)]; rfl
  | n + 1, i, c, l, j, h0, hn => by
    rw [marked, marked_get n (i + 1) (c + 1) (l.set i.toNat c) j (by omega) (by simp; omega), getD_set]
    by_cases h1 : i + 1 ≤ j ∧ (j : Int) < i + 1 + n
    · rw [if_pos h1, if_pos (by omega)]; omega
    · rw [if_neg h1]
      by_cases h2 : i.toNat = j ∧ j < l.length
      · rw [if_pos h2, if_pos (by omega)]; omega
      · rw [if_neg h2, if_neg (by omega)]
theorem heldIntS_l0 (l : List Int) (hl : l.length ≤ 1048576) (c0 : Int) (hg : ∀ j : Nat, j < l.length → l.getD j 0 = c0 + j) (h00 : 0 ≤ c0) (hcc : c0 + l.length ≤ 4611686018427387904) : ∀ (n : Nat) (i c : Int), 0 ≤ i → i + n = l.length → c = c0 + i →
    Ev (fun k => laws_heldIntS.l0 k l c i) (c + n)
  | 0, i, c, h0, hn, _ => Ev.step (f := fun _ => some c) (fun k => by simp only [laws_heldIntS.l0]; rw [if_neg (by omega)]) (by simpa using Ev.now _)
  | n + 1, i, c, h0, hn, hc => by
    refine Ev.step (f := fun k => laws_heldIntS.l0 k l (c + 1) (i + 1)) (fun k => ?_) ?_
    · have hr : rd l i = c := by
        unfold rd; rw [hg i.toNat (by omega)]; omega
      simp only [laws_heldIntS.l0]; rw [if_pos (by omega), if_pos h0, if_pos hr, wz (n := i + 1) (by omega) (by omega), wz (n := c + 1) (by omega) (by omega)]
    · have := heldIntS_l0 l hl c0 hg h00 hcc n (i + 1) (c + 1) (by omega) (by omega) (by omega)
      rwa [show c + 1 + (n : Int) = c + ((n + 1 : Nat) : Int) by omega] at this
theorem markIntS_ev (l : List Int) (c : Int) (hl : l.length ≤ 1048576) (h0 : 0 ≤ c) (hc : c ≤ 2305843009213693952) : Ev (fun k => laws_markIntS.f k l c) (c + l.length, marked l.length 0 c l) := by
  unfold laws_markIntS.f; exact markIntS_l0 l.length 0 c l hl (by omega) (by omega) h0 (by omega)
theorem heldIntS_ev (l : List Int) (c : Int) (hl : l.length ≤ 1048576) (h0 : 0 ≤ c) (hc : c ≤ 2305843009213693952) : Ev (fun k => laws_heldIntS.f k (marked l.length 0 c l) c) (c + l.length) := by
  unfold laws_heldIntS.f
  have hm : (marked l.length 0 c l).length = l.length := marked_length _ _ _ _
  exact heldIntS_l0 (marked l.length 0 c l) (by omega) c (fun j hj => by rw [marked_get _ _ _ _ _ (by omega) (by omega), if_pos (by omega)]; omega) h0 (by omega) l.length 0 c (by omega) (by omega) (by omega)
end Go.Proofs.Ytnbmlblcmjaclaa.Pure
