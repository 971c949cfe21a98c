/- Plain laws on the breakings of a text, as the program counts them; and the counts and widths, program and reference. Conditions: a measure and a text. -/
import Derived.Test.YtnbmlblcmjaclaaPFnWidths4
import Derived.Test.YtnbmlblcmjaclaaPFnWidths5
import Derived.Test.YtnbmlblcmjaclaaPFnWidths6
import Derived.Test.YtnbmlblcmjaclaaBFnWidthsBase
import Derived.Test.YtnbmlblcmjaclaaBFnWidthsKinds
import Derived.Test.YtnbmlblcmjaclaaBFnWidthsBrk
namespace Go.Proofs.Ytnbmlblcmjaclaa.Pure
open Go.RowKit Go.Proofs.Ytnbmlblcmjaclaa.PFnWidths Go.Proofs.YtnbmlblcmjaclaaW.PrintWords Go.Proofs.YtnbmlblcmjaclaaW.PrintLast Go.Proofs.YtnbmlblcmjaclaaW.PrintMore
set_option linter.unusedSectionVars false
set_option linter.unusedVariables false
set_option linter.unusedSimpArgs false

def qsum (W Th Tk : Int) (s : List Int) : Nat → Int
  | 0 => if kindN W Th Tk s > 0 then 1 else 0
  | n + 1 => qsum W Th Tk s n + if kindN W Th Tk (s.take (n + 1)) = 2 then wy W Th Tk (s.drop (n + 1)) else 0
section
variable {W Th Tk : Int}
theorem goes_lt {s : List Int} {n : Nat} (h : n < s.length) : goesS W Th Tk s n = decide (kindN W Th Tk (s.take n) = 2) := by
  unfold goesS; rw [decide_eq_decide]; omega
theorem goes_all {s : List Int} : goesS W Th Tk s s.length = decide (kindN W Th Tk s > 0) := by
  unfold goesS; rw [decide_eq_decide, List.take_length]; have := kindN_cases W Th Tk s; omega
theorem qsum_psum {s : List Int} : ∀ n, n < s.length → qsum W Th Tk s n = psum W Th Tk s n + if kindN W Th Tk s > 0 then 1 else 0
  | 0, _ => by simp [qsum, psum]
  | n + 1, hn => by
    rw [qsum, psum, qsum_psum n (by omega), goes_lt hn]
    simp only [decide_eq_true_eq]; omega
theorem wy_qsum {s : List Int} (h : 0 < s.length) : wy W Th Tk s = qsum W Th Tk s (s.length - 1) := by
  have h0 : s ≠ [] := List.length_pos_iff.1 h
  obtain ⟨n, hn⟩ : ∃ n, s.length = n + 1 := ⟨s.length - 1, by omega⟩
  rw [qsum_psum _ (by omega), wy_psum h0, hn, psum]
  have : goesS W Th Tk s (n + 1) = decide (kindN W Th Tk s > 0) := by rw [← hn]; exact goes_all
  rw [this, ← hn, List.drop_length, wy_nil]
  simp only [decide_eq_true_eq]
  rw [show s.length - 1 = n from by omega]
theorem qsum_nonneg (s : List Int) : ∀ n, 0 ≤ qsum W Th Tk s n
  | 0 => by rw [qsum]; split <;> omega
  | n + 1 => by rw [qsum]; have := qsum_nonneg s n; have := wy_nonneg (W := W) (Th := Th) (Tk := Tk) (s.drop (n + 1)); split <;> omega
theorem qsum_40 {s : List Int} (h : s.length ≤ 40) {n : Nat} (hn : n < s.length) : qsum W Th Tk s n ≤ 1099511627777 := by
  rw [qsum_psum n hn]; have := psum_40 (W := W) (Th := Th) (Tk := Tk) h (n := n) (by omega); split <;> omega
end
section
variable {W Th Tk : Int} {ws : List Int} (m : MOk W Th Tk) (h : Sk ws)
include m h
theorem implWays_l1 (d : Nat) (hd : d < ws.length) (ih : ∀ l : List Int, l.length = ws.length + 1 → l.getD ws.length 0 = 0 → (∀ j, d ≤ j → j < ws.length → l.getD j 0 = wy W Th Tk (ws.drop j)) → (∀ j, j < d → l.getD j 0 = 0) → Ev (fun k => impl_ways.l0 k ws l ((d : Int) - 1) W Th Tk) (wyL W Th Tk ws)) :
    ∀ (r n : Nat) (l : List Int), n + 1 + r = ws.length - d → l.length = ws.length + 1 → l.getD ws.length 0 = 0 → (∀ j, d < j → j < ws.length → l.getD j 0 = wy W Th Tk (ws.drop j)) → l.getD d 0 = qsum W Th Tk (ws.drop d) n → (∀ j, j < d → l.getD j 0 = 0) →
      Ev (fun k => impl_ways.l1 k ws l d ((d + (n + 1) : Nat) : Int) W Th Tk) (wyL W Th Tk ws)
  | 0, n, l, hn, hl, hz, h1, h2, h3 => by
    have := h.len
    refine Ev.step (f := fun k => impl_ways.l0 k ws l ((d : Int) - 1) W Th Tk) (fun k => ?_) (ih l hl hz (fun j hj hj2 => ?_) h3)
    · simp only [impl_ways.l1]; rw [if_neg (by omega), wz (by omega) (by omega)]
    · rcases Nat.lt_or_ge d j with hlt | hge
      · exact h1 j hlt hj2
      · obtain rfl : j = d := by omega
        rw [h2, wy_qsum (by simp; omega)]; congr 1; simp; omega
  | r + 1, n, l, hn, hl, hz, h1, h2, h3 => by
    have hlen := h.len
    have hw0 := wy_nonneg (W := W) (Th := Th) (Tk := Tk) (ws.drop (d + (n + 1)))
    have hw1 := wy_40 (W := W) (Th := Th) (Tk := Tk) (s := ws.drop (d + (n + 1))) (by simp; omega)
    have hp0 := qsum_nonneg (W := W) (Th := Th) (Tk := Tk) (ws.drop d) n
    have hp1 := qsum_40 (W := W) (Th := Th) (Tk := Tk) (s := ws.drop d) (by simp; omega) (n := n) (by simp; omega)
    have hk := implKind_ev (h.seg d (n + 1) (by omega) (by omega)) m
    refine Ev.step (f := fun k => (impl_kindOf.f k W Th Tk ((ws.drop d).take (n + 1))).bind fun t => if t = 2 then impl_ways.l1 k ws (l.set d (qsum W Th Tk (ws.drop d) n + wy W Th Tk (ws.drop (d + (n + 1))))) d ((d + (n + 1 + 1) : Nat) : Int) W Th Tk else impl_ways.l1 k ws l d ((d + (n + 1 + 1) : Nat) : Int) W Th Tk) (fun k => ?_) ?_
    · simp only [impl_ways.l1]
      rw [if_pos (by omega), if_pos (by omega), if_pos (by omega), if_pos (by omega), if_pos (show (d : Int) < (l.length : Int) by omega), if_pos (show (0 : Int) ≤ ((d + (n + 1) : Nat) : Int) by omega), if_pos (show ((d + (n + 1) : Nat) : Int) < (l.length : Int) by omega)]
      rw [rd_nat, h2, rd_nat, h1 _ (by omega) (by omega), wz (n := qsum W Th Tk (ws.drop d) n + _) (by omega) (by omega), Int.toNat_natCast, Int.toNat_natCast, wz (by omega) (by omega), seg_eq]
      rfl
    · refine Ev.bind hk ?_
      by_cases hgo : kindN W Th Tk ((ws.drop d).take (n + 1)) = 2
      · simp only [if_pos hgo]
        refine implWays_l1 d hd ih r (n + 1) _ (by omega) (by simpa using hl) ?_ (fun j hj hj2 => ?_) ?_ (fun j hj => ?_)
        · rw [getD_set, if_neg (by omega)]; exact hz
        · rw [getD_set, if_neg (by omega)]; exact h1 j hj hj2
        · rw [getD_set, if_pos ⟨rfl, by omega⟩, qsum, if_pos hgo, List.drop_drop]
        · rw [getD_set, if_neg (by omega)]; exact h3 j hj
      · simp only [if_neg hgo]
        refine implWays_l1 d hd ih r (n + 1) l (by omega) hl hz h1 ?_ h3
        rw [h2, qsum, if_neg hgo]; omega
theorem implWays_l0 : ∀ (d : Nat) (l : List Int), d ≤ ws.length → l.length = ws.length + 1 → l.getD ws.length 0 = 0 → (∀ j, d ≤ j → j < ws.length → l.getD j 0 = wy W Th Tk (ws.drop j)) → (∀ j, j < d → l.getD j 0 = 0) →
    Ev (fun k => impl_ways.l0 k ws l ((d : Int) - 1) W Th Tk) (wyL W Th Tk ws)
  | 0, l, hd, hl, hz, h1, h3 => by
    have e : l.set ws.length 1 = wyL W Th Tk ws := by
      refine ext_getD (by rw [List.length_set, hl, wyL_length]) (fun j hj => ?_)
      rw [List.length_set] at hj
      rw [getD_set, wyL_get _ _ _ _ _ (by omega)]
      by_cases hj2 : ws.length = j
      · subst hj2; rw [if_pos ⟨rfl, by omega⟩, List.drop_length, wy_nil]
      · rw [if_neg (by omega)]; exact h1 j (by omega) (by omega)
    refine Ev.step (f := fun _ => some (wyL W Th Tk ws)) (fun k => ?_) (Ev.now _)
    simp only [impl_ways.l0]; rw [if_neg (by omega), if_pos (by omega), if_pos (by omega), Int.toNat_natCast, e]
  | d + 1, l, hd, hl, hz, h1, h3 => by
    have hlen := h.len
    have hs : Sk (ws.drop d) := by have := h.seg d (ws.length - d) (by omega) (by omega); rwa [List.take_of_length_le (by simp)] at this
    have hk := implKind_ev hs m
    refine Ev.step (f := fun k => (impl_kindOf.f k W Th Tk (ws.drop d)).bind fun t => if t > 0 then impl_ways.j1 k ws (l.set d 1) d W Th Tk else impl_ways.j1 k ws l d W Th Tk) (fun k => ?_) ?_
    · simp only [impl_ways.l0]
      rw [show ((d + 1 : Nat) : Int) - 1 = (d : Int) from by omega, if_pos (by omega), if_pos (by omega), if_pos (by omega), if_pos (show (d : Int) < (l.length : Int) by omega), Int.toNat_natCast]
    · refine Ev.bind hk ?_
      have go : ∀ l : List Int, l.length = ws.length + 1 → l.getD ws.length 0 = 0 → (∀ j, d < j → j < ws.length → l.getD j 0 = wy W Th Tk (ws.drop j)) → l.getD d 0 = qsum W Th Tk (ws.drop d) 0 → (∀ j, j < d → l.getD j 0 = 0) → Ev (fun k => impl_ways.j1 k ws l d W Th Tk) (wyL W Th Tk ws) := by
        intro l hl hz h1 h2 h3
        refine Ev.step (f := fun k => impl_ways.l1 k ws l d ((d + (0 + 1) : Nat) : Int) W Th Tk) (fun k => by simp only [impl_ways.j1]; rw [wz (by omega) (by omega)]; rfl) ?_
        exact implWays_l1 m h d (by omega) (fun l hl hz h1 h3 => implWays_l0 d l (by omega) hl hz h1 h3) (ws.length - d - 1) 0 l (by omega) hl hz h1 h2 h3
      by_cases hgo : kindN W Th Tk (ws.drop d) > 0
      · simp only [if_pos hgo]
        refine go _ (by simpa using hl) ?_ (fun j hj hj2 => ?_) ?_ (fun j hj => ?_)
        · rw [getD_set, if_neg (by omega)]; exact hz
        · rw [getD_set, if_neg (by omega)]; exact h1 j (by omega) hj2
        · rw [getD_set, if_pos ⟨rfl, by omega⟩, qsum, if_pos hgo]
        · rw [getD_set, if_neg (by omega)]; exact h3 j (by omega)
      · simp only [if_neg hgo]
        refine go l hl hz (fun j hj hj2 => h1 j (by omega) hj2) ?_ (fun j hj => h3 j (by omega))
        rw [h3 d (by omega), qsum, if_neg hgo]
theorem implWays_ev : Ev (fun k => impl_ways.f k W Th Tk ws) (wyL W Th Tk ws) := by
  have := h.len
  unfold impl_ways.f
  rw [wz (n := (ws.length : Int) + 1) (by omega) (by omega), wz (n := (ws.length : Int) - 1) (by omega) (by omega), show ((ws.length : Int) + 1).toNat = ws.length + 1 from by omega]
  simp only [if_pos (show (0 : Int) ≤ (ws.length : Int) + 1 by omega), if_pos (show ws.length + 1 ≤ 35184372088832 by omega)]
  exact implWays_l0 m h ws.length _ (Nat.le_refl _) (by simp) (replicate_getD _ _) (fun j hj hj2 => by omega) (fun j hj => replicate_getD _ _)
end
theorem bothB_iff {W Th Tk : Int} {ws : List Int} (hb : bothB W Th Tk ws = true) : MOk W Th Tk ∧ Sk ws := by
  unfold bothB at hb
  rw [Bool.and_eq_true] at hb
  exact ⟨mokB_iff.1 hb.1, Sk.of ws hb.2⟩
/-- The number of breakings; -1 if there are no measure and text. -/
def countN (W Th Tk : Int) (ws : List Int) : Int := if bothB W Th Tk ws = true then wy W Th Tk ws else -1
theorem wyL_0 (W Th Tk : Int) (ws : List Int) : rd (wyL W Th Tk ws) 0 = wy W Th Tk ws := by
  have := wyL_get W Th Tk ws 0 (by omega)
  rw [show rd (wyL W Th Tk ws) 0 = (wyL W Th Tk ws).getD 0 0 from rfl, this, List.drop_zero]
theorem implCount_ev (W Th Tk : Int) (ws : List Int) : Ev (fun k => impl_CountBreakings.f k W Th Tk ws) (countN W Th Tk ws) := by
  unfold impl_CountBreakings.f countN
  rw [implBoth_eq]
  simp only [Option.bind_some]
  cases hb : bothB W Th Tk ws with
  | false => simp only [Bool.false_eq_true, if_false]; exact Ev.now _
  | true =>
    obtain ⟨m, h⟩ := bothB_iff hb
    simp only [if_true]
    refine Ev.bind (implWays_ev m h) ?_
    simp only [wyL_length, wyL_0, if_pos (show (0 : Int) < ((ws.length + 1 : Nat) : Int) by omega)]
    exact Ev.now _
end Go.Proofs.Ytnbmlblcmjaclaa.Pure
