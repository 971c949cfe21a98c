/- The pure statement behind the law FnReset: what has to be set anew makes the one list into the other one, and no line of it is needless. No condition. -/
import Derived.Test.YtlhipchbjgfodaaPFnReset2
import Derived.Test.YtlhipchbjgfodaaPFnReset3
import Derived.Test.YtlhipchbjgfodaaPFnReset4
import Derived.Test.YtlhipchbjgfodaaBFnResetBase
import Derived.Test.YtlhipchbjgfodaaBFnResetDraw0
import Derived.Test.YtlhipchbjgfodaaBFnResetStr
import Derived.Test.YtlhipchbjgfodaaBFnResetReset
import Derived.Test.YtlhipchbjgfodaaBFnResetApply
import Derived.Test.YtlhipchbjgfodaaBFnResetLists6
namespace Go.Proofs.Ytlhipchbjgfodaa.Pure
open Go.RowKit Go.Proofs.Ytlhipchbjgfodaa.PFnReset Go.Proofs.YtlhipchbjgfodaaW.PrintWords Go.Proofs.YtlhipchbjgfodaaW.PrintLast Go.Proofs.YtlhipchbjgfodaaW.PrintMore
set_option linter.unusedSectionVars false
set_option linter.unusedVariables false
set_option linter.unusedSimpArgs false
theorem apN_mid (a b : List ByteArray) : apN a (cp a b : Int) ((a.length : Int) - cp a b - cs a b) ((b.take (b.length - cs a b)).drop (cp a b)) = (a.take (cp a b) ++ (b.take (b.length - cs a b)).drop (cp a b) ++ a.drop (a.length - cs a b), true) := by
  have hle := cs_le a b
  unfold apN
  rw [if_pos ⟨by omega, by omega, by omega, by omega⟩, Int.toNat_natCast, show ((cp a b : Int) + ((a.length : Int) - cp a b - cs a b)).toNat = a.length - cs a b from by omega]
theorem strB_tl {l m : List ByteArray} (h : tl l = tl m) : strB l m = true := decide_eq_true h
theorem FnReset : laws_FnReset.Pure := by
  intro code hl _ _
  unfold maxLen at hl
  refine Ev.rounds (g := fun k => laws_FnReset.f k code) ?_
  unfold laws_FnReset.f
  by_cases hw : (code.length : Int) > 1048576
  · simp only [if_pos hw]; exact Ev.now _
  simp only [if_neg hw]
  have hd : ∃ a b, Ev (fun k => spec_DrawResetOf.f k code) (a, b) ∧ a.length ≤ 20 ∧ b.length ≤ 20 := by
    obtain ⟨h, e, c⟩ := cur_new code (by omega)
    obtain ⟨a, b, i1, h1, ev, g1, g2, _⟩ := lists6_ex h c
    refine ⟨a, b, ?_, g1, g2⟩
    unfold spec_DrawResetOf.f
    rw [e]
    simp only [Option.bind_some]
    exact Ev.bind ev (Ev.now _)
  obtain ⟨a, b, ev, ha, hb⟩ := hd
  refine Ev.bind ev (Ev.bind (implRs_ev (a := a) (b := b) (by omega) (by omega)) ?_)
  have hle := cs_le a b
  obtain ⟨p, hp⟩ : ∃ p, p = cp a b := ⟨_, rfl⟩
  obtain ⟨s, hs⟩ : ∃ s, s = cs a b := ⟨_, rfl⟩
  unfold rsN
  rw [← hp, ← hs] at hle ⊢
  rw [wz (n := (p : Int) + ((a.length : Int) - p - s)) (by omega) (by omega), wz (n := (p : Int) + ((b.length : Int) - p - s)) (by omega) (by omega), wz (n := (a.length : Int) - ((a.length : Int) - p - s)) (by omega) (by omega), wz (n := (b.length : Int) - ((b.length : Int) - p - s)) (by omega) (by omega)]
  refine Ev.congr (fun k => if_neg (show ¬ (p : Int) < 0 by omega)) (Ev.congr (fun k => if_neg (show ¬ (a.length : Int) - p - s < 0 by omega)) (Ev.congr (fun k => if_neg (show ¬ (b.length : Int) - p - s < 0 by omega)) (Ev.congr (fun k => if_neg (show ¬ (p : Int) + ((a.length : Int) - p - s) > (a.length : Int) by omega)) (Ev.congr (fun k => if_neg (show ¬ (p : Int) + ((b.length : Int) - p - s) > (b.length : Int) by omega)) ?_))))
  have e0 : ((a.length : Int) - ((a.length : Int) - p - s) != (b.length : Int) - ((b.length : Int) - p - s)) = false := by
    rw [show (a.length : Int) - ((a.length : Int) - p - s) = (b.length : Int) - ((b.length : Int) - p - s) from by omega]; simp
  simp only [e0]
  have m1 := apN_mid a b
  have m2 := apN_mid b a
  rw [cp_comm b a, cs_comm b a] at m2
  rw [← hp, ← hs] at m1 m2
  have t1 := strB_tl (mid_same a b)
  have t2 := mid_same b a
  rw [cp_comm b a, cs_comm b a] at t2
  have t2 := strB_tl t2
  rw [← hp, ← hs] at t1 t2
  have z1 : (p : Int) + ((a.length : Int) - p - s) = ((a.length - s : Nat) : Int) := by omega
  have z2 : (p : Int) + ((b.length : Int) - p - s) = ((b.length - s : Nat) : Int) := by omega
  refine Ev.step (f := fun k => (impl_ApplyReset.f k a p ((a.length : Int) - p - s) ((b.take (b.length - s)).drop p)).bind fun bt212 => (impl_ApplyReset.f k b p ((b.length : Int) - p - s) ((a.take (a.length - s)).drop p)).bind fun bt220 => (if bt212.2 = true then (if bt220.2 = true then ((laws_strings.f k bt212.1 b).bind fun t224 => (if t224 = true then ((laws_strings.f k bt220.1 a).bind fun t225 => (laws_FnReset.j1 k a b p ((a.length : Int) - p - s) ((b.length : Int) - p - s) (!t225))) else (laws_FnReset.j1 k a b p ((a.length : Int) - p - s) ((b.length : Int) - p - s) true))) else (laws_FnReset.j1 k a b p ((a.length : Int) - p - s) ((b.length : Int) - p - s) true)) else (laws_FnReset.j1 k a b p ((a.length : Int) - p - s) ((b.length : Int) - p - s) true))) (fun k => ?_) ?_
  · simp only [laws_FnReset.j0]
    rw [if_neg (by simp), wz (n := (p : Int) + ((a.length : Int) - p - s)) (by omega) (by omega), wz (n := (p : Int) + ((b.length : Int) - p - s)) (by omega) (by omega), z1, z2]
    simp only [if_pos (show (0 : Int) ≤ (p : Int) by omega), if_pos (show (p : Int) ≤ ((b.length - s : Nat) : Int) by omega), if_pos (show ((b.length - s : Nat) : Int) ≤ (b.length : Int) by omega), if_pos (show (p : Int) ≤ ((a.length - s : Nat) : Int) by omega), if_pos (show ((a.length - s : Nat) : Int) ≤ (a.length : Int) by omega), Int.toNat_natCast]
  · refine Ev.bind (implAp_ev a p ((a.length : Int) - p - s) ((b.take (b.length - s)).drop p) (by omega) (by simp; omega)) (Ev.bind (implAp_ev b p ((b.length : Int) - p - s) ((a.take (a.length - s)).drop p) (by omega) (by simp; omega)) ?_)
    rw [m1, m2]
    simp only [if_true]
    refine Ev.bind (strings_ev _ b (by simp; omega)) ?_
    rw [t1]
    simp only [if_true]
    refine Ev.bind (strings_ev _ a (by simp; omega)) ?_
    rw [t2]
    simp only [Bool.not_true]
    have rest : ¬ ((a.length : Int) - p - s > 0 ∧ (b.length : Int) - p - s > 0) → Ev (fun k => (laws_strings.f k a b).bind fun t230 => (if (((a.length : Int) == (b.length : Int)) == t230) = true then (some true) else (some (decide ((wrap64 ((a.length : Int) - p - s + ((b.length : Int) - p - s))) > 0))))) true := by
      intro hn
      refine Ev.bind (strings_ev a b (by omega)) ?_
      rw [wz (by omega) (by omega)]
      cases ht : strB a b with
      | true =>
        have hlen : a.length = b.length := by
          have := congrArg List.length (of_decide_eq_true ht); simpa using this
        rw [if_pos (by rw [hlen]; simp)]; exact Ev.now _
      | false =>
        by_cases hlen : (a.length : Int) = (b.length : Int)
        · rw [if_neg (by rw [hlen]; simp)]
          have : (a.length : Int) - p - s + ((b.length : Int) - p - s) > 0 := by
            rcases Int.lt_or_le 0 ((a.length : Int) - p - s) with h | h
            · omega
            · exfalso
              have h1 : a.length = p + s := by omega
              have h2 : b.length = p + s := by omega
              have e1 : a.take p ++ (b.take (b.length - s)).drop p ++ a.drop (a.length - s) = a := by
                rw [h2, Nat.add_sub_cancel, List.drop_of_length_le (l := b.take p) (by simp; omega), List.append_nil, h1, Nat.add_sub_cancel, List.take_append_drop]
              rw [e1, ht] at t1
              cases t1
          rw [decide_eq_true this]; exact Ev.now _
        · rw [if_pos (by rw [beq_eq_false_iff_ne.2 hlen]; rfl)]; exact Ev.now _
    by_cases h6 : (a.length : Int) - p - s > 0
    · by_cases h7 : (b.length : Int) - p - s > 0
      · have n1 := cp_stop a b (by rw [← hp]; omega) (by rw [← hp]; omega)
        rw [← hp] at n1
        have n2 := cp_stop (a.drop p).reverse (b.drop p).reverse (by simp only [List.length_reverse, List.length_drop]; rw [hp, show cp (a.drop (cp a b)).reverse (b.drop (cp a b)).reverse = cs a b from rfl, ← hp, ← hs]; omega) (by simp only [List.length_reverse, List.length_drop]; rw [hp, show cp (a.drop (cp a b)).reverse (b.drop (cp a b)).reverse = cs a b from rfl, ← hp, ← hs]; omega)
        have ee : cp (a.drop p).reverse (b.drop p).reverse = s := by rw [hp, hs]; rfl
        rw [ee, rev_getD _ _ _ (by omega), rev_getD _ _ _ (by omega)] at n2
        refine Ev.step (f := fun _ => some true) (fun k => ?_) (Ev.now _)
        simp only [laws_FnReset.j1]
        rw [if_neg (by simp), if_pos h6, if_pos h7, if_pos (by omega), if_pos (by omega), if_pos (by omega), rdOf_nat, rdOf_nat, if_neg n1, wz (n := (p : Int) + ((a.length : Int) - p - s)) (by omega) (by omega), wz (n := (p : Int) + ((b.length : Int) - p - s)) (by omega) (by omega), wz (n := (p : Int) + ((a.length : Int) - p - s) - 1) (by omega) (by omega), wz (n := (p : Int) + ((b.length : Int) - p - s) - 1) (by omega) (by omega), if_pos (by omega), if_pos (by omega), if_pos (by omega), if_pos (by omega), show (p : Int) + ((a.length : Int) - p - s) - 1 = ((a.length - 1 - s : Nat) : Int) from by omega, show (p : Int) + ((b.length : Int) - p - s) - 1 = ((b.length - 1 - s : Nat) : Int) from by omega, rdOf_nat, rdOf_nat, bne_iff_ne.2 n2]
      · exact Ev.step (fun k => by simp only [laws_FnReset.j1]; rw [if_neg (by simp), if_pos h6, if_neg h7]) (rest (fun h => h7 h.2))
    · exact Ev.step (fun k => by simp only [laws_FnReset.j1]; rw [if_neg (by simp), if_neg h6]) (rest (fun h => h6 h.1))
end Go.Proofs.Ytlhipchbjgfodaa.Pure
