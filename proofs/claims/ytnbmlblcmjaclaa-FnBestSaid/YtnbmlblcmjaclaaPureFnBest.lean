/- The pure statement behind the law FnBest: no breaking costs less than the one that is told, and none before it as little. No condition. -/
import Derived.Test.YtnbmlblcmjaclaaPFnBest10
import Derived.Test.YtnbmlblcmjaclaaPFnBest11
import Derived.Test.YtnbmlblcmjaclaaPFnBest12
import Derived.Test.YtnbmlblcmjaclaaPFnBest4
import Derived.Test.YtnbmlblcmjaclaaPFnBest6
import Derived.Test.YtnbmlblcmjaclaaBFnBestBase
import Derived.Test.YtnbmlblcmjaclaaBFnBestKinds
import Derived.Test.YtnbmlblcmjaclaaBFnBestBrk
import Derived.Test.YtnbmlblcmjaclaaBFnBestBrkI
import Derived.Test.YtnbmlblcmjaclaaBFnBestBrkAt
import Derived.Test.YtnbmlblcmjaclaaBFnBestBrkIx
import Derived.Test.YtnbmlblcmjaclaaBFnBestBrkIxI
import Derived.Test.YtnbmlblcmjaclaaBFnBestBrkMem
import Derived.Test.YtnbmlblcmjaclaaBFnBestBrkIdx
import Derived.Test.YtnbmlblcmjaclaaBFnBestBrkCost
import Derived.Test.YtnbmlblcmjaclaaBFnBestBrkBest
import Derived.Test.YtnbmlblcmjaclaaBFnBestBrkBs
import Derived.Test.YtnbmlblcmjaclaaBFnBestDraw0
import Derived.Test.YtnbmlblcmjaclaaBFnBestDraw4
namespace Go.Proofs.Ytnbmlblcmjaclaa.Pure
open Go.RowKit Go.Proofs.Ytnbmlblcmjaclaa.PFnBest Go.Proofs.YtnbmlblcmjaclaaW.PrintWords Go.Proofs.YtnbmlblcmjaclaaW.PrintLast Go.Proofs.YtnbmlblcmjaclaaW.PrintMore
set_option linter.unusedSectionVars false
set_option linter.unusedVariables false
set_option linter.unusedSimpArgs false
theorem u8_wf {x : Int} (h : (Lit.int .u8 x).wf = true) : 0 ≤ x ∧ x ≤ 255 := by
  simp [Lit.wf] at h
  have e1 : IntKind.u8.min = 0 := by decide
  have e2 : IntKind.u8.max = 255 := by decide
  omega
theorem at_ex (code : List Int) (hl : code.length ≤ 1048576) (hc : ∀ x ∈ code, (Lit.int .u8 x).wf = true) (p : Nat) (hp : p < 8) : ∃ t, laws_at.f code p = some t ∧ 0 ≤ t ∧ t ≤ 255 := by
  unfold laws_at.f
  by_cases h : (p : Int) < (code.length : Int)
  · rw [if_pos h, if_pos (by omega)]
    have h1 := u8_wf (hc (code.getD p 0) (by rw [List.getD_eq_getElem?_getD, List.getElem?_eq_getElem (show p < code.length by omega)]; exact List.getElem_mem _))
    rw [rd_nat, wz (by omega) (by omega)]
    exact ⟨_, rfl, h1.1, h1.2⟩
  · rw [if_neg h, wz (n := (p : Int) * 37) (by omega) (by omega), wz (n := (code.length : Int) * 11) (by omega) (by omega), wz (by omega) (by omega)]
    refine ⟨_, rfl, Int.tmod_nonneg _ (by omega), ?_⟩
    rw [Int.tmod_eq_emod_of_nonneg (by omega)]
    omega
theorem index_ex (t n : Int) (p : Nat) (h0 : 0 ≤ t) (h1 : t ≤ 255) (hn : 0 < n) (hn2 : n ≤ 1099511627776) (hp : p < 8) : ∃ j : Nat, Int.tmod (wrap64 (wrap64 (Int.tdiv (wrap64 (t * n)) 256) + p)) n = (j : Int) ∧ (j : Int) < n := by
  have hb := mul_bd (a := t) (b := n) (A := 255) (B := 1099511627776) h0 h1 (by omega) hn2
  rw [wz (n := t * n) (by omega) (by omega)]
  have hd : 0 ≤ Int.tdiv (t * n) 256 ∧ Int.tdiv (t * n) 256 ≤ 1099511627776 := by
    rw [Int.tdiv_eq_ediv_of_nonneg hb.1]; omega
  rw [wz (n := Int.tdiv (t * n) 256) (by omega) (by omega), wz (by omega) (by omega), Int.tmod_eq_emod_of_nonneg (by omega)]
  have h2 := Int.emod_nonneg (Int.tdiv (t * n) 256 + p) (show n ≠ 0 by omega)
  have h3 := Int.emod_lt_of_pos (Int.tdiv (t * n) 256 + p) hn
  obtain ⟨j, hj⟩ := Int.eq_ofNat_of_zero_le h2
  exact ⟨j, hj, by omega⟩
section
variable {W Th Tk : Int} {ws : List Int} (hb : bothB W Th Tk ws = true) {b : CL} {i : Nat} (hi : (brk W Th Tk ws)[i]? = some b.2) (hl : ∀ (j : Nat) (l : List Nat), (brk W Th Tk ws)[j]? = some l → b.1 ≤ costN W Th Tk ws (ints l) ∧ (j < i → b.1 < costN W Th Tk ws (ints l)))
  (code : List Int) (hcl : code.length ≤ 1048576) (hc : ∀ x ∈ code, (Lit.int .u8 x).wf = true)
include hb hi hl hcl hc
theorem best_j3 (p j : Nat) (hj : (j : Int) < wy W Th Tk ws) (nx : Ev (fun k => laws_FnBest.l0 k code ws b.1 (wy W Th Tk ws) i ((p + 1 : Nat) : Int) W Th Tk) true) (hp : p < 8) : Ev (fun k => laws_FnBest.j3 k code ws b.1 (wy W Th Tk ws) i p j W Th Tk) true := by
  have hjl : j < (brk W Th Tk ws).length := by unfold wy at hj; omega
  have hj' : (brk W Th Tk ws)[j]? = some (brk W Th Tk ws)[j] := List.getElem?_eq_getElem hjl
  obtain ⟨g1, g2⟩ := hl j _ hj'
  have ea : atR W Th Tk ws j = (ints (brk W Th Tk ws)[j], true) := by
    unfold atR; rw [if_pos ⟨hb, by omega, hj⟩]; unfold atN; rw [Int.toNat_natCast, hj']; rfl
  have hlen := (bothB_iff hb).2.len
  have hB := atN_isB (W := W) (Th := Th) (Tk := Tk) (s := ws) (idx := (j : Int)) (by omega) hj
  have eat : atN W Th Tk ws j = ints (brk W Th Tk ws)[j] := by unfold atN; rw [Int.toNat_natCast, hj']; rfl
  rw [eat] at hB
  have hln := isB_len _ _ hB
  have hN : isN W Th Tk ws (ints (brk W Th Tk ws)[j]) = true := by unfold isN; rw [hb, hB]; rfl
  refine Ev.step (f := fun k => (impl_BreakingAt.f k W Th Tk ws j).bind fun bt925 => ((impl_CostOf.f k W Th Tk ws bt925.1).bind fun t929 => (if bt925.2 = true then (if t929 < b.1 then (some false) else (if t929 = b.1 then (if (j : Int) < (i : Int) then (some false) else (laws_FnBest.l0 k code ws b.1 (wy W Th Tk ws) i (wrap64 ((p : Int) + 1)) W Th Tk)) else (laws_FnBest.l0 k code ws b.1 (wy W Th Tk ws) i (wrap64 ((p : Int) + 1)) W Th Tk))) else (some false)))) (fun k => by simp only [laws_FnBest.j3]) ?_
  refine Ev.bind (implAt_ev W Th Tk ws j) ?_
  rw [ea]
  refine Ev.bind (implCost_ev W Th Tk ws _ (by simp only; omega)) ?_
  have hcr : costR W Th Tk ws (ints (brk W Th Tk ws)[j]) = costN W Th Tk ws (ints (brk W Th Tk ws)[j]) := by unfold costR; rw [if_pos hN]
  simp only [hcr, if_true]
  rw [wz (n := (p : Int) + 1) (by omega) (by omega), show (p : Int) + 1 = ((p + 1 : Nat) : Int) from by omega]
  simp only [if_neg (show ¬ costN W Th Tk ws (ints (brk W Th Tk ws)[j]) < b.1 by omega)]
  by_cases he : costN W Th Tk ws (ints (brk W Th Tk ws)[j]) = b.1
  · simp only [if_pos he, if_neg (show ¬ (j : Int) < (i : Int) by intro h; have := g2 (by omega); omega)]; exact nx
  · simp only [if_neg he]; exact nx
theorem best_l0 : ∀ (r p : Nat), p + r = 8 → Ev (fun k => laws_FnBest.l0 k code ws b.1 (wy W Th Tk ws) i p W Th Tk) true := by
  have hlen := (bothB_iff hb).2.len
  have hw1 := wy_40 (W := W) (Th := Th) (Tk := Tk) (s := ws) hlen
  intro r
  induction r with
  | zero =>
    intro p hp
    refine Ev.step (f := fun k => laws_FnBest.j2 k code ws b.1 (wy W Th Tk ws) i p false W Th Tk) (fun k => ?_) (Ev.step (f := fun _ => some true) (fun k => ?_) (Ev.now _))
    · simp only [laws_FnBest.l0]; rw [if_neg (by omega)]
    · simp only [laws_FnBest.j2]; rw [if_neg (by simp)]
  | succ r ih =>
    intro p hp
    refine Ev.step (f := fun k => laws_FnBest.j2 k code ws b.1 (wy W Th Tk ws) i p (decide ((p : Int) < wy W Th Tk ws)) W Th Tk) (fun k => ?_) ?_
    · simp only [laws_FnBest.l0]; rw [if_pos (by omega)]
    · by_cases hlt : (p : Int) < wy W Th Tk ws
      · rw [decide_eq_true hlt]
        have nx := ih (p + 1) (by omega)
        by_cases h8 : wy W Th Tk ws > 8
        · obtain ⟨t, et, t0, t1⟩ := at_ex code hcl hc p (by omega)
          obtain ⟨j, ej, hj⟩ := index_ex t (wy W Th Tk ws) p t0 t1 (by omega) hw1 (by omega)
          refine Ev.step (f := fun k => laws_FnBest.j3 k code ws b.1 (wy W Th Tk ws) i p j W Th Tk) (fun k => ?_) (best_j3 hb hi hl code hcl hc p j hj nx (by omega))
          simp only [laws_FnBest.j2]; rw [if_pos trivial, if_pos h8, et, Option.bind_some, if_neg (by omega), ej]
        · refine Ev.step (f := fun k => laws_FnBest.j3 k code ws b.1 (wy W Th Tk ws) i p p W Th Tk) (fun k => ?_) (best_j3 hb hi hl code hcl hc p p hlt nx (by omega))
          simp only [laws_FnBest.j2]; rw [if_pos trivial, if_neg h8]
      · rw [decide_eq_false hlt]
        refine Ev.step (f := fun _ => some true) (fun k => ?_) (Ev.now _)
        simp only [laws_FnBest.j2]; rw [if_neg (by simp)]
end
theorem FnBest : laws_FnBest.Pure := by
  intro code hl _ hcode
  unfold maxLen at hl
  refine Ev.rounds (g := fun k => laws_FnBest.f k code) ?_
  unfold laws_FnBest.f
  by_cases hw : (code.length : Int) > 1048576
  · simp only [if_pos hw]; exact Ev.now _
  simp only [if_neg hw]
  have hd : ∃ W Th Tk ws, Ev (fun k => spec_DrawBestBreaking.f k code) (W, Th, Tk, ws) ∧ ws.length ≤ 41 := by
    obtain ⟨h, e, c⟩ := cur_new code (by omega)
    obtain ⟨W, Th, Tk, ws, i1, h1, ev, hl1, c1⟩ := l4Both_ex h c
    refine ⟨W, Th, Tk, ws, ?_, hl1⟩
    unfold spec_DrawBestBreaking.f
    rw [e]
    simp only [Option.bind_some]
    exact Ev.bind ev (Ev.now _)
  obtain ⟨W, Th, Tk, ws, ev, hl1⟩ := hd
  refine Ev.bind ev (Ev.bind (implBs_ev W Th Tk ws) (Ev.bind (implCount_ev W Th Tk ws) ?_))
  have no : countN W Th Tk ws < 1 → Ev (fun k => (spec_CountBreakings.f k W Th Tk ws).bind fun t921 => (some (decide (t921 < 1)))) true := fun h => by
    refine Ev.bind (specCount_ev W Th Tk ws (by omega)) ?_
    rw [decide_eq_true h]; exact Ev.now _
  cases hb : bothB W Th Tk ws with
  | false =>
    have e1 : bsN W Th Tk ws = ([], 0, false) := by unfold bsN; rw [hb]; rfl
    rw [e1]
    simp only [Bool.false_eq_true, if_false]
    exact no (by unfold countN; rw [hb, if_neg (by simp)]; omega)
  | true =>
    have e1 : bsN W Th Tk ws = bsR (bst W Th Tk ws) := by unfold bsN; rw [if_pos hb]
    have hcn : countN W Th Tk ws = wy W Th Tk ws := by unfold countN; rw [if_pos hb]
    cases hs : bst W Th Tk ws with
    | none =>
      rw [e1, hs]
      simp only [bsR, Bool.false_eq_true, if_false]
      exact no (by rw [hcn, (bst_none W Th Tk _).1 hs]; decide)
    | some b =>
      obtain ⟨m, h⟩ := bothB_iff hb
      have hlen := h.len
      obtain ⟨i, hi, hcb, hleast⟩ := fm_least _ _ _ hs
      have hbd := bst_ge m h 0 (by omega) (by simpa using hs)
      have hil : (i : Int) < wy W Th Tk ws := by
        have := (List.getElem?_eq_some_iff.1 hi).1
        unfold wy; omega
      have eat : atN W Th Tk ws i = ints b.2 := by unfold atN; rw [Int.toNat_natCast, hi]; rfl
      have hB := atN_isB (W := W) (Th := Th) (Tk := Tk) (s := ws) (idx := (i : Int)) (by omega) hil
      have hix := atN_ix ws.length ws (i : Int) (Nat.le_refl _) (by omega) hil
      rw [eat] at hB hix
      have hln := isB_len _ _ hB
      have hN : isN W Th Tk ws (ints b.2) = true := by unfold isN; rw [hb, hB]; rfl
      have hx : ixR W Th Tk ws (ints b.2) = (i : Int) := by unfold ixR; rw [if_pos hN]; exact hix
      have hcr : costR W Th Tk ws (ints b.2) = b.1 := by unfold costR; rw [if_pos hN]; exact hcb
      rw [e1, hs, hcn]
      simp only [bsR, if_true]
      refine Ev.bind (implIdx_ev W Th Tk ws _ (by omega)) ?_
      rw [hx]
      refine Ev.congr (fun k => if_neg (show ¬ (i : Int) < 0 by omega)) (Ev.congr (fun k => if_neg (show ¬ b.1 < 0 by omega)) ?_)
      refine Ev.bind (implCost_ev W Th Tk ws (ints b.2) (by omega)) ?_
      rw [hcr]
      simp only [bne_self_eq_false]
      refine Ev.step (f := fun k => laws_FnBest.l0 k code ws b.1 (wy W Th Tk ws) i ((0 : Nat) : Int) W Th Tk) (fun k => by simp only [laws_FnBest.j0]; rw [if_neg (by simp)]; rfl) ?_
      exact best_l0 hb hi hleast code (by omega) hcode 8 0 (by omega)
end Go.Proofs.Ytnbmlblcmjaclaa.Pure
