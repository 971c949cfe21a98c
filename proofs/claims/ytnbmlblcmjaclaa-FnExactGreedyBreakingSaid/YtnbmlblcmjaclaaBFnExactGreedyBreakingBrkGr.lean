/- Plain laws on the breaking in which each line has as many words as it can, program and reference. Conditions: bounds on lengths alone. -/
import Derived.Test.YtnbmlblcmjaclaaPFnExactGreedyBreaking2
import Derived.Test.YtnbmlblcmjaclaaPFnExactGreedyBreaking4
import Derived.Test.YtnbmlblcmjaclaaPFnExactGreedyBreaking5
import Derived.Test.YtnbmlblcmjaclaaBFnExactGreedyBreakingBase
import Derived.Test.YtnbmlblcmjaclaaBFnExactGreedyBreakingKinds
import Derived.Test.YtnbmlblcmjaclaaBFnExactGreedyBreakingBrk
import Derived.Test.YtnbmlblcmjaclaaBFnExactGreedyBreakingBrkI
import Derived.Test.YtnbmlblcmjaclaaBFnExactGreedyBreakingBrkAt
import Derived.Test.YtnbmlblcmjaclaaBFnExactGreedyBreakingBrkIx
import Derived.Test.YtnbmlblcmjaclaaBFnExactGreedyBreakingBrkIxI
import Derived.Test.YtnbmlblcmjaclaaBFnExactGreedyBreakingBrkMem
namespace Go.Proofs.Ytnbmlblcmjaclaa.Pure
open Go.RowKit Go.Proofs.Ytnbmlblcmjaclaa.PFnExactGreedyBreaking Go.Proofs.YtnbmlblcmjaclaaW.PrintWords Go.Proofs.YtnbmlblcmjaclaaW.PrintLast Go.Proofs.YtnbmlblcmjaclaaW.PrintMore
set_option linter.unusedSectionVars false
set_option linter.unusedVariables false
set_option linter.unusedSimpArgs false
section
variable (W Th Tk : Int)
/-- The greatest number of words, at most n, of which a line can be; 0 if there is none. -/
def most (s : List Int) : Nat → Nat
  | 0 => 0
  | n + 1 => if goesS W Th Tk s (n + 1) = true then n + 1 else most s n
theorem most_le (s : List Int) : ∀ n, most W Th Tk s n ≤ n
  | 0 => Nat.le_refl _
  | n + 1 => by unfold most; split
                · exact Nat.le_refl _
                · have := most_le s n; omega
theorem most_goes (s : List Int) : ∀ n, 0 < most W Th Tk s n → goesS W Th Tk s (most W Th Tk s n) = true
  | 0, h => by simp [most] at h
  | n + 1, h => by
    unfold most at h ⊢
    split
    · assumption
    · rename_i hg; rw [if_neg hg] at h; exact most_goes s n h
theorem most_psum (s : List Int) : ∀ n, psum W Th Tk s (most W Th Tk s n) = psum W Th Tk s n
  | 0 => rfl
  | n + 1 => by
    unfold most; split
    · rfl
    · rename_i hg; rw [most_psum s n, psum, if_neg hg]; omega
/-- The greedy breaking, by a number of lines that is at least as great as that of the words. -/
def grd : Nat → List Int → Option (List Int)
  | _, [] => some []
  | 0, _ :: _ => none
  | f + 1, s => if most W Th Tk s s.length = 0 then none else (grd f (s.drop (most W Th Tk s s.length))).map (fun l => (most W Th Tk s s.length : Int) :: l)
theorem grd_nil (f : Nat) : grd W Th Tk f [] = some [] := by cases f <;> rfl
theorem grd_succ (f : Nat) {s : List Int} (h : s ≠ []) : grd W Th Tk (f + 1) s = if most W Th Tk s s.length = 0 then none else (grd W Th Tk f (s.drop (most W Th Tk s s.length))).map (fun l => (most W Th Tk s s.length : Int) :: l) := by
  cases s with
  | nil => exact absurd rfl h
  | cons x t => rfl
theorem grd_isB : ∀ (f : Nat) (s l : List Int), s.length ≤ f → grd W Th Tk f s = some l → isB W Th Tk s l = true ∧ ixN W Th Tk s l = wy W Th Tk s - 1
  | f, s, l, hf, h => by
    by_cases h0 : s = []
    · subst h0
      rw [grd_nil] at h
      obtain rfl := Option.some.inj h
      rw [wy_nil]; exact ⟨rfl, by rw [ixN]; omega⟩
    · cases f with
      | zero => exact absurd (List.eq_nil_of_length_eq_zero (by omega)) h0
      | succ f =>
        rw [grd_succ W Th Tk f h0] at h
        split at h
        · cases h
        · rename_i hm
          obtain ⟨l', hl', rfl⟩ := Option.map_eq_some_iff.1 h
          have hle := most_le W Th Tk s s.length
          have hg := most_goes W Th Tk s s.length (by omega)
          have hp := most_psum W Th Tk s s.length
          obtain ⟨q, hq⟩ : ∃ q, most W Th Tk s s.length = q + 1 := ⟨most W Th Tk s s.length - 1, by omega⟩
          rw [hq] at hg hp hl' hle ⊢
          obtain ⟨i1, i2⟩ := grd_isB f (s.drop (q + 1)) l' (by simp; omega) hl'
          rw [isB, ixN, Int.toNat_natCast, hg, i1, i2, wy_psum h0, ← hp, psum, if_pos hg]
          refine ⟨?_, by rw [show q + 1 - 1 = q from rfl]; omega⟩
          simp only [Bool.and_true, inr, decide_eq_true_eq]; omega
theorem grd_len (f : Nat) (s l : List Int) (hf : s.length ≤ f) (h : grd W Th Tk f s = some l) : l.length ≤ s.length := isB_len _ _ (grd_isB W Th Tk f s l hf h).1
end
/-- What a greedy breaking is told as. -/
def grR (o : Option (List Int)) (out : List Int) : List Int × Bool := match o with
  | some l => (out ++ l, true)
  | none => ([], false)
section
variable {W Th Tk : Int} {ws : List Int} (m : MOk W Th Tk) (h : Sk ws)
include m h
theorem specGr_l1 (a : Nat) (ha : a < ws.length) (out : List Int) (ho : out.length ≤ 100) (R : List Int × Bool)
    (no : most W Th Tk (ws.drop a) (ws.drop a).length = 0 → R = ([], false))
    (next : ∀ n, most W Th Tk (ws.drop a) (ws.drop a).length = n + 1 → Ev (fun k => spec_GreedyBreaking.l0 k ws (out ++ [((n + 1 : Nat) : Int)]) ((a + (n + 1) : Nat) : Int) W Th Tk) R) :
    ∀ (n : Nat), n ≤ ws.length - a → most W Th Tk (ws.drop a) (ws.drop a).length = most W Th Tk (ws.drop a) n → Ev (fun k => spec_GreedyBreaking.l1 k ws out a n W Th Tk) R
  | 0, hn, hm => by
    rw [no (by rw [hm]; rfl)]
    exact Ev.step (f := fun _ => some ([], false)) (fun k => by simp only [spec_GreedyBreaking.l1]; rw [if_neg (by omega), if_pos (by omega)]) (Ev.now _)
  | n + 1, hn, hm => by
    have hlen := h.len
    have hge := goes_ev m h a (n + 1) (by omega) (by omega)
    refine Ev.step (f := fun k => (spec_l4Goes.f k W Th Tk ws a ((n + 1 : Nat) : Int)).bind fun t => if t = true then spec_GreedyBreaking.l0 k ws (out ++ [((n + 1 : Nat) : Int)]) ((a + (n + 1) : Nat) : Int) W Th Tk else spec_GreedyBreaking.l1 k ws out a n W Th Tk) (fun k => ?_) (Ev.bind hge ?_)
    · simp only [spec_GreedyBreaking.l1]
      rw [if_pos (by omega), if_neg (show ¬ ((n + 1 : Nat) : Int) = 0 by omega), if_pos (show out.length < 17592186044416 by omega), wz (n := (a : Int) + ((n + 1 : Nat) : Int)) (by omega) (by omega), wz (n := ((n + 1 : Nat) : Int) - 1) (by omega) (by omega), show (a : Int) + ((n + 1 : Nat) : Int) = ((a + (n + 1) : Nat) : Int) from by omega, show ((n + 1 : Nat) : Int) - 1 = (n : Int) from by omega]
    · cases hg : goesS W Th Tk (ws.drop a) (n + 1) with
      | true =>
        simp only [if_true]
        exact next n (by rw [hm, most, if_pos hg])
      | false =>
        simp only [Bool.false_eq_true, if_false]
        exact specGr_l1 a ha out ho R no next n (by omega) (by rw [hm, most, if_neg (by rw [hg]; simp)])
theorem specGr_l0 : ∀ (f a : Nat) (out : List Int), ws.length - a ≤ f → a ≤ ws.length → out.length ≤ a → Ev (fun k => spec_GreedyBreaking.l0 k ws out a W Th Tk) (grR (grd W Th Tk f (ws.drop a)) out) := by
  have hlen := h.len
  intro f
  induction f with
  | zero =>
    intro a out hf ha ho
    rw [List.drop_of_length_le (by omega), grd_nil]
    exact Ev.step (f := fun _ => some (out, true)) (fun k => by simp only [spec_GreedyBreaking.l0]; rw [if_neg (by omega)]) (by simpa [grR] using Ev.now _)
  | succ f ih =>
    intro a out hf ha ho
    by_cases hlt : a < ws.length
    · have hne : ws.drop a ≠ [] := by intro e; have := congrArg List.length e; simp at this; omega
      rw [grd_succ W Th Tk f hne]
      refine Ev.step (f := fun k => spec_GreedyBreaking.l1 k ws out a ((ws.length - a : Nat) : Int) W Th Tk) (fun k => ?_) ?_
      · simp only [spec_GreedyBreaking.l0]; rw [if_pos (by omega), wz (n := (ws.length : Int) - a) (by omega) (by omega), show (ws.length : Int) - a = ((ws.length - a : Nat) : Int) from by omega]
      · refine specGr_l1 m h a hlt out (by omega) _ (fun h0 => by rw [if_pos h0]; rfl) (fun n hn => ?_) (ws.length - a) (Nat.le_refl _) (by simp)
        have hle := most_le W Th Tk (ws.drop a) (ws.drop a).length
        rw [hn, List.length_drop] at hle
        rw [hn, if_neg (by omega), List.drop_drop]
        have := ih (a + (n + 1)) (out ++ [((n + 1 : Nat) : Int)]) (by omega) (by omega) (by simp; omega)
        cases hgr : grd W Th Tk f (ws.drop (a + (n + 1))) with
        | none => rw [hgr] at this; exact this
        | some l => rw [hgr] at this; simpa [grR] using this
    · have := ih a out (by omega) ha ho
      rw [List.drop_of_length_le (by omega), grd_nil] at this ⊢; exact this
theorem implGr_l1 (a : Nat) (ha : a < ws.length) (hk0 : goesS W Th Tk (ws.drop a) (ws.drop a).length = false) (out : List Int) (ho : out.length ≤ 100) (R : List Int × Bool)
    (no : most W Th Tk (ws.drop a) (ws.drop a).length = 0 → R = ([], false))
    (next : ∀ n, most W Th Tk (ws.drop a) (ws.drop a).length = n + 1 → Ev (fun k => impl_GreedyBreaking.l0 k ws (out ++ [((n + 1 : Nat) : Int)]) ((a + (n + 1) : Nat) : Int) W Th Tk) R) :
    ∀ (n : Nat), n ≤ ws.length - a → most W Th Tk (ws.drop a) (ws.drop a).length = most W Th Tk (ws.drop a) n → Ev (fun k => impl_GreedyBreaking.l1 k ws out a n W Th Tk) R
  | 0, hn, hm => by
    rw [no (by rw [hm]; rfl)]
    exact Ev.step (f := fun _ => some ([], false)) (fun k => by simp only [impl_GreedyBreaking.l1]; rw [if_neg (by omega), if_pos (by omega)]) (Ev.now _)
  | n + 1, hn, hm => by
    have hlen := h.len
    have hk := implKind_ev (h.seg a (n + 1) (by omega) (by omega)) m
    refine Ev.step (f := fun k => (impl_kindOf.f k W Th Tk ((ws.drop a).take (n + 1))).bind fun t => if t = 2 then impl_GreedyBreaking.l0 k ws (out ++ [((n + 1 : Nat) : Int)]) ((a + (n + 1) : Nat) : Int) W Th Tk else impl_GreedyBreaking.l1 k ws out a n W Th Tk) (fun k => ?_) (Ev.bind hk ?_)
    · simp only [impl_GreedyBreaking.l1]
      rw [if_pos (by omega), wz (n := (a : Int) + ((n + 1 : Nat) : Int)) (by omega) (by omega), if_pos (by omega), if_pos (by omega), if_pos (by omega), toNat_add, Int.toNat_natCast, seg_eq, if_neg (show ¬ ((n + 1 : Nat) : Int) = 0 by omega), if_pos (show out.length < 17592186044416 by omega), wz (n := ((n + 1 : Nat) : Int) - 1) (by omega) (by omega), show (a : Int) + ((n + 1 : Nat) : Int) = ((a + (n + 1) : Nat) : Int) from by omega, show ((n + 1 : Nat) : Int) - 1 = (n : Int) from by omega]
    · have hgk : goesS W Th Tk (ws.drop a) (n + 1) = decide (kindN W Th Tk ((ws.drop a).take (n + 1)) = 2) := by
        by_cases hz : n + 1 < (ws.drop a).length
        · exact goes_lt hz
        · have e : n + 1 = (ws.drop a).length := by simp at hz ⊢; omega
          rw [e, hk0, List.take_length]
          rw [goes_all] at hk0
          symm; rw [decide_eq_false_iff_not] at hk0 ⊢; omega
      by_cases hg : kindN W Th Tk ((ws.drop a).take (n + 1)) = 2
      · simp only [if_pos hg]
        exact next n (by rw [hm, most, if_pos (by rw [hgk]; exact decide_eq_true hg)])
      · simp only [if_neg hg]
        exact implGr_l1 a ha hk0 out ho R no next n (by omega) (by rw [hm, most, if_neg (by rw [hgk, decide_eq_false hg]; simp)])
theorem implGr_l0 : ∀ (f a : Nat) (out : List Int), ws.length - a ≤ f → a ≤ ws.length → out.length ≤ a → Ev (fun k => impl_GreedyBreaking.l0 k ws out a W Th Tk) (grR (grd W Th Tk f (ws.drop a)) out) := by
  have hlen := h.len
  intro f
  induction f with
  | zero =>
    intro a out hf ha ho
    rw [List.drop_of_length_le (by omega), grd_nil]
    exact Ev.step (f := fun _ => some (out, true)) (fun k => by simp only [impl_GreedyBreaking.l0]; rw [if_neg (by omega)]) (by simpa [grR] using Ev.now _)
  | succ f ih =>
    intro a out hf ha ho
    by_cases hlt : a < ws.length
    · have hne : ws.drop a ≠ [] := by intro e; have := congrArg List.length e; simp at this; omega
      have hs : Sk (ws.drop a) := by have := h.seg a (ws.length - a) (by omega) (by omega); rwa [List.take_of_length_le (by simp)] at this
      rw [grd_succ W Th Tk f hne]
      refine Ev.step (f := fun k => (impl_kindOf.f k W Th Tk (ws.drop a)).bind fun t => if t > 0 then some (out ++ [((ws.length - a : Nat) : Int)], true) else impl_GreedyBreaking.l1 k ws out a ((ws.length - a : Nat) : Int) W Th Tk) (fun k => ?_) (Ev.bind (implKind_ev hs m) ?_)
      · simp only [impl_GreedyBreaking.l0]; rw [if_pos (by omega), if_pos (by omega), if_pos (by omega), if_pos (show out.length < 17592186044416 by omega), wz (n := (ws.length : Int) - a) (by omega) (by omega), Int.toNat_natCast, show (ws.length : Int) - a = ((ws.length - a : Nat) : Int) from by omega]
      · have hga := goes_all (W := W) (Th := Th) (Tk := Tk) (s := ws.drop a)
        obtain ⟨z, hz⟩ : ∃ z, (ws.drop a).length = z + 1 := ⟨ws.length - a - 1, by simp; omega⟩
        by_cases hk : kindN W Th Tk (ws.drop a) > 0
        · simp only [if_pos hk]
          have hmo : most W Th Tk (ws.drop a) (ws.drop a).length = (ws.drop a).length := by
            rw [hz, most, if_pos (by rw [← hz, hga]; exact decide_eq_true hk)]
          rw [hmo, if_neg (by omega), List.drop_length, grd_nil]
          rw [show (((ws.drop a).length : Nat) : Int) = ((ws.length - a : Nat) : Int) from by simp]
          exact Ev.now _
        · simp only [if_neg hk]
          refine implGr_l1 m h a hlt (by rw [hga]; exact decide_eq_false hk) out (by omega) _ (fun h0 => by rw [if_pos h0]; rfl) (fun n hn => ?_) (ws.length - a) (Nat.le_refl _) (by simp)
          have hle := most_le W Th Tk (ws.drop a) (ws.drop a).length
          rw [hn, List.length_drop] at hle
          rw [hn, if_neg (by omega), List.drop_drop]
          have := ih (a + (n + 1)) (out ++ [((n + 1 : Nat) : Int)]) (by omega) (by omega) (by simp; omega)
          cases hgr : grd W Th Tk f (ws.drop (a + (n + 1))) with
          | none => rw [hgr] at this; exact this
          | some l => rw [hgr] at this; simpa [grR] using this
    · have := ih a out (by omega) ha ho
      rw [List.drop_of_length_le (by omega), grd_nil] at this ⊢; exact this
end
def grN (W Th Tk : Int) (ws : List Int) : List Int × Bool := if bothB W Th Tk ws = true then grR (grd W Th Tk ws.length ws) [] else ([], false)
theorem grN_len (W Th Tk : Int) (ws : List Int) : (grN W Th Tk ws).1.length ≤ ws.length := by
  unfold grN; split
  · cases hg : grd W Th Tk ws.length ws with
    | none => simp [grR]
    | some l => simpa [grR] using grd_len W Th Tk ws.length ws l (Nat.le_refl _) hg
  · simp
theorem specGr_ev (W Th Tk : Int) (ws : List Int) (hl : ws.length ≤ 4611686018427387904) : Ev (fun k => spec_GreedyBreaking.f k W Th Tk ws) (grN W Th Tk ws) := by
  unfold spec_GreedyBreaking.f grN
  refine Ev.bind (specOk_ev W Th Tk ws hl) ?_
  cases hb : bothB W Th Tk ws with
  | false => simp only [Bool.false_eq_true, if_false]; exact Ev.now _
  | true =>
    obtain ⟨m, h⟩ := bothB_iff hb
    simp only [if_true]
    have := specGr_l0 m h ws.length 0 [] (by omega) (by omega) (by simp)
    simpa using this
theorem implGr_ev (W Th Tk : Int) (ws : List Int) : Ev (fun k => impl_GreedyBreaking.f k W Th Tk ws) (grN W Th Tk ws) := by
  unfold impl_GreedyBreaking.f grN
  rw [implBoth_eq]
  simp only [Option.bind_some]
  cases hb : bothB W Th Tk ws with
  | false => simp only [Bool.false_eq_true, if_false]; exact Ev.now _
  | true =>
    obtain ⟨m, h⟩ := bothB_iff hb
    simp only [if_true]
    have := implGr_l0 m h ws.length 0 [] (by omega) (by omega) (by simp)
    simpa using this
end Go.Proofs.Ytnbmlblcmjaclaa.Pure
