/- Plain laws on the breakings of a text: the list of all of them, in their order, and their numbers from each word on, as the program and as the reference compute them. Conditions: a measure and a text. -/
import Derived.Test.YtnbmlblcmjaclaaPFnBest9
import Derived.Test.YtnbmlblcmjaclaaBFnBestBase
import Derived.Test.YtnbmlblcmjaclaaBFnBestKinds
namespace Go.Proofs.Ytnbmlblcmjaclaa.Pure
open Go.RowKit Go.Proofs.Ytnbmlblcmjaclaa.PFnBest Go.Proofs.YtnbmlblcmjaclaaW.PrintWords Go.Proofs.YtnbmlblcmjaclaaW.PrintLast Go.Proofs.YtnbmlblcmjaclaaW.PrintMore
set_option linter.unusedSectionVars false
set_option linter.unusedVariables false
set_option linter.unusedSimpArgs false

/-- The first n words can be a line. -/
def goesS (W Th Tk : Int) (s : List Int) (n : Nat) : Bool := decide (kindN W Th Tk (s.take n) = 2 ∨ (kindN W Th Tk (s.take n) = 1 ∧ n = s.length))
/-- All breakings, in their order. -/
def brk (W Th Tk : Int) (s : List Int) : List (List Nat) :=
  if h : s = [] then [[]] else (List.range s.length).flatMap fun j => if goesS W Th Tk s (j + 1) = true then (brk W Th Tk (s.drop (j + 1))).map (fun l => (j + 1) :: l) else []
termination_by s.length
decreasing_by
  have : 0 < s.length := List.length_pos_iff.2 h
  simp; omega
def wy (W Th Tk : Int) (s : List Int) : Int := (brk W Th Tk s).length
/-- How many breakings begin with at most n words in their first line. -/
def psum (W Th Tk : Int) (s : List Int) : Nat → Int
  | 0 => 0
  | n + 1 => psum W Th Tk s n + if goesS W Th Tk s (n + 1) = true then wy W Th Tk (s.drop (n + 1)) else 0
section
variable {W Th Tk : Int}
def pre (W Th Tk : Int) (s : List Int) (n : Nat) : List (List Nat) := (List.range n).flatMap fun j => if goesS W Th Tk s (j + 1) = true then (brk W Th Tk (s.drop (j + 1))).map (fun l => (j + 1) :: l) else []
theorem brk_nil : brk W Th Tk [] = [[]] := by rw [brk]; simp
theorem brk_pre {s : List Int} (h : s ≠ []) : brk W Th Tk s = pre W Th Tk s s.length := by rw [brk, dif_neg h]; rfl
theorem pre_succ (s : List Int) (n : Nat) : pre W Th Tk s (n + 1) = pre W Th Tk s n ++ if goesS W Th Tk s (n + 1) = true then (brk W Th Tk (s.drop (n + 1))).map (fun l => (n + 1) :: l) else [] := by
  unfold pre; rw [List.range_succ, List.flatMap_append]; simp
theorem pre_length (s : List Int) : ∀ n, ((pre W Th Tk s n).length : Int) = psum W Th Tk s n
  | 0 => rfl
  | n + 1 => by
    rw [pre_succ, List.length_append, psum, ← pre_length s n]
    split <;> simp [wy]
theorem wy_nil : wy W Th Tk [] = 1 := by unfold wy; rw [brk_nil]; rfl
theorem wy_psum {s : List Int} (h : s ≠ []) : wy W Th Tk s = psum W Th Tk s s.length := by unfold wy; rw [brk_pre h, pre_length]
theorem wy_nonneg (s : List Int) : 0 ≤ wy W Th Tk s := by unfold wy; omega
theorem psum_mono (s : List Int) (n : Nat) : psum W Th Tk s n ≤ psum W Th Tk s (n + 1) := by
  rw [psum]; have := wy_nonneg (W := W) (Th := Th) (Tk := Tk) (s.drop (n + 1)); split <;> omega
theorem psum_le (s : List Int) (n : Nat) : ∀ m, psum W Th Tk s n ≤ psum W Th Tk s (n + m)
  | 0 => Int.le_refl _
  | m + 1 => Int.le_trans (psum_le s n m) (psum_mono s (n + m))
theorem psum_nonneg (s : List Int) (n : Nat) : 0 ≤ psum W Th Tk s n := by have := psum_le (W := W) (Th := Th) (Tk := Tk) s 0 n; simpa [psum] using this
theorem wy_bd : ∀ (d : Nat) (s : List Int), s.length ≤ d → wy W Th Tk s ≤ 2 ^ s.length
  | 0, s, h => by
    obtain rfl : s = [] := List.eq_nil_of_length_eq_zero (by omega)
    rw [wy_nil]; simp
  | d + 1, s, h => by
    by_cases h0 : s = []
    · subst h0; rw [wy_nil]; simp
    have hp : ∀ n, n ≤ s.length → psum W Th Tk s n + 2 ^ (s.length - n) ≤ 2 ^ s.length := by
      intro n
      induction n with
      | zero => intro _; simp [psum]
      | succ n ih =>
        intro hn
        have h1 := ih (by omega)
        rw [psum]
        have h2 := wy_bd d (s.drop (n + 1)) (by simp; omega)
        rw [List.length_drop] at h2
        have h3 : (2 : Int) ^ (s.length - n) = 2 * 2 ^ (s.length - (n + 1)) := by
          rw [show s.length - n = (s.length - (n + 1)) + 1 from by omega, Int.pow_succ]; omega
        have h4 : (0 : Int) ≤ 2 ^ (s.length - (n + 1)) := Int.le_of_lt (Int.pow_pos (by omega))
        split <;> omega
    have := hp s.length (Nat.le_refl _)
    rw [wy_psum h0]
    have h4 : (0 : Int) ≤ 2 ^ (s.length - s.length) := Int.le_of_lt (Int.pow_pos (by omega))
    omega
theorem pow40 {n : Nat} (h : n ≤ 40) : (2 : Int) ^ n ≤ 1099511627776 := by
  have h1 : (2 : Int) ^ 40 = 2 ^ n * 2 ^ (40 - n) := by rw [← Int.pow_add]; congr 1; omega
  have h2 : (1 : Int) ≤ 2 ^ (40 - n) := Int.pow_pos (by omega)
  have h3 : (0 : Int) < 2 ^ n := Int.pow_pos (by omega)
  have h4 : (2 : Int) ^ n * 1 ≤ 2 ^ n * 2 ^ (40 - n) := Int.mul_le_mul_of_nonneg_left h2 (by omega)
  have h5 : (2 : Int) ^ 40 = 1099511627776 := by decide
  omega
theorem wy_40 {s : List Int} (h : s.length ≤ 40) : wy W Th Tk s ≤ 1099511627776 := Int.le_trans (wy_bd s.length s (Nat.le_refl _)) (pow40 h)
theorem psum_40 {s : List Int} (h : s.length ≤ 40) {n : Nat} (hn : n ≤ s.length) : psum W Th Tk s n ≤ 1099511627776 := by
  by_cases h0 : s = []
  · subst h0; simp only [List.length_nil, Nat.le_zero] at hn; subst hn; simp [psum]
  · have h1 := psum_le (W := W) (Th := Th) (Tk := Tk) s n (s.length - n)
    rw [show n + (s.length - n) = s.length from by omega, ← wy_psum h0] at h1
    exact Int.le_trans h1 (wy_40 h)
end
theorem seg_eq (ws : List Int) (i n : Nat) : (ws.take (i + n)).drop i = (ws.drop i).take n := by rw [List.drop_take]; congr 1; omega
theorem toNat_add (i n : Nat) : ((i : Int) + (n : Int)).toNat = i + n := by omega
theorem Sk.seg {ws : List Int} (h : Sk ws) (i n : Nat) (hn : 1 ≤ n) (hi : i + n ≤ ws.length) : Sk ((ws.drop i).take n) := by rw [← seg_eq]; exact h.cut i (i + n) (by omega) hi
theorem replicate_getD (n j : Nat) : (List.replicate n (0 : Int)).getD j 0 = 0 := by
  rw [List.getD_eq_getElem?_getD, List.getElem?_replicate]; split <;> rfl
section
variable {W Th Tk : Int} {ws : List Int} (m : MOk W Th Tk) (h : Sk ws)
include m h
theorem goes_ev (i n : Nat) (hn : 1 ≤ n) (hi : i + n ≤ ws.length) : Ev (fun k => spec_l4Goes.f k W Th Tk ws i n) (goesS W Th Tk (ws.drop i) n) := by
  have := h.len
  unfold spec_l4Goes.f
  rw [wz (by omega) (by omega)]
  simp only [if_pos (show (0 : Int) ≤ i by omega), if_pos (show (i : Int) ≤ (i : Int) + n by omega), if_pos (show (i : Int) + n ≤ (ws.length : Int) by omega), toNat_add, Int.toNat_natCast, seg_eq]
  refine Ev.bind (specKind_ev (h.seg i n hn hi) m) ?_
  unfold goesS
  rcases kindN_cases W Th Tk ((ws.drop i).take n) with hk | hk | hk
  · rw [hk]; simpa using Ev.now _
  · rw [hk]
    have e : ((i : Int) + (n : Int) == (ws.length : Int)) = decide ((1 : Int) = 2 ∨ (1 : Int) = 1 ∧ n = (ws.drop i).length) := by
      rw [List.length_drop]; by_cases he : i + n = ws.length
      · rw [decide_eq_true (by omega)]; simp; omega
      · rw [decide_eq_false (by omega)]; simp; omega
    rw [← e]; simpa using Ev.now _
  · rw [hk]; simpa using Ev.now _
end
/-- The numbers of breakings from each word on. -/
def wyL (W Th Tk : Int) (ws : List Int) : List Int := (List.range (ws.length + 1)).map fun i => wy W Th Tk (ws.drop i)
theorem wyL_length (W Th Tk : Int) (ws : List Int) : (wyL W Th Tk ws).length = ws.length + 1 := by simp [wyL]
theorem wyL_get (W Th Tk : Int) (ws : List Int) (j : Nat) (h : j ≤ ws.length) : (wyL W Th Tk ws).getD j 0 = wy W Th Tk (ws.drop j) := by
  unfold wyL
  rw [List.getD_eq_getElem?_getD, List.getElem?_map, List.getElem?_range (by omega)]; rfl
section
variable {W Th Tk : Int} {ws : List Int} (m : MOk W Th Tk) (h : Sk ws)
include m h
theorem specWays_l1 (d : Nat) (hd : d < ws.length) (ih : ∀ l : List Int, l.length = ws.length + 1 → (∀ j, d ≤ j → j ≤ ws.length → l.getD j 0 = wy W Th Tk (ws.drop j)) → (∀ j, j < d → l.getD j 0 = 0) → Ev (fun k => spec_l4Ways.l0 k ws l ((d : Int) - 1) W Th Tk) (wyL W Th Tk ws)) :
    ∀ (r n : Nat) (l : List Int), n + 1 + r = ws.length - d + 1 → l.length = ws.length + 1 → (∀ j, d < j → j ≤ ws.length → l.getD j 0 = wy W Th Tk (ws.drop j)) → l.getD d 0 = psum W Th Tk (ws.drop d) n → (∀ j, j < d → l.getD j 0 = 0) →
      Ev (fun k => spec_l4Ways.l1 k ws l d ((n + 1 : Nat) : Int) W Th Tk) (wyL W Th Tk ws)
  | 0, n, l, hn, hl, h1, h2, h3 => by
    have := h.len
    refine Ev.step (f := fun k => spec_l4Ways.l0 k ws l ((d : Int) - 1) W Th Tk) (fun k => ?_) (ih l hl (fun j hj hj2 => ?_) h3)
    · simp only [spec_l4Ways.l1]; rw [wz (by omega) (by omega), if_neg (by omega), wz (by omega) (by omega)]
    · rcases Nat.lt_or_ge d j with hlt | hge
      · exact h1 j hlt hj2
      · obtain rfl : j = d := by omega
        rw [h2, wy_psum (by intro e; have := congrArg List.length e; simp at this; omega)]; congr 1; simp; omega
  | r + 1, n, l, hn, hl, h1, h2, h3 => by
    have hlen := h.len
    have hw0 := wy_nonneg (W := W) (Th := Th) (Tk := Tk) (ws.drop (d + (n + 1)))
    have hw1 := wy_40 (W := W) (Th := Th) (Tk := Tk) (s := ws.drop (d + (n + 1))) (by simp; omega)
    have hp0 := psum_nonneg (W := W) (Th := Th) (Tk := Tk) (ws.drop d) n
    have hp1 := psum_40 (W := W) (Th := Th) (Tk := Tk) (s := ws.drop d) (by simp; omega) (n := n) (by simp; omega)
    have hg := goes_ev m h d (n + 1) (by omega) (by omega)
    cases hgo : goesS W Th Tk (ws.drop d) (n + 1) with
    | true =>
      rw [hgo] at hg
      refine Ev.step (f := fun k => (spec_l4Goes.f k W Th Tk ws d ((n + 1 : Nat) : Int)).bind fun t => if t = true then spec_l4Ways.l1 k ws (l.set d (psum W Th Tk (ws.drop d) n + wy W Th Tk (ws.drop (d + (n + 1))))) d ((n + 1 + 1 : Nat) : Int) W Th Tk else spec_l4Ways.l1 k ws l d (wrap64 (((n + 1 : Nat) : Int) + 1)) W Th Tk) (fun k => ?_) ?_
      · simp only [spec_l4Ways.l1]
        rw [wz (n := (d : Int) + ((n + 1 : Nat) : Int)) (by omega) (by omega), if_pos (by omega), if_pos (show (0 : Int) ≤ d by omega), if_pos (show (d : Int) < (l.length : Int) by omega), if_pos (show (0 : Int) ≤ (d : Int) + ((n + 1 : Nat) : Int) by omega), if_pos (show (d : Int) + ((n + 1 : Nat) : Int) < (l.length : Int) by omega)]
        rw [rd_nat, h2, show (d : Int) + ((n + 1 : Nat) : Int) = ((d + (n + 1) : Nat) : Int) from by omega, rd_nat, h1 _ (by omega) (by omega), wz (n := psum W Th Tk (ws.drop d) n + _) (by omega) (by omega), Int.toNat_natCast, wz (n := ((n + 1 : Nat) : Int) + 1) (by omega) (by omega)]
        rfl
      · refine Ev.bind hg ?_
        simp only [if_true]
        refine specWays_l1 d hd ih r (n + 1) _ (by omega) (by simpa using hl) (fun j hj hj2 => ?_) ?_ (fun j hj => ?_)
        · rw [getD_set, if_neg (by omega)]; exact h1 j hj hj2
        · rw [getD_set, if_pos ⟨rfl, by omega⟩, psum, if_pos hgo, List.drop_drop]
        · rw [getD_set, if_neg (by omega)]; exact h3 j hj
    | false =>
      rw [hgo] at hg
      refine Ev.step (f := fun k => (spec_l4Goes.f k W Th Tk ws d ((n + 1 : Nat) : Int)).bind fun t => if t = true then spec_l4Ways.l1 k ws (l.set d (psum W Th Tk (ws.drop d) n + wy W Th Tk (ws.drop (d + (n + 1))))) d ((n + 1 + 1 : Nat) : Int) W Th Tk else spec_l4Ways.l1 k ws l d ((n + 1 + 1 : Nat) : Int) W Th Tk) (fun k => ?_) ?_
      · simp only [spec_l4Ways.l1]
        rw [wz (n := (d : Int) + ((n + 1 : Nat) : Int)) (by omega) (by omega), if_pos (by omega), if_pos (show (0 : Int) ≤ d by omega), if_pos (show (d : Int) < (l.length : Int) by omega), if_pos (show (0 : Int) ≤ (d : Int) + ((n + 1 : Nat) : Int) by omega), if_pos (show (d : Int) + ((n + 1 : Nat) : Int) < (l.length : Int) by omega)]
        rw [rd_nat, h2, show (d : Int) + ((n + 1 : Nat) : Int) = ((d + (n + 1) : Nat) : Int) from by omega, rd_nat, h1 _ (by omega) (by omega), wz (n := psum W Th Tk (ws.drop d) n + _) (by omega) (by omega), Int.toNat_natCast, wz (n := ((n + 1 : Nat) : Int) + 1) (by omega) (by omega)]
        rfl
      · refine Ev.bind hg ?_
        simp only [Bool.false_eq_true, if_false]
        refine specWays_l1 d hd ih r (n + 1) l (by omega) hl h1 ?_ h3
        rw [h2, psum, if_neg (by rw [hgo]; simp)]; omega
theorem specWays_l0 : ∀ (d : Nat) (l : List Int), d ≤ ws.length → l.length = ws.length + 1 → (∀ j, d ≤ j → j ≤ ws.length → l.getD j 0 = wy W Th Tk (ws.drop j)) → (∀ j, j < d → l.getD j 0 = 0) →
    Ev (fun k => spec_l4Ways.l0 k ws l ((d : Int) - 1) W Th Tk) (wyL W Th Tk ws)
  | 0, l, hd, hl, h1, h3 => by
    obtain rfl : l = wyL W Th Tk ws := ext_getD (by rw [hl, wyL_length]) (fun j hj => by rw [h1 j (by omega) (by omega), wyL_get _ _ _ _ _ (by omega)])
    exact Ev.step (f := fun _ => some (wyL W Th Tk ws)) (fun k => by simp only [spec_l4Ways.l0]; rw [if_neg (by omega)]) (Ev.now _)
  | d + 1, l, hd, hl, h1, h3 => by
    refine Ev.step (f := fun k => spec_l4Ways.l1 k ws l d ((0 + 1 : Nat) : Int) W Th Tk) (fun k => ?_) ?_
    · simp only [spec_l4Ways.l0]; rw [if_pos (by omega), show ((d + 1 : Nat) : Int) - 1 = (d : Int) from by omega]; rfl
    · exact specWays_l1 m h d (by omega) (fun l hl h1 h3 => specWays_l0 d l (by omega) hl h1 h3) (ws.length - d) 0 l (by omega) hl (fun j hj hj2 => h1 j (by omega) hj2) (by rw [h3 d (by omega)]; rfl) (fun j hj => h3 j (by omega))
theorem specWays_ev : Ev (fun k => spec_l4Ways.f k W Th Tk ws) (wyL W Th Tk ws) := by
  have := h.len
  unfold spec_l4Ways.f
  rw [wz (n := (ws.length : Int) + 1) (by omega) (by omega), wz (n := (ws.length : Int) - 1) (by omega) (by omega), show ((ws.length : Int) + 1).toNat = ws.length + 1 from by omega]
  simp only [if_pos (show (0 : Int) ≤ (ws.length : Int) + 1 by omega), if_pos (show ws.length + 1 ≤ 35184372088832 by omega), Option.bind_some, List.length_replicate, if_pos (show (0 : Int) ≤ (ws.length : Int) by omega), if_pos (show (ws.length : Int) < ((ws.length + 1 : Nat) : Int) by omega), Int.toNat_natCast]
  refine specWays_l0 m h ws.length _ (Nat.le_refl _) (by simp) (fun j hj hj2 => ?_) (fun j hj => ?_)
  · obtain rfl : j = ws.length := by omega
    rw [getD_set, if_pos ⟨rfl, by simp⟩, List.drop_length, wy_nil]
  · rw [getD_set, if_neg (by omega)]; exact replicate_getD _ _
end
end Go.Proofs.Ytnbmlblcmjaclaa.Pure
