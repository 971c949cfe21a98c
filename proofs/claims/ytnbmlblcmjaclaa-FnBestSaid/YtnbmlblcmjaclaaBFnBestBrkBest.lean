/- Plain laws on the first one of the breakings with the least cost: as a list's first least member, and word by word from the end. Conditions: a measure and a text. -/
import Derived.Test.YtnbmlblcmjaclaaPFnBest0
import Derived.Test.YtnbmlblcmjaclaaBFnBestBase
import Derived.Test.YtnbmlblcmjaclaaBFnBestKinds
import Derived.Test.YtnbmlblcmjaclaaBFnBestBrk
import Derived.Test.YtnbmlblcmjaclaaBFnBestBrkI
import Derived.Test.YtnbmlblcmjaclaaBFnBestBrkAt
import Derived.Test.YtnbmlblcmjaclaaBFnBestBrkIx
import Derived.Test.YtnbmlblcmjaclaaBFnBestBrkIxI
import Derived.Test.YtnbmlblcmjaclaaBFnBestBrkMem
import Derived.Test.YtnbmlblcmjaclaaBFnBestBrkCost
namespace Go.Proofs.Ytnbmlblcmjaclaa.Pure
open Go.RowKit Go.Proofs.Ytnbmlblcmjaclaa.PFnBest Go.Proofs.YtnbmlblcmjaclaaW.PrintWords Go.Proofs.YtnbmlblcmjaclaaW.PrintLast Go.Proofs.YtnbmlblcmjaclaaW.PrintMore
set_option linter.unusedSectionVars false
set_option linter.unusedVariables false
set_option linter.unusedSimpArgs false
abbrev CL := Int × List Nat
/-- The better one of what is known and something new: the new one only where it costs less. -/
def cmb (acc : Option CL) (b : CL) : Option CL := match acc with
  | none => some b
  | some a => if b.1 < a.1 then some b else some a
def fm (cf : List Nat → Int) (L : List (List Nat)) : Option CL := L.foldl (fun acc l => cmb acc (cf l, l)) none
theorem fm_from (cf : List Nat → Int) : ∀ (L : List (List Nat)) (acc : Option CL), L.foldl (fun acc l => cmb acc (cf l, l)) acc = match fm cf L with | none => acc | some b => cmb acc b
  | [], acc => rfl
  | x :: t, acc => by
    unfold fm
    rw [List.foldl_cons, List.foldl_cons, fm_from cf t (cmb acc (cf x, x)), fm_from cf t (cmb none (cf x, x))]
    cases fm cf t with
    | none => rfl
    | some b =>
      cases acc with
      | none => simp only [cmb]; split <;> rfl
      | some a =>
        simp only [cmb]
        by_cases h1 : cf x < a.1
        · rw [if_pos h1]
          by_cases h2 : b.1 < cf x
          · simp only [if_pos h2]; rw [if_pos (by omega)]
          · simp only [if_neg h2, if_pos h1]
        · rw [if_neg h1]
          by_cases h2 : b.1 < cf x
          · simp only [if_pos h2]
          · simp only [if_neg h2]; rw [if_neg (by omega), if_neg h1]
theorem fm_append (cf : List Nat → Int) (L M : List (List Nat)) : fm cf (L ++ M) = match fm cf M with | none => fm cf L | some b => cmb (fm cf L) b := by
  have := fm_from cf M (fm cf L)
  unfold fm at this ⊢
  rw [List.foldl_append]; exact this
theorem fm_map (cf cf' : List Nat → Int) (k : Int) (n : Nat) : ∀ (L : List (List Nat)), (∀ l ∈ L, cf (n :: l) = k + cf' l) → fm cf (L.map (fun l => n :: l)) = (fm cf' L).map fun b => (k + b.1, n :: b.2) := by
  intro L h
  have key : ∀ (L : List (List Nat)) (acc : Option CL), (∀ l ∈ L, cf (n :: l) = k + cf' l) → (L.map (fun l => n :: l)).foldl (fun acc l => cmb acc (cf l, l)) (acc.map fun b => (k + b.1, n :: b.2)) = (L.foldl (fun acc l => cmb acc (cf' l, l)) acc).map fun b => (k + b.1, n :: b.2) := by
    intro L
    induction L with
    | nil => intro acc _; rfl
    | cons x t ih =>
      intro acc h
      rw [List.map_cons, List.foldl_cons, List.foldl_cons, ← ih _ (fun l hl => h l (List.mem_cons_of_mem _ hl))]
      congr 1
      rw [h x (List.mem_cons_self ..)]
      cases acc with
      | none => rfl
      | some a =>
        simp only [cmb, Option.map_some]
        by_cases h1 : cf' x < a.1
        · rw [if_pos h1, if_pos (by omega)]; rfl
        · rw [if_neg h1, if_neg (by omega)]; rfl
  exact key L none h
/-- What the first least member of a list is. -/
theorem fm_least (cf : List Nat → Int) : ∀ (L : List (List Nat)) (b : CL), fm cf L = some b → ∃ i : Nat, L[i]? = some b.2 ∧ cf b.2 = b.1 ∧ (∀ (j : Nat) (l : List Nat), L[j]? = some l → b.1 ≤ cf l ∧ (j < i → b.1 < cf l))
  | [], b, h => by simp [fm] at h
  | x :: t, b, h => by
    have e : fm cf (x :: t) = match fm cf t with | none => some (cf x, x) | some b => cmb (some (cf x, x)) b := fm_from cf t (some (cf x, x))
    rw [e] at h
    cases ht : fm cf t with
    | none =>
      rw [ht] at h
      obtain rfl := Option.some.inj h
      have : t = [] := by
        cases t with
        | nil => rfl
        | cons y u =>
          have e2 : fm cf (y :: u) = match fm cf u with | none => some (cf y, y) | some b => cmb (some (cf y, y)) b := fm_from cf u (some (cf y, y))
          rw [e2] at ht
          cases hu : fm cf u with
          | none => rw [hu] at ht; cases ht
          | some b => rw [hu] at ht; simp only [cmb] at ht; split at ht <;> cases ht
      subst this
      refine ⟨0, rfl, rfl, fun j l hj => ?_⟩
      cases j with
      | zero => simp at hj; subst hj; exact ⟨Int.le_refl _, fun h => by omega⟩
      | succ j => simp at hj
    | some b' =>
      rw [ht] at h
      obtain ⟨i, h1, h2, h3⟩ := fm_least cf t b' ht
      simp only [cmb] at h
      by_cases hlt : b'.1 < cf x
      · rw [if_pos hlt] at h
        obtain rfl := Option.some.inj h
        refine ⟨i + 1, by simpa using h1, h2, fun j l hj => ?_⟩
        cases j with
        | zero => simp at hj; subst hj; exact ⟨by omega, fun _ => hlt⟩
        | succ j => have := h3 j l (by simpa using hj); exact ⟨this.1, fun hh => this.2 (by omega)⟩
      · rw [if_neg hlt] at h
        obtain rfl := Option.some.inj h
        refine ⟨0, rfl, rfl, fun j l hj => ?_⟩
        cases j with
        | zero => simp at hj; subst hj; exact ⟨Int.le_refl _, fun h => by omega⟩
        | succ j => have := h3 j l (by simpa using hj); exact ⟨by show cf x ≤ cf l; omega, fun hh => by omega⟩
theorem fm_none (cf : List Nat → Int) (L : List (List Nat)) : fm cf L = none ↔ L = [] := by
  constructor
  · intro h
    cases L with
    | nil => rfl
    | cons x t =>
      have e : fm cf (x :: t) = match fm cf t with | none => some (cf x, x) | some b => cmb (some (cf x, x)) b := fm_from cf t (some (cf x, x))
      rw [e] at h
      cases ht : fm cf t with
      | none => rw [ht] at h; cases h
      | some b => rw [ht] at h; simp only [cmb] at h; split at h <;> cases h
  · rintro rfl; rfl
section
variable (W Th Tk : Int)
/-- The first one of the breakings with the least cost, with this cost. -/
def bst (s : List Int) : Option CL := fm (fun l => costN W Th Tk s (ints l)) (brk W Th Tk s)
/-- The same of those that begin with at most n words in their first line. -/
def bsp (s : List Int) (n : Nat) : Option CL := fm (fun l => costN W Th Tk s (ints l)) (pre W Th Tk s n)
/-- What a first line of so many words costs. -/
def lineC (s : List Int) (n : Nat) : Int := if n = s.length then 0 else riseN W Th Tk (s.take n) * riseN W Th Tk (s.take n)
theorem bst_bsp {s : List Int} (h : s ≠ []) : bst W Th Tk s = bsp W Th Tk s s.length := by unfold bst bsp; rw [brk_pre h]
theorem bst_nil : bst W Th Tk [] = some (0, []) := by unfold bst; rw [brk_nil]; rfl
theorem cost_cons {s : List Int} {n : Nat} {l : List Nat} (hn : n ≤ s.length) (hl : l ∈ brk W Th Tk (s.drop n)) : costN W Th Tk s (ints (n :: l)) = lineC W Th Tk s n + costN W Th Tk (s.drop n) (ints l) := by
  have hb := brk_isB (s.drop n).length (s.drop n) l (Nat.le_refl _) hl
  unfold lineC
  cases l with
  | nil =>
    simp only [ints, List.map_nil, isB, decide_eq_true_eq, List.length_drop] at hb
    rw [if_pos (by omega)]; rfl
  | cons k t =>
    have : n ≠ s.length := by
      rintro rfl
      rw [List.drop_length, brk_nil] at hl; simp at hl
    rw [if_neg this]
    show costN W Th Tk s ((n : Int) :: (k : Int) :: ints t) = _
    rw [costN, Int.toNat_natCast]; rfl
/-- One more number of words in the first line. -/
theorem bsp_succ (s : List Int) (n : Nat) (hn : n < s.length) : bsp W Th Tk s (n + 1) = if goesS W Th Tk s (n + 1) = true then (match bst W Th Tk (s.drop (n + 1)) with | none => bsp W Th Tk s n | some b => cmb (bsp W Th Tk s n) (lineC W Th Tk s (n + 1) + b.1, (n + 1) :: b.2)) else bsp W Th Tk s n := by
  unfold bsp
  rw [pre_succ, fm_append]
  by_cases hg : goesS W Th Tk s (n + 1) = true
  · rw [if_pos hg, if_pos hg, fm_map (fun l => costN W Th Tk s (ints l)) (fun l => costN W Th Tk (s.drop (n + 1)) (ints l)) (lineC W Th Tk s (n + 1)) (n + 1) _ (fun l hl => cost_cons W Th Tk (by omega) hl)]
    rw [show fm (fun l => costN W Th Tk (s.drop (n + 1)) (ints l)) (brk W Th Tk (s.drop (n + 1))) = bst W Th Tk (s.drop (n + 1)) from rfl]
    cases bst W Th Tk (s.drop (n + 1)) <;> rfl
  · rw [if_neg hg, if_neg hg]; rfl
theorem bst_none (s : List Int) : bst W Th Tk s = none ↔ wy W Th Tk s = 0 := by
  unfold bst
  rw [fm_none]; unfold wy
  constructor
  · intro h; rw [h]; rfl
  · intro h; exact List.eq_nil_of_length_eq_zero (by omega)
/-- A best breaking's first line, and that the rest is the best one of the rest. -/
theorem bsp_form (s : List Int) : ∀ (n : Nat) (b : CL), n ≤ s.length → bsp W Th Tk s n = some b → ∃ q l c, b = (lineC W Th Tk s (q + 1) + c, (q + 1) :: l) ∧ q < n ∧ goesS W Th Tk s (q + 1) = true ∧ bst W Th Tk (s.drop (q + 1)) = some (c, l)
  | 0, b, _, h => by simp [bsp, pre, fm] at h
  | n + 1, b, hn, h => by
    rw [bsp_succ W Th Tk s n (by omega)] at h
    have old : ∀ b, bsp W Th Tk s n = some b → ∃ q l c, b = (lineC W Th Tk s (q + 1) + c, (q + 1) :: l) ∧ q < n + 1 ∧ goesS W Th Tk s (q + 1) = true ∧ bst W Th Tk (s.drop (q + 1)) = some (c, l) := by
      intro b hb
      obtain ⟨q, l, c, e, hq, hg, hs⟩ := bsp_form s n b (by omega) hb
      exact ⟨q, l, c, e, by omega, hg, hs⟩
    split at h
    · rename_i hg
      cases hs : bst W Th Tk (s.drop (n + 1)) with
      | none => rw [hs] at h; exact old b h
      | some b' =>
        rw [hs] at h
        cases hp : bsp W Th Tk s n with
        | none =>
          rw [hp] at h
          obtain rfl := Option.some.inj h
          exact ⟨n, b'.2, b'.1, rfl, by omega, hg, hs⟩
        | some a =>
          rw [hp] at h
          simp only [cmb] at h
          split at h
          · obtain rfl := Option.some.inj h
            exact ⟨n, b'.2, b'.1, rfl, by omega, hg, hs⟩
          · obtain rfl := Option.some.inj h
            exact old _ hp
    · exact old b h
end
section
variable {W Th Tk : Int} (m : MOk W Th Tk)
include m
theorem lineC_bd {s : List Int} (h : Sk s) {n : Nat} (hn : 1 ≤ n) (hl : n ≤ s.length) (hg : goesS W Th Tk s n = true) : 0 ≤ lineC W Th Tk s n ∧ lineC W Th Tk s n ≤ 9801 := by
  unfold lineC
  split
  · omega
  · have hs := h.seg 0 n hn (by omega)
    rw [List.drop_zero] at hs
    have hr := riseN_bd m hs (kindN_rest (kindN_of_goes hg))
    exact sq_bd hr.1 hr.2
theorem sk_drop {s : List Int} (h : Sk s) {a : Nat} (ha : a < s.length) : Sk (s.drop a) := by have := h.seg a (s.length - a) (by omega) (by omega); rwa [List.take_of_length_le (by simp)] at this
theorem bst_bd : ∀ (d : Nat) (s : List Int) (b : CL), s.length ≤ d → (s = [] ∨ Sk s) → bst W Th Tk s = some b → 0 ≤ b.1 ∧ b.1 ≤ 9801 * s.length
  | d, s, b, hd, hs, h => by
    by_cases h0 : s = []
    · subst h0
      rw [bst_nil] at h
      obtain rfl := Option.some.inj h
      exact ⟨by simp, by simp⟩
    · cases d with
      | zero => exact absurd (List.eq_nil_of_length_eq_zero (by omega)) h0
      | succ d =>
        have hsk : Sk s := hs.resolve_left h0
        rw [bst_bsp W Th Tk h0] at h
        obtain ⟨q, l, c, rfl, hq, hg, hb⟩ := bsp_form W Th Tk s s.length b (Nat.le_refl _) h
        have h1 := bst_bd d (s.drop (q + 1)) (c, l) (by simp; omega) (by
          by_cases he : q + 1 < s.length
          · exact .inr (sk_drop m hsk he)
          · exact .inl (List.drop_of_length_le (by omega))) hb
        have h2 := lineC_bd m hsk (n := q + 1) (by omega) (by omega) hg
        rw [List.length_drop] at h1
        simp only at h1 ⊢
        omega
theorem bsp_bd {s : List Int} (hsk : Sk s) {n : Nat} (hn : n ≤ s.length) {b : CL} (h : bsp W Th Tk s n = some b) : 0 ≤ b.1 ∧ b.1 ≤ 392040 := by
  obtain ⟨q, l, c, rfl, hq, hg, hb⟩ := bsp_form W Th Tk s n b hn h
  have hlen := hsk.len
  have h1 := bst_bd m (s.drop (q + 1)).length (s.drop (q + 1)) (c, l) (Nat.le_refl _) (by
    by_cases he : q + 1 < s.length
    · exact .inr (sk_drop m hsk he)
    · exact .inl (List.drop_of_length_le (by omega))) hb
  have h2 := lineC_bd m hsk (n := q + 1) (by omega) (by omega) hg
  rw [List.length_drop] at h1
  simp only at h1 ⊢
  omega
end
end Go.Proofs.Ytnbmlblcmjaclaa.Pure
