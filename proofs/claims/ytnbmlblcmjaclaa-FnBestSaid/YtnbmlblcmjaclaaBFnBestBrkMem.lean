/- Plain laws on the list of all breakings: what is in it is a breaking, each breaking stands in it where its number says. Conditions: none. -/
import Derived.Test.YtnbmlblcmjaclaaPFnBest0
import Derived.Test.YtnbmlblcmjaclaaBFnBestBase
import Derived.Test.YtnbmlblcmjaclaaBFnBestKinds
import Derived.Test.YtnbmlblcmjaclaaBFnBestBrk
import Derived.Test.YtnbmlblcmjaclaaBFnBestBrkI
import Derived.Test.YtnbmlblcmjaclaaBFnBestBrkAt
import Derived.Test.YtnbmlblcmjaclaaBFnBestBrkIx
import Derived.Test.YtnbmlblcmjaclaaBFnBestBrkIxI
namespace Go.Proofs.Ytnbmlblcmjaclaa.Pure
open Go.RowKit Go.Proofs.Ytnbmlblcmjaclaa.PFnBest Go.Proofs.YtnbmlblcmjaclaaW.PrintWords Go.Proofs.YtnbmlblcmjaclaaW.PrintLast Go.Proofs.YtnbmlblcmjaclaaW.PrintMore
set_option linter.unusedSectionVars false
set_option linter.unusedVariables false
set_option linter.unusedSimpArgs false
section
variable {W Th Tk : Int}
theorem brk_mem {s : List Int} {l : List Nat} (h0 : s ≠ []) (hl : l ∈ brk W Th Tk s) : ∃ n l', l = (n + 1) :: l' ∧ n < s.length ∧ goesS W Th Tk s (n + 1) = true ∧ l' ∈ brk W Th Tk (s.drop (n + 1)) := by
  rw [brk, dif_neg h0, List.mem_flatMap] at hl
  obtain ⟨n, hn, hl⟩ := hl
  split at hl
  · rename_i hg
    obtain ⟨l', hl', e⟩ := List.mem_map.1 hl
    exact ⟨n, l', e.symm, List.mem_range.1 hn, hg, hl'⟩
  · cases hl
theorem brk_isB : ∀ (d : Nat) (s : List Int) (l : List Nat), s.length ≤ d → l ∈ brk W Th Tk s → isB W Th Tk s (ints l) = true
  | d, s, l, hd, hl => by
    by_cases h0 : s = []
    · subst h0
      rw [brk_nil, List.mem_singleton] at hl
      subst hl; rfl
    · cases d with
      | zero => exact absurd (List.eq_nil_of_length_eq_zero (by omega)) h0
      | succ d =>
        obtain ⟨n, l', rfl, hn, hg, hl'⟩ := brk_mem h0 hl
        have ih := brk_isB d (s.drop (n + 1)) l' (by simp; omega) hl'
        show isB W Th Tk s (((n + 1 : Nat) : Int) :: ints l') = true
        rw [isB, Int.toNat_natCast, hg, ih]
        simp only [Bool.and_true, inr, decide_eq_true_eq]; omega
theorem atN_isB {s : List Int} {idx : Int} (h0 : 0 ≤ idx) (h : idx < wy W Th Tk s) : isB W Th Tk s (atN W Th Tk s idx) = true := by
  unfold wy at h
  have hb : idx.toNat < (brk W Th Tk s).length := by omega
  unfold atN
  rw [List.getElem?_eq_getElem hb]
  exact brk_isB s.length s _ (Nat.le_refl _) (List.getElem_mem hb)
theorem isB_ix : ∀ (lines s : List Int), isB W Th Tk s lines = true → 0 ≤ ixN W Th Tk s lines ∧ ixN W Th Tk s lines < wy W Th Tk s ∧ atN W Th Tk s (ixN W Th Tk s lines) = lines
  | [], s, h => by
    simp only [isB, decide_eq_true_eq] at h
    obtain rfl := List.eq_nil_of_length_eq_zero h
    rw [ixN, wy_nil]
    exact ⟨by omega, by omega, atN_nil _ rfl⟩
  | n :: t, s, h => by
    simp only [isB, inr, Bool.and_eq_true, decide_eq_true_eq] at h
    obtain ⟨⟨hn1, hn2⟩, hg, ht⟩ := h
    obtain ⟨i1, i2, i3⟩ := isB_ix t _ ht
    obtain ⟨q, hq⟩ : ∃ q : Nat, n.toNat = q + 1 := ⟨n.toNat - 1, by omega⟩
    rw [ixN]
    rw [hq] at hg i1 i2 i3 ⊢
    have hp := psum_nonneg (W := W) (Th := Th) (Tk := Tk) s q
    have h0 : s ≠ [] := by rintro rfl; simp at hn2; omega
    have hs : psum W Th Tk s (q + 1) = psum W Th Tk s q + wy W Th Tk (s.drop (q + 1)) := by rw [psum, if_pos hg]
    have hle := psum_le (W := W) (Th := Th) (Tk := Tk) s (q + 1) (s.length - (q + 1))
    rw [show q + 1 + (s.length - (q + 1)) = s.length from by omega, ← wy_psum h0] at hle
    rw [show q + 1 - 1 = q from rfl]
    refine ⟨by omega, by omega, ?_⟩
    rw [atN_cons (n := q) (by omega) hg (by omega) (by omega), show psum W Th Tk s q + ixN W Th Tk (s.drop (q + 1)) t - psum W Th Tk s q = ixN W Th Tk (s.drop (q + 1)) t from by omega, i3]
    congr 1; omega
theorem atN_ix : ∀ (d : Nat) (s : List Int) (idx : Int), s.length ≤ d → 0 ≤ idx → idx < wy W Th Tk s → ixN W Th Tk s (atN W Th Tk s idx) = idx
  | d, s, idx, hd, h1, h2 => by
    by_cases h0 : s = []
    · subst h0
      rw [wy_nil] at h2
      rw [atN_nil _ (by omega), ixN]; omega
    · cases d with
      | zero => exact absurd (List.eq_nil_of_length_eq_zero (by omega)) h0
      | succ d =>
        obtain ⟨n, hn, hg, g1, g2⟩ := pick h0 h1 h2
        rw [atN_cons hn hg g1 g2, ixN, Int.toNat_natCast]
        have g2' := g2
        rw [psum, if_pos hg] at g2'
        rw [atN_ix d (s.drop (n + 1)) (idx - psum W Th Tk s n) (by simp; omega) (by omega) (by omega), show n + 1 - 1 = n from rfl]; omega
theorem isB_sum : ∀ (lines s : List Int), isB W Th Tk s lines = true → lines.sum = s.length ∧ ∀ n ∈ lines, 1 ≤ n ∧ n ≤ s.length
  | [], s, h => by
    simp only [isB, decide_eq_true_eq] at h
    simp [h]
  | n :: t, s, h => by
    simp only [isB, inr, Bool.and_eq_true, decide_eq_true_eq] at h
    obtain ⟨⟨hn1, hn2⟩, hg, ht⟩ := h
    obtain ⟨i1, i2⟩ := isB_sum t _ ht
    rw [List.length_drop] at i1 i2
    refine ⟨by rw [List.sum_cons, i1]; omega, fun k hk => ?_⟩
    rcases List.mem_cons.1 hk with rfl | hk
    · omega
    · have := i2 k hk; omega
theorem atR_len (ws : List Int) (idx : Int) : (atR W Th Tk ws idx).1.length ≤ ws.length := by
  unfold atR; split
  · rename_i h; exact isB_len _ _ (atN_isB h.2.1 h.2.2)
  · simp
end
end Go.Proofs.Ytnbmlblcmjaclaa.Pure
