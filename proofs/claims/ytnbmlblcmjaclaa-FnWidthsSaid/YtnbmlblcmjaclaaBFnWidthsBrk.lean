/- Plain laws on the breakings of a text: the list of all of them, in their order, and their numbers from each word on, as the program and as the reference compute them. Conditions: a measure and a text. -/
import Derived.Test.YtnbmlblcmjaclaaPFnWidths0
import Derived.Test.YtnbmlblcmjaclaaBFnWidthsBase
import Derived.Test.YtnbmlblcmjaclaaBFnWidthsKinds
namespace Go.Proofs.Ytnbmlblcmjaclaa.Pure
open Go.RowKit Go.Proofs.Ytnbmlblcmjaclaa.PFnWidths Go.Proofs.YtnbmlblcmjaclaaW.PrintWords Go.Proofs.YtnbmlblcmjaclaaW.PrintLast Go.Proofs.YtnbmlblcmjaclaaW.PrintMore
set_option linter.unusedSectionVars false
set_option linter.unusedVariables false
set_option linter.unusedSimpArgs false

/-- The first n words can be a line. -/
def goesS (W Th Tk : Int) (s : List Int) (n : Nat) : Bool := decide (kindN W Th Tk (s.take n) = 2 ∨ (kindN W Th Tk (s.take n) = 1 ∧ n = s.length))
/-- All breakings, in their order. -/
def brk (W Th Tk : Int) (s : List Int) : List (List Nat) :=
  if h : s = [] then [[]] else (List.range s.length).flatMap fun j => if goesS W Th Tk s (j + 1) = true then (brk W Th Tk (s.drop (j + 1))).map (fun l => (j + 1) :: l) else []
termination_by s.length
decreasing_by
  have : 0 < s.length := List.length_pos_iff.2 h
  simp; omega
def wy (W Th Tk : Int) (s : List Int) : Int := (brk W Th Tk s).length
/-- How many breakings begin with at most n words in their first line. -/
def psum (W Th Tk : Int) (s : List Int) : Nat → Int
  | 0 => 0
  | n + 1 => psum W Th Tk s n + if goesS W Th Tk s (n + 1) = true then wy W Th Tk (s.drop (n + 1)) else 0
section
variable {W Th Tk : Int}
def pre (W Th Tk : Int) (s : List Int) (n : Nat) : List (List Nat) := (List.range n).flatMap fun j => if goesS W Th Tk s (j + 1) = true then (brk W Th Tk (s.drop (j + 1))).map (fun l => (j + 1) :: l) else []
theorem brk_nil : brk W Th Tk [] = [[]] := by rw [brk]; simp
theorem brk_pre {s : List Int} (h : s ≠ []) : brk W Th Tk s = pre W Th Tk s s.length := by rw [brk, dif_neg h]; rfl
theorem pre_succ (s : List Int) (n : Nat) : pre W Th Tk s (n + 1) = pre W Th Tk s n ++ if goesS W Th Tk s (n + 1) = true then (brk W Th Tk (s.drop (n + 1))).map (fun l => (n + 1) :: l) else [] := by
  unfold pre; rw [List.range_succ, List.flatMap_append]; simp
theorem pre_length (s : List Int) : ∀ n, ((pre W Th Tk s n).length : Int) = psum W Th Tk s n
  | 0 => rfl
  | n + 1 => by
    rw [pre_succ, List.length_append, psum, ← pre_length s n]
    split <;> simp [wy]
theorem wy_nil : wy W Th Tk [] = 1 := by unfold wy; rw [brk_nil]; rfl
theorem wy_psum {s : List Int} (h : s ≠ []) : wy W Th Tk s = psum W Th Tk s s.length := by unfold wy; rw [brk_pre h, pre_length]
theorem wy_nonneg (s : List Int) : 0 ≤ wy W Th Tk s := by unfold wy; omega
theorem psum_mono (s : List Int) (n : Nat) : psum W Th Tk s n ≤ psum W Th Tk s (n + 1) := by
  rw [psum]; have := wy_nonneg (W := W) (Th := Th) (Tk := Tk) (s.drop (n + 1)); split <;> omega
theorem psum_le (s : List Int) (n : Nat) : ∀ m, psum W Th Tk s n ≤ psum W Th Tk s (n + m)
  | 0 => Int.le_refl _
  | m + 1 => Int.le_trans (psum_le s n m) (psum_mono s (n + m))
theorem psum_nonneg (s : List Int) (n : Nat) : 0 ≤ psum W Th Tk s n := by have := psum_le (W := W) (Th := Th) (Tk := Tk) s 0 n; simpa [psum] using this
theorem wy_bd : ∀ (d : Nat) (s : List Int), s.length ≤ d → wy W Th Tk s ≤ 2 ^ s.length
  | 0, s, h => by
    obtain rfl : s = [] := List.eq_nil_of_length_eq_zero (by omega)
    rw [wy_nil]; simp
  | d + 1, s, h => by
    by_cases h0 : s = []
    · subst h0; rw [wy_nil]; simp
    have hp : ∀ n, n ≤ s.length → psum W Th Tk s n + 2 ^ (s.length - n) ≤ 2 ^ s.length := by
      intro n
      induction n with
      | zero => intro _; simp [psum]
      | succ n ih =>
        intro hn
        have h1 := ih (by omega)
        rw [psum]
        have h2 := wy_bd d (s.drop (n + 1)) (by simp; omega)
        rw [List.length_drop] at h2
        have h3 : (2 : Int) ^ (s.length - n) = 2 * 2 ^ (s.length - (n + 1)) := by
          rw [show s.length - n = (s.length - (n + 1)) + 1 from by omega, Int.pow_succ]; omega
        have h4 : (0 : Int) ≤ 2 ^ (s.length - (n + 1)) := Int.le_of_lt (Int.pow_pos (by omega))
        split <;> omega
    have := hp s.length (Nat.le_refl _)
    rw [wy_psum h0]
    have h4 : (0 : Int) ≤ 2 ^ (s.length - s.length) := Int.le_of_lt (Int.pow_pos (by omega))
    omega
theorem pow40 {n : Nat} (h : n ≤ 40) : (2 : Int) ^ n ≤ 1099511627776 := by
  have h1 : (2 : Int) ^ 40 = 2 ^ n * 2 ^ (40 - n) := by rw [← Int.pow_add]; congr 1; omega
  have h2 : (1 : Int) ≤ 2 ^ (40 - n) := Int.pow_pos (by omega)
  have h3 : (0 : Int) < 2 ^ n := Int.pow_pos (by omega)
  have h4 : (2 : Int) ^ n * 1 ≤ 2 ^ n * 2 ^ (40 - n) := Int.mul_le_mul_of_nonneg_left h2 (by omega)
  have h5 : (2 : Int) ^ 40 = 1099511627776 := by decide
  omega
theorem wy_40 {s : List Int} (h : s.length ≤ 40) : wy W Th Tk s ≤ 1099511627776 := Int.le_trans (wy_bd s.length s (Nat.le_refl _)) (pow40 h)
theorem psum_40 {s : List Int} (h : s.length ≤ 40) {n : Nat} (hn : n ≤ s.length) : psum W Th Tk s n ≤ 1099511627776 := by
  by_cases h0 : s = []
  · subst h0; simp only [List.length_nil, Nat.le_zero] at hn; subst hn; simp [psum]
  · have h1 := psum_le (W := W) (Th := Th) (Tk := Tk) s n (s.length - n)
    rw [show n + (s.length - n) = s.length from by omega, ← wy_psum h0] at h1
    exact Int.le_trans h1 (wy_40 h)
end
theorem seg_eq (ws : List Int) (i n : Nat) : (ws.take (i + n)).drop i = (ws.drop i).take n := by rw [List.drop_take]; congr 1; omega
theorem toNat_add (i n : Nat) : ((i : Int) + (n : Int)).toNat = i + n := by omega
theorem Sk.seg {ws : List Int} (h : Sk ws) (i n : Nat) (hn : 1 ≤ n) (hi : i + n ≤ ws.length) : Sk ((ws.drop i).take n) := by rw [← seg_eq]; exact h.cut i (i + n) (by omega) hi
theorem replicate_getD (n j : Nat) : (List.replicate n (0 : Int)).getD j 0 = 0 := by
  rw [List.getD_eq_getElem?_getD, List.getElem?_replicate]; split <;> rfl
/-- The numbers of breakings from each word on. -/
def wyL (W Th Tk : Int) (ws : List Int) : List Int := (List.range (ws.length + 1)).map fun i => wy W Th Tk (ws.drop i)
theorem wyL_length (W Th Tk : Int) (ws : List Int) : (wyL W Th Tk ws).length = ws.length + 1 := by simp [wyL]
theorem wyL_get (W Th Tk : Int) (ws : List Int) (j : Nat) (h : j ≤ ws.length) : (wyL W Th Tk ws).getD j 0 = wy W Th Tk (ws.drop j) := by
  unfold wyL
  rw [List.getD_eq_getElem?_getD, List.getElem?_map, List.getElem?_range (by omega)]; rfl
end Go.Proofs.Ytnbmlblcmjaclaa.Pure
