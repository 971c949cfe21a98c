/- What the functions of the law FnExactNewDesk answer, in plain Lean, with no program in sight. No condition but the bounds of lengths. -/
import Derived.Test.YtkinnkjgdephhaaK8
import Derived.Test.YtkinnkjgdephhaaPFnExactNewDesk
namespace Go.Tree
set_option linter.unusedVariables false

@[simp] theorem br_true {α : Type} (x y : α) : br true x y = x := rfl
@[simp] theorem br_false {α : Type} (x y : α) : br false x y = y := rfl
theorem br_ite {α : Type} (b : Bool) (x y : α) : br b x y = if b = true then x else y := by cases b <;> rfl
@[simp] theorem sumK_inl {X Y α : Type} (z : X) (f : X → α) (g : Y → α) : sumK (.inl z : X ⊕ Y) f g = f z := rfl
@[simp] theorem sumK_inr {X Y α : Type} (z : Y) (f : X → α) (g : Y → α) : sumK (.inr z : X ⊕ Y) f g = g z := rfl
theorem sumK_ite {X Y α : Type} (p : Prop) [Decidable p] (a b : X ⊕ Y) (f : X → α) (g : Y → α) : sumK (if p then a else b) f g = if p then sumK a f g else sumK b f g := by split <;> rfl
theorem ck_pos {α : Type} {p : Prop} [Decidable p] (h : p) (x : Option α) : ck p x = x := if_pos h
theorem w64_id {x : Int} (h1 : -9223372036854775808 ≤ x) (h2 : x ≤ 9223372036854775807) : w64 x = x := by
  simp only [w64, IntKind.wrap, IntKind.bits, IntKind.signed, Bool.true_and]
  by_cases h : x % 2 ^ 64 ≥ 2 ^ (64 - 1)
  · rw [if_pos (by simpa using h)]; omega
  · rw [if_neg (by simpa using h)]; omega
theorem w64_succ {i n : Nat} (h : i < n) (hn : n ≤ maxLen) : w64 ((i : Int) + 1) = ((i + 1 : Nat) : Int) := by
  unfold maxLen at hn
  rw [w64_id] <;> omega
theorem i64_range {n : Int} (h : I64 n) : -9223372036854775808 ≤ n ∧ n ≤ 9223372036854775807 := Go.bounds_i64 h

section
variable {X Z : Type} {s : X → Option (X ⊕ Z)}
theorem loop_step {x y : X} (h : s x = some (.inl y)) : loopC s x = loopC s y := by rw [loopC_eq, h]
theorem loop_out {x : X} {z : Z} (h : s x = some (.inr z)) : loopC s x = some z := by rw [loopC_eq, h]

/-- a counted loop that may leave early -/
theorem loop_findFrom (st : Nat → X) (n : Nat) (f : Nat → Option Z) (done : Z)
    (hs : ∀ i, i < n → s (st i) = some (match f i with | some z => .inr z | none => .inl (st (i + 1)))) (hd : s (st n) = some (.inr done)) : ∀ k i, i + k = n →
    loopC s (st i) = some (((List.range' i k).findSome? f).getD done)
  | 0, i, e => by
    have : i = n := by omega
    subst this
    rw [loop_out hd]; rfl
  | k + 1, i, e => by
    have h := hs i (by omega)
    rw [List.range'_succ, List.findSome?_cons]
    cases hf : f i with
    | some z => rw [hf] at h; rw [loop_out h]; rfl
    | none => rw [hf] at h; rw [loop_step h]; exact loop_findFrom st n f done hs hd k (i + 1) (by omega)
theorem loop_find (st : Nat → X) (n : Nat) (f : Nat → Option Z) (done : Z)
    (hs : ∀ i, i < n → s (st i) = some (match f i with | some z => .inr z | none => .inl (st (i + 1)))) (hd : s (st n) = some (.inr done)) :
    loopC s (st 0) = some (((List.range n).findSome? f).getD done) := by
  rw [loop_findFrom st n f done hs hd n 0 (by omega), List.range_eq_range']
/-- a loop that leaves at the first index that fails -/
theorem loop_allI (st : Nat → X) (n : Nat) (p : Nat → Bool) (z done : Z)
    (hs : ∀ i, i < n → s (st i) = some (if p i = true then .inl (st (i + 1)) else .inr z)) (hd : s (st n) = some (.inr done)) :
    loopC s (st 0) = some (if (List.range n).all p = true then done else z) := by
  rw [loop_find st n (fun i => if p i = true then none else some z) done (fun i hi => by rw [hs i hi]; split <;> rfl) hd]
  congr 1
  generalize List.range n = l
  induction l with
  | nil => rfl
  | cons a l ih => rw [List.findSome?_cons, List.all_cons]; by_cases h : p a = true <;> simp [h, ih]
theorem range_all {α : Type} (l : List α) (d : α) (p : α → Bool) : (List.range l.length).all (fun i => p (l.getD i d)) = l.all p := by
  rw [Bool.eq_iff_iff, List.all_eq_true, List.all_eq_true]
  constructor
  · intro h x hx
    obtain ⟨i, hi, rfl⟩ := List.mem_iff_getElem.1 hx
    have := h i (List.mem_range.2 hi)
    rwa [List.getD_eq_getElem?_getD, List.getElem?_eq_getElem hi] at this
  · intro h i hi
    have hi' := List.mem_range.1 hi
    rw [List.getD_eq_getElem?_getD, List.getElem?_eq_getElem hi']
    exact h _ (List.getElem_mem hi')
/-- a loop over a list that leaves at the first element that fails -/
theorem loop_all {α : Type} (l : List α) (d : α) (st : Nat → X) (p : α → Bool) (z done : Z)
    (hs : ∀ i, i < l.length → s (st i) = some (if p (l.getD i d) = true then .inl (st (i + 1)) else .inr z)) (hd : s (st l.length) = some (.inr done)) :
    loopC s (st 0) = some (if l.all p = true then done else z) := by
  rw [loop_allI st l.length (fun i => p (l.getD i d)) z done hs hd, range_all]
/-- a loop that finds the first index that holds -/
theorem loop_idx {α : Type} (l : List α) (d : α) (st : Nat → X) (p : α → Bool) (found : Nat → Z) (done : Z)
    (hs : ∀ i, i < l.length → s (st i) = some (if p (l.getD i d) = true then .inr (found i) else .inl (st (i + 1)))) (hd : s (st l.length) = some (.inr done)) :
    loopC s (st 0) = some (if l.findIdx p < l.length then found (l.findIdx p) else done) := by
  have go : ∀ k i, i + k = l.length → (∀ j, j < i → p (l.getD j d) = false) → loopC s (st i) = some (if l.findIdx p < l.length then found (l.findIdx p) else done) := by
    intro k
    induction k with
    | zero =>
      intro i hi hp
      have : i = l.length := by omega
      subst this
      rw [loop_out hd, List.findIdx_eq_length_of_false, if_neg (by omega)]
      intro x hx
      obtain ⟨j, hj, rfl⟩ := List.mem_iff_getElem.1 hx
      have := hp j hj
      rwa [List.getD_eq_getElem?_getD, List.getElem?_eq_getElem hj] at this
    | succ k ih =>
      intro i hi hp
      have h := hs i (by omega)
      split at h
      · rename_i hpi
        have e : l.findIdx p = i := by
          rw [List.findIdx_eq (by omega)]
          rw [List.getD_eq_getElem?_getD, List.getElem?_eq_getElem (by omega)] at hpi
          refine ⟨hpi, fun j hj => ?_⟩
          have := hp j hj
          rwa [List.getD_eq_getElem?_getD, List.getElem?_eq_getElem (by omega)] at this
        rw [loop_out h, e, if_pos (by omega)]
      · rename_i hpi
        rw [loop_step h]
        refine ih (i + 1) (by omega) fun j hj => ?_
        by_cases hji : j = i
        · subst hji; simpa using hpi
        · exact hp j (by omega)
  exact go l.length 0 (by omega) (fun j hj => by omega)
/-- a counted loop that carries a thing along -/
theorem loop_acc {A : Type} (st : Nat → A → X) (n : Nat) (f : Nat → A → A) (I : Nat → A → Prop) (out : A → Z)
    (hs : ∀ i a, i < n → I i a → s (st i a) = some (.inl (st (i + 1) (f i a))) ∧ I (i + 1) (f i a)) (hd : ∀ a, I n a → s (st n a) = some (.inr (out a))) (a : A) (h0 : I 0 a) :
    loopC s (st 0 a) = some (out ((List.range n).foldl (fun a i => f i a) a)) ∧ I n ((List.range n).foldl (fun a i => f i a) a) := by
  have go : ∀ k i a, i + k = n → I i a → loopC s (st i a) = some (out ((List.range' i k).foldl (fun a i => f i a) a)) ∧ I n ((List.range' i k).foldl (fun a i => f i a) a) := by
    intro k
    induction k with
    | zero =>
      intro i a hi hI
      have : i = n := by omega
      subst this
      exact ⟨loop_out (hd a hI), hI⟩
    | succ k ih =>
      intro i a hi hI
      obtain ⟨h1, h2⟩ := hs i a (by omega) hI
      rw [loop_step h1, List.range'_succ, List.foldl_cons]
      exact ih (i + 1) _ (by omega) h2
  rw [List.range_eq_range']
  exact go n 0 a (by omega) h0
/-- a counted loop whose state is known at every turn -/
theorem loop_for (st : Nat → X) (n : Nat) (done : Z) (hs : ∀ i, i < n → s (st i) = some (.inl (st (i + 1)))) (hd : s (st n) = some (.inr done)) : loopC s (st 0) = some done := by
  rw [loop_find st n (fun _ => none) done (fun i hi => by rw [hs i hi]) hd]
  congr 1
  generalize List.range n = l
  induction l with
  | nil => rfl
  | cons a l ih => simpa using ih
end
/-- the first i of l, zeros behind -/
def fillTo {α : Type} (l : List α) (d : α) (i : Nat) : List α := l.take i ++ List.replicate (l.length - i) d
theorem fillTo_zero {α : Type} (l : List α) (d : α) : fillTo l d 0 = List.replicate l.length d := by simp [fillTo]
theorem fillTo_all {α : Type} (l : List α) (d : α) : fillTo l d l.length = l := by simp [fillTo]
theorem fillTo_length {α : Type} (l : List α) (d : α) {i : Nat} (h : i ≤ l.length) : (fillTo l d i).length = l.length := by simp [fillTo]; omega
theorem fillTo_set {α : Type} (l : List α) (d e : α) {i : Nat} (h : i < l.length) : (fillTo l d i).set i (l.getD i e) = fillTo l d (i + 1) := by
  rw [List.getD_eq_getElem?_getD, List.getElem?_eq_getElem h, Option.getD_some]
  apply List.ext_getElem?
  intro j
  unfold fillTo
  rw [List.getElem?_set]
  have m1 : (l.take i).length = i := by simp; omega
  have m2 : (l.take (i + 1)).length = i + 1 := by simp; omega
  have L : (l.take i ++ List.replicate (l.length - i) d).length = l.length := by simp; omega
  rw [L]
  by_cases hji : i = j
  · subst hji
    rw [if_pos rfl, if_pos h, List.getElem?_append_left (by omega), List.getElem?_take_of_lt (by omega), List.getElem?_eq_getElem h]
  · rw [if_neg hji]
    by_cases hj : j < i
    · rw [List.getElem?_append_left (by omega), List.getElem?_append_left (by omega), List.getElem?_take_of_lt hj, List.getElem?_take_of_lt (by omega)]
    · rw [List.getElem?_append_right (by omega), List.getElem?_append_right (by omega), m1, m2, List.getElem?_replicate, List.getElem?_replicate]
      by_cases h2 : j < l.length
      · rw [if_pos (by omega), if_pos (by omega)]
      · rw [if_neg (by omega), if_neg (by omega)]
end Go.Tree
namespace Go.Tree
set_option linter.unusedVariables false
set_option linter.unusedSimpArgs false

theorem big_len {n : Nat} (h : n ≤ 1048576) : n ≤ maxLen := by unfold maxLen; omega
/-- what a size says -/
def Sz (F : Option ((Int × Unit) × Unit × Unit)) (n : Int) (Q : Prop) : Prop := ∃ r : Int, F = some ((r, ()), (), ()) ∧ -1 ≤ r ∧ r ≤ n ∧ (0 ≤ r → Q)
theorem sub_len {n : Int} {k : Nat} (h0 : 0 ≤ n) (h1 : n ≤ 1048576) (hk : k ≤ maxLen) : w64 (n - (k : Int)) = n - k := by
  unfold maxLen at hk
  rw [w64_id] <;> omega
/-- size after size -/
theorem Sz.bind {F : Option ((Int × Unit) × Unit × Unit)} {n : Int} {Q R : Prop} (h : Sz F n Q) {G : (Int × Unit) × Unit × Unit → Option ((Int × Unit) × Unit × Unit)}
    (hG : ∀ r, 0 ≤ r → r ≤ n → Q → Sz (G ((r, ()), (), ())) n R) : Sz (F.bind fun r => br (decide (r.1.1 < (0 : Int))) (some (((-1 : Int), ()), (), ())) (G r)) n R := by
  obtain ⟨r, rfl, h1, h2, h3⟩ := h
  rw [Option.bind_some, br_ite]
  by_cases h : r < 0
  · rw [if_pos (by simpa using h)]; exact ⟨-1, rfl, by omega, by omega, by omega⟩
  · rw [if_neg (by simpa using h)]; exact hG r (by omega) h2 (h3 (by omega))
theorem Sz.mono {F : Option ((Int × Unit) × Unit × Unit)} {n m : Int} {Q R : Prop} (h : Sz F n Q) (hnm : n ≤ m) (hQ : Q → R) : Sz F m R := by
  obtain ⟨r, e, h1, h2, h3⟩ := h
  exact ⟨r, e, h1, by omega, fun h => hQ (h3 h)⟩
theorem Sz.ret {n r : Int} (h0 : 0 ≤ r) (h1 : r ≤ n) {Q : Prop} (hQ : Q) : Sz (some ((r, ()), (), ())) n Q := ⟨r, rfl, by omega, h1, fun _ => hQ⟩
end Go.Tree
namespace Go.Tree
set_option linter.unusedVariables false
set_option linter.unusedSimpArgs false
theorem strEq_refl (a : ByteArray) : strEq a a = true := by simp [strEq]
theorem eqIntS_refl {l : List Int} (hl : l.length ≤ 1048576) : laws_eqIntS l l = some ((true, ()), (), ()) := by
  have h := loop_for (s := laws_eqIntS_s0) (fun i => ((l, l, (i : Int), ()), (), ())) l.length (.inr ((), (), ())) (by
    intro i hi
    simp only [laws_eqIntS_s0, Int.toNat_natCast, br_ite, decide_eq_true_eq, Int.ofNat_lt]
    rw [if_pos hi, ck_pos (by omega), ck_pos hi, ck_pos (by omega), ck_pos hi, if_neg (by simp), w64_succ hi (big_len hl)]) (by
    simp only [laws_eqIntS_s0, br_ite]
    rw [if_neg (by simp)])
  simp only [laws_eqIntS, br_ite]
  rw [if_neg (by simp)]
  exact congrArg (fun o => Option.bind o fun r7 => sumK r7 (fun y10 => some ((y10.1.1, ()), (), ())) (fun y11 => some ((true, ()), (), ()))) h
theorem eqMatrix_refl (a b : Int) : laws_eqMatrix a b a b = some ((true, ()), (), ()) := by simp [laws_eqMatrix]
theorem eqMatrixS_refl {l : List (Int × Int)} (hl : l.length ≤ 1048576) : laws_eqMatrixS l l = some ((true, ()), (), ()) := by
  have h := loop_for (s := laws_eqMatrixS_s0) (fun i => ((l, l, (i : Int), ()), (), ())) l.length (.inr ((), (), ())) (by
    intro i hi
    simp only [laws_eqMatrixS_s0, Int.toNat_natCast, eqMatrix_refl, Option.bind_some, br_ite, decide_eq_true_eq, Int.ofNat_lt]
    rw [if_pos hi, ck_pos (by omega), ck_pos hi, ck_pos (by omega), ck_pos hi, if_neg (by simp), w64_succ hi (big_len hl)]) (by
    simp only [laws_eqMatrixS_s0, br_ite]
    rw [if_neg (by simp)])
  simp only [laws_eqMatrixS, br_ite]
  rw [if_neg (by simp)]
  exact congrArg (fun o => Option.bind o fun r7 => sumK r7 (fun y10 => some ((y10.1.1, ()), (), ())) (fun y11 => some ((true, ()), (), ()))) h
theorem eqMatrixSS_refl {l : List (List (Int × Int))} (hl : l.length ≤ 1048576) (hm : ∀ m ∈ l, m.length ≤ 1048576) : laws_eqMatrixSS l l = some ((true, ()), (), ()) := by
  have h := loop_for (s := laws_eqMatrixSS_s0) (fun i => ((l, l, (i : Int), ()), (), ())) l.length (.inr ((), (), ())) (by
    intro i hi
    have hmem : l.getD i [] ∈ l := by rw [List.getD_eq_getElem?_getD, List.getElem?_eq_getElem hi]; exact List.getElem_mem hi
    simp only [laws_eqMatrixSS_s0, Int.toNat_natCast, eqMatrixS_refl (hm _ hmem), Option.bind_some, br_ite, decide_eq_true_eq, Int.ofNat_lt]
    rw [if_pos hi, ck_pos (by omega), ck_pos hi, ck_pos (by omega), ck_pos hi, if_neg (by simp), w64_succ hi (big_len hl)]) (by
    simp only [laws_eqMatrixSS_s0, br_ite]
    rw [if_neg (by simp)])
  simp only [laws_eqMatrixSS, br_ite]
  rw [if_neg (by simp)]
  exact congrArg (fun o => Option.bind o fun r7 => sumK r7 (fun y10 => some ((y10.1.1, ()), (), ())) (fun y11 => some ((true, ()), (), ()))) h
theorem eqFont_refl {a : ByteArray} {b c : List Int} (hb : b.length ≤ 1048576) (hc : c.length ≤ 1048576) : laws_eqFont a b c a b c = some ((true, ()), (), ()) := by
  simp [laws_eqFont, strEq_refl, eqIntS_refl hb, eqIntS_refl hc]
theorem eqMeasure_refl (a b c : Int) : laws_eqMeasure a b c a b c = some ((true, ()), (), ()) := by simp [laws_eqMeasure]
theorem eqMachine_refl {a : ByteArray} {b c : List Int} {d : List (List (Int × Int))} {e0 e1 e2 e3 : Int} {f g : List (Int × Int)} (hb : b.length ≤ 1048576) (hc : c.length ≤ 1048576)
    (hd : d.length ≤ 1048576) (hd' : ∀ m ∈ d, m.length ≤ 1048576) (hf : f.length ≤ 1048576) (hg : g.length ≤ 1048576) :
    laws_eqMachine a b c d e0 e1 e2 e3 f g a b c d e0 e1 e2 e3 f g = some ((true, ()), (), ()) := by
  simp [laws_eqMachine, eqFont_refl hb hc, eqMatrixSS_refl hd hd', eqMeasure_refl, eqMatrixS_refl hf, eqMatrixS_refl hg]
end Go.Tree
namespace Go.Tree
set_option linter.unusedVariables false
set_option linter.unusedSimpArgs false

theorem getD_mem {α : Type} {l : List α} {d : α} {i : Nat} (h : i < l.length) : l.getD i d ∈ l := by
  rw [List.getD_eq_getElem?_getD, List.getElem?_eq_getElem h]; exact List.getElem_mem h
abbrev inB (a lo hi : Int) : Bool := decide (lo ≤ a ∧ a ≤ hi)
def part (a b : Int) : Bool := bAndNot .i64 a b == 0
def setB (a : Int) : Bool := inB a 0 127
def fallN (bar : List Int) (k : Int) : Nat := bar.findIdx fun s => part k s

theorem l1In_eq (a b c : Int) : spec_l1In a b c = some ((inB a b c, ()), (), ()) := by
  simp only [spec_l1In, br_ite, decide_eq_true_eq]
  split <;> simp_all [inB]
  omega
theorem l1Part_eq (a b : Int) : spec_l1Part a b = some ((part a b, ()), (), ()) := rfl
theorem l1Set_eq (a : Int) : spec_l1Set a = some ((setB a, ()), (), ()) := by simp only [spec_l1Set, l1In_eq, Option.bind_some]; rfl
theorem isSet_eq (a : Int) : impl_isSet a = some ((setB a, ()), (), ()) := by
  simp only [impl_isSet, br_ite, decide_eq_true_eq]
  split <;> simp_all [setB, inB]
  omega
theorem l1Fall_eq {l : List Int} (hl : l.length ≤ 1048576) (k : Int) : spec_l1Fall l k = some (((fallN l k : Int), ()), (), ()) := by
  have h := loop_idx (s := spec_l1Fall_s0) l 0 (fun i => ((l, k, l, (l.length : Int), (i : Int), ()), (), ())) (fun s => part k s) (fun i => .inl (((i : Int), ()), (), ())) (.inr ((l, ()), (), ())) (by
    intro i hi
    simp only [spec_l1Fall_s0, Int.toNat_natCast, l1Part_eq, Option.bind_some, br_ite, decide_eq_true_eq, Int.ofNat_lt]
    rw [if_pos hi, ck_pos (by omega), ck_pos hi, w64_succ hi (big_len hl)]
    split <;> rfl) (by
    simp only [spec_l1Fall_s0, br_ite]
    rw [if_neg (by simp)])
  refine (congrArg (fun o => Option.bind o fun r5 => sumK r5 (fun y8 => some ((y8.1.1, ()), (), ())) (fun y9 => some (((y9.1.1.length : Int), ()), (), ()))) h).trans ?_
  simp only [Option.bind_some, sumK_ite, sumK_inl, sumK_inr]
  unfold fallN
  split
  · rfl
  · have := List.findIdx_le_length (xs := l) (p := fun s => part k s)
    rw [show l.findIdx (fun s => part k s) = l.length by omega]
theorem fall_eq {l : List Int} (hl : l.length ≤ 1048576) (k : Int) : impl_fall l k = some (((fallN l k : Int), ()), (), ()) := l1Fall_eq hl k
def isBar (l : List Int) : Bool := l.all setB && inB l.length 1 40
theorem specIsBar_eq {l : List Int} (hl : l.length ≤ 1048576) : spec_IsBar l = some ((isBar l, ()), (), ()) := by
  have h := loop_all (s := spec_IsBar_s0) l 0 (fun i => ((l, l, (l.length : Int), (i : Int), ()), (), ())) setB (.inl ((false, ()), (), ())) (.inr ((l, ()), (), ())) (by
    intro i hi
    simp only [spec_IsBar_s0, Int.toNat_natCast, l1Set_eq, Option.bind_some, br_ite, decide_eq_true_eq, Int.ofNat_lt]
    rw [if_pos hi, ck_pos (by omega), ck_pos hi, w64_succ hi (big_len hl)]
    cases setB (l.getD i 0) <;> rfl) (by
    simp only [spec_IsBar_s0, br_ite]
    rw [if_neg (by simp)])
  refine (congrArg (fun o => Option.bind o fun r5 => sumK r5 (fun y8 => some ((y8.1.1, ()), (), ())) (fun y9 => (spec_l1In (y9.1.1.length : Int) (1 : Int) (40 : Int)).bind fun r10 => some ((r10.1.1, ()), (), ()))) h).trans ?_
  simp only [Option.bind_some, sumK_ite, sumK_inl, sumK_inr, l1In_eq, isBar]
  cases l.all setB <;> simp
/-- slices.ContainsFunc -/
theorem findIdx_lt {α : Type} (l : List α) (p : α → Bool) : decide (l.findIdx p < l.length) = l.any p := by
  rw [Bool.eq_iff_iff, decide_eq_true_eq, List.findIdx_lt_length, List.any_eq_true]
def idxOf {α : Type} (l : List α) (p : α → Bool) : Int := if l.findIdx p < l.length then (l.findIdx p : Int) else -1
theorem idxOf_ge {α : Type} (l : List α) (p : α → Bool) : decide (idxOf l p ≥ 0) = l.any p := by
  rw [← findIdx_lt]
  unfold idxOf
  split <;> simp_all
theorem between_eq {l : List Int} (hl : l.length ≤ 1048576) (a b : Int) : impl_between l a b = some ((l.all fun x => inB x a b, ()), (), ()) := by
  have h1 : ∀ x, impl_between_1 x a b = some ((!inB x a b, ()), (), ()) := fun x => by
    simp only [impl_between_1, br_ite, decide_eq_true_eq]
    split
    · simp only [inB]; rw [decide_eq_false (by omega)]; rfl
    · simp only [inB]; congr 3; rw [Bool.eq_iff_iff]; simp; omega
  have h := loop_idx (s := IndexFunc_int_impl_between_1_s0) l 0 (fun i => ((l, ((a, ()), (b, ()), ()), (l.length : Int), (i : Int), ()), (), ())) (fun x => !inB x a b) (fun i => .inl (((i : Int), ()), (), ())) (.inr ((), (), ())) (by
    intro i hi
    simp only [IndexFunc_int_impl_between_1_s0, Int.toNat_natCast, h1, Option.bind_some, br_ite, decide_eq_true_eq, Int.ofNat_lt]
    rw [if_pos hi, ck_pos (by omega), ck_pos hi, w64_succ hi (big_len hl)]
    split <;> rfl) (by
    simp only [IndexFunc_int_impl_between_1_s0, br_ite]
    rw [if_neg (by simp)])
  have h2 : IndexFunc_int_impl_between_1 l a b = some ((idxOf l (fun x => !inB x a b), ()), (), ()) := by
    refine (congrArg (fun o => Option.bind o fun r5 => sumK r5 (fun y8 => some ((y8.1.1, ()), (), ())) (fun y9 => some (((-1 : Int), ()), (), ()))) h).trans ?_
    simp only [Option.bind_some, sumK_ite, sumK_inl, sumK_inr, idxOf]
    split <;> rfl
  simp only [impl_between, ContainsFunc_int_impl_between_1, h2, Option.bind_some, idxOf_ge]
  congr 3
  rw [Bool.eq_iff_iff]; simp
theorem implIsBar_eq {l : List Int} (hl : l.length ≤ 1048576) : impl_IsBar l = some ((isBar l, ()), (), ()) := by
  have h := loop_idx (s := IndexFunc_int_impl_IsBar_1_s0) l 0 (fun i => ((l, (), (l.length : Int), (i : Int), ()), (), ())) (fun x => !setB x) (fun i => .inl (((i : Int), ()), (), ())) (.inr ((), (), ())) (by
    intro i hi
    simp only [IndexFunc_int_impl_IsBar_1_s0, impl_IsBar_1, isSet_eq, Int.toNat_natCast, Option.bind_some, br_ite, decide_eq_true_eq, Int.ofNat_lt]
    rw [if_pos hi, ck_pos (by omega), ck_pos hi, w64_succ hi (big_len hl)]
    split <;> rfl) (by
    simp only [IndexFunc_int_impl_IsBar_1_s0, br_ite]
    rw [if_neg (by simp)])
  have h2 : IndexFunc_int_impl_IsBar_1 l = some ((idxOf l (fun x => !setB x), ()), (), ()) := by
    refine (congrArg (fun o => Option.bind o fun r5 => sumK r5 (fun y8 => some ((y8.1.1, ()), (), ())) (fun y9 => some (((-1 : Int), ()), (), ()))) h).trans ?_
    simp only [Option.bind_some, sumK_ite, sumK_inl, sumK_inr, idxOf]
    split <;> rfl
  simp only [impl_IsBar, ContainsFunc_int_impl_IsBar_1, h2, Option.bind_some, idxOf_ge, br_ite, decide_eq_true_eq, isBar, inB]
  have e : (!l.any fun x => !setB x) = l.all setB := by rw [Bool.eq_iff_iff]; simp
  rw [e]
  by_cases a1 : (l.length : Int) ≥ 1
  · by_cases a2 : (l.length : Int) ≤ 40
    · rw [if_pos a1, if_pos a2, decide_eq_true (⟨a1, a2⟩ : (1 : Int) ≤ l.length ∧ (l.length : Int) ≤ 40), Bool.and_true]
    · rw [if_pos a1, if_neg a2, decide_eq_false (by omega), Bool.and_false]
  · rw [if_neg a1, decide_eq_false (by omega), Bool.and_false]
def sortsAll (l : List Int) : Bool := (List.range l.length).all (fun i => fallN l (l.getD i 0) == i) && isBar l
theorem specSortsAll_eq {l : List Int} (hl : l.length ≤ 1048576) : spec_SortsAll l = some ((sortsAll l, ()), (), ()) := by
  have h := loop_allI (s := spec_SortsAll_s0) (fun i => ((l, l, (l.length : Int), (i : Int), ()), (), ())) l.length (fun i => fallN l (l.getD i 0) == i) (.inl ((false, ()), (), ())) (.inr ((l, ()), (), ())) (by
    intro i hi
    simp only [spec_SortsAll_s0, Int.toNat_natCast, l1Fall_eq hl, Option.bind_some, br_ite, decide_eq_true_eq, Int.ofNat_lt]
    rw [if_pos hi, ck_pos (by omega), ck_pos hi, w64_succ hi (big_len hl)]
    generalize fallN l (l.getD i 0) = q
    by_cases e : q = i
    · rw [if_neg (by simp [e]), if_pos (by simp [e])]
    · rw [if_pos (by simp; omega), if_neg (by simp [e])]) (by
    simp only [spec_SortsAll_s0, br_ite]
    rw [if_neg (by simp)])
  refine (congrArg (fun o => Option.bind o fun r5 => sumK r5 (fun y8 => some ((y8.1.1, ()), (), ())) (fun y10 => (spec_IsBar y10.1.1).bind fun r11 => some ((r11.1.1, ()), (), ()))) h).trans ?_
  simp only [Option.bind_some, sumK_ite, sumK_inl, sumK_inr, specIsBar_eq hl, sortsAll]
  cases (List.range l.length).all fun i => fallN l (l.getD i 0) == i
  · rfl
  · simp
theorem implSortsAll_eq {l : List Int} (hl : l.length ≤ 1048576) : impl_SortsAll l = some ((sortsAll l, ()), (), ()) := by
  have h := loop_allI (s := impl_SortsAll_s0) (fun i => ((l, l, (l.length : Int), (i : Int), ()), (), ())) l.length (fun i => fallN l (l.getD i 0) == i) (.inl ((false, ()), (), ())) (.inr ((), (), ())) (by
    intro i hi
    simp only [impl_SortsAll_s0, Int.toNat_natCast, fall_eq hl, Option.bind_some, br_ite, decide_eq_true_eq, Int.ofNat_lt]
    rw [if_pos hi, ck_pos (by omega), ck_pos hi, w64_succ hi (big_len hl)]
    generalize fallN l (l.getD i 0) = q
    by_cases e : q = i
    · rw [if_neg (by simp [e]), if_pos (by simp [e])]
    · rw [if_pos (by simp; omega), if_neg (by simp [e])]) (by
    simp only [impl_SortsAll_s0, br_ite]
    rw [if_neg (by simp)])
  simp only [impl_SortsAll, implIsBar_eq hl, Option.bind_some]
  have h' := congrArg (fun o => Option.bind o fun r7 => sumK r7 (fun y10 => some ((y10.1.1, ()), (), ())) (fun y11 => some ((true, ()), (), ()))) h
  rw [br_ite]
  unfold sortsAll
  cases isBar l
  · simp
  · rw [if_neg (by simp)]
    refine h'.trans ?_
    simp only [Option.bind_some, sumK_ite, sumK_inl, sumK_inr, Bool.and_true]
    cases (List.range l.length).all fun i => fallN l (l.getD i 0) == i <;> rfl
end Go.Tree
namespace Go.Tree
set_option linter.unusedVariables false
set_option linter.unusedSimpArgs false

theorem byte_range (s : ByteArray) (i : Nat) : 0 ≤ byteAt s i ∧ byteAt s i ≤ 255 := by
  unfold byteAt
  have := (s.data.toList.getD i 0).toNat_lt
  omega
/-- letter number i is fit, and new -/
def letterB (s : ByteArray) (i : Nat) : Bool := decide (33 ≤ byteAt s i) && (decide (byteAt s i ≤ 126) && (List.range i).all fun j => byteAt s i != byteAt s j)
def fontOk (s : ByteArray) (ws so : List Int) : Bool :=
  inB s.size 1 40 && (ws.length == s.size && (so.length == s.size && (sortsAll so && ((List.range s.size).all (fun i => letterB s i) && ws.all fun x => inB x 1 60))))

theorem specFont2 {s : ByteArray} {ws so : List Int} (hs : s.size ≤ 1048576) (i : Nat) (hi : i < s.size) (u0 : Int) (u1 : ByteArray) (u2 u3 : Int) (u4 : Bool) (u5 : List Int) (u6 u7 u8 : Int) (u9 u10 : Bool) :
    loopC spec_FontOk_s2 (((), u0, (i : Int), (0 : Int), (), u1, u2, u3, u4, (), u5, u6, (u7, ()), u8, u9, u10, ()), ((s, ws, so, ()), ()), ()) =
      some (if ((List.range i).all fun j => byteAt s i != byteAt s j) = true then .inr (((), u0, (i : Int), (), u1, u2, u3, u4, (), u5, u6, (u7, ()), u8, u9, u10, ()), ((s, ws, so, ()), ()), ()) else .inl ((false, ()), (), ())) :=
  loop_allI (s := spec_FontOk_s2) (fun j => (((), u0, (i : Int), (j : Int), (), u1, u2, u3, u4, (), u5, u6, (u7, ()), u8, u9, u10, ()), ((s, ws, so, ()), ()), ())) i (fun j => byteAt s i != byteAt s j) (.inl ((false, ()), (), ()))
    (.inr (((), u0, (i : Int), (), u1, u2, u3, u4, (), u5, u6, (u7, ()), u8, u9, u10, ()), ((s, ws, so, ()), ()), ())) (by
    intro j hj
    simp only [spec_FontOk_s2, Int.toNat_natCast, br_ite, decide_eq_true_eq, Int.ofNat_lt]
    rw [if_pos hj, ck_pos ⟨by omega, hi⟩, ck_pos ⟨by omega, by omega⟩, w64_succ hj (by unfold maxLen; omega)]
    by_cases e : byteAt s i = byteAt s j
    · rw [if_pos (by simp [e]), if_neg (by simp [e])]
    · rw [if_neg (by simp [e]), if_pos (by simp [e])]) (by
    simp only [spec_FontOk_s2, br_ite]
    rw [if_neg (by simp)])
theorem specFontOk_eq {s : ByteArray} {ws so : List Int} (hs : s.size ≤ 1048576) (hw : ws.length ≤ 1048576) (ho : so.length ≤ 1048576) : spec_FontOk s ws so = some ((fontOk s ws so, ()), (), ()) := by
  simp only [spec_FontOk, l1In_eq, specSortsAll_eq ho, Option.bind_some, fontOk]
  by_cases h1 : inB s.size 1 40 = true
  · by_cases h2 : ws.length = s.size
    · by_cases h3 : so.length = s.size
      · by_cases h4 : sortsAll so = true
        · have h := loop_allI (s := spec_FontOk_s0) (fun i => (((), (s.size : Int), (i : Int), ()), ((s, ws, so, ()), ()), ())) s.size (fun i => letterB s i && inB (ws.getD i 0) 1 60) (.inl ((false, ()), (), ())) (.inr ((), (), ())) (by
            intro i hi
            simp only [spec_FontOk_s0, Int.toNat_natCast, l1In_eq, Option.bind_some, specFont2 hs i hi, br_ite, sumK_ite, sumK_inl, sumK_inr, w64_succ hi (big_len hs)]
            rw [if_pos (by simpa using hi), ck_pos ⟨by omega, hi⟩, ck_pos ⟨by omega, hi⟩, ck_pos (by omega), ck_pos (by omega)]
            unfold letterB
            by_cases k1 : byteAt s i < 33
            · rw [if_pos (by simpa using k1), if_neg (by simp; omega)]
            · rw [if_neg (by simpa using k1)]
              by_cases k2 : byteAt s i > 126
              · rw [if_pos (by simpa using k2), if_neg (by simp; omega)]
              · rw [if_neg (by simpa using k2), decide_eq_true (by omega : 33 ≤ byteAt s i), decide_eq_true (by omega : byteAt s i ≤ 126), Bool.true_and, Bool.true_and]
                generalize inB (ws.getD i 0) 1 60 = q
                generalize ((List.range i).all fun j => byteAt s i != byteAt s j) = r
                cases q <;> cases r <;> rfl) (by
            simp only [spec_FontOk_s0, br_ite]
            rw [if_neg (by simp)])
          rw [h1, h4, br_ite, if_neg (by simp), br_ite, if_neg (by simp [h2]), br_ite, if_neg (by simp [h3]), br_ite, if_neg (by simp)]
          refine (congrArg (fun o => Option.bind o fun r22 => sumK r22 (fun y25 => some ((y25.1.1, ()), (), ())) (fun y26 => some ((true, ()), (), ()))) h).trans ?_
          simp only [Option.bind_some, sumK_ite, sumK_inl, sumK_inr]
          rw [h2, h3]
          have e : (List.range s.size).all (fun i => letterB s i && inB (ws.getD i 0) 1 60) = ((List.range s.size).all (fun i => letterB s i) && ws.all fun x => inB x 1 60) := by
            rw [← range_all ws 0, h2, Bool.eq_iff_iff, Bool.and_eq_true, List.all_eq_true, List.all_eq_true, List.all_eq_true]
            constructor
            · intro h; exact ⟨fun i hi => (Bool.and_eq_true _ _ ▸ h i hi).1, fun i hi => (Bool.and_eq_true _ _ ▸ h i hi).2⟩
            · intro h i hi; rw [h.1 i hi, h.2 i hi]; rfl
          rw [e]
          generalize ((List.range s.size).all (fun i => letterB s i) && ws.all fun x => inB x 1 60) = q
          cases q <;> simp
        · rw [h1, br_ite, if_neg (by simp), br_ite, if_neg (by simp [h2]), br_ite, if_neg (by simp [h3]), br_ite, if_pos (by simp [h4]), Bool.eq_false_iff.2 h4, Bool.false_and, Bool.and_false, Bool.and_false, Bool.and_false]
      · rw [h1, br_ite, if_neg (by simp), br_ite, if_neg (by simp [h2]), br_ite, if_pos (by simp; omega), beq_false_of_ne h3, Bool.false_and, Bool.and_false, Bool.and_false]
    · rw [h1, br_ite, if_neg (by simp), br_ite, if_pos (by simp; omega), beq_false_of_ne h2, Bool.false_and, Bool.and_false]
  · rw [Bool.eq_false_iff.2 h1, br_ite, if_pos (by simp), Bool.false_and]
/-- the letters seen before place i -/
def seenB (s : ByteArray) (i : Nat) : List Bool := (List.range 256).map fun b : Nat => (List.range i).any fun j => byteAt s j == (b : Int)
theorem seenB_get (s : ByteArray) (i b : Nat) (hb : b < 256) : (seenB s i).getD b false = (List.range i).any fun j => byteAt s j == (b : Int) := by
  rw [List.getD_eq_getElem?_getD]; simp [seenB, hb]
theorem seenB_set (s : ByteArray) (i : Nat) : (seenB s i).set (byteAt s i).toNat true = seenB s (i + 1) := by
  have hr := byte_range s i
  apply List.ext_getElem?
  intro b
  rw [List.getElem?_set]
  have hl : (seenB s i).length = 256 := by simp [seenB]
  by_cases e : (byteAt s i).toNat = b
  · rw [if_pos e, if_pos (by omega)]
    subst e
    rw [seenB, List.getElem?_map, List.getElem?_range (by omega), Option.map_some, List.range_succ, List.any_append]
    simp; omega
  · rw [if_neg e, seenB, seenB, List.getElem?_map, List.getElem?_map]
    by_cases hb : b < 256
    · rw [List.getElem?_range hb, Option.map_some, Option.map_some, List.range_succ, List.any_append]
      have : (byteAt s i == (b : Int)) = false := by simp; omega
      simp [this]
    · rw [List.getElem?_eq_none (by simp; omega)]; rfl
theorem seenB_len (s : ByteArray) (i : Nat) : (seenB s i).length = 256 := by simp [seenB]
theorem implFontOk_eq {s : ByteArray} {ws so : List Int} (hs : s.size ≤ 1048576) (hw : ws.length ≤ 1048576) (ho : so.length ≤ 1048576) : impl_FontOk s ws so = some ((fontOk s ws so, ()), (), ()) := by
  have h := loop_allI (s := impl_FontOk_s0) (fun i => (((), (), (s.size : Int), (i : Int), ()), ((s, ws, so, ()), (seenB s i), ()), ())) s.size (fun i => letterB s i) (.inl ((false, ()), (), ())) (.inr (((), ()), ((s, ws, so, ()), ()), ())) (by
    intro i hi
    have hr := byte_range s i
    have hg := seenB_get s i (byteAt s i).toNat (by omega)
    simp only [impl_FontOk_s0, Int.toNat_natCast, br_ite, seenB_len, seenB_set, hg, w64_succ hi (big_len hs)]
    rw [if_pos (by simpa using hi), ck_pos ⟨by omega, hi⟩, ck_pos (by omega), ck_pos (by omega), ck_pos (by omega), ck_pos (by omega), ck_pos (by omega), ck_pos (by omega)]
    unfold letterB
    have e : ((List.range i).any fun j => byteAt s j == ((byteAt s i).toNat : Int)) = !(List.range i).all fun j => byteAt s i != byteAt s j := by
      rw [Int.toNat_of_nonneg hr.1, Bool.eq_iff_iff]
      simp only [List.any_eq_true, beq_iff_eq, Bool.not_eq_true', List.all_eq_false, bne_iff_ne, ne_eq, Decidable.not_not]
      constructor <;> rintro ⟨j, h1, h2⟩ <;> exact ⟨j, h1, h2.symm⟩
    rw [e]
    generalize ((List.range i).all fun j => byteAt s i != byteAt s j) = r
    by_cases k1 : byteAt s i < 33
    · rw [if_pos (by simpa using k1), if_neg (by simp; omega)]
    · rw [if_neg (by simpa using k1)]
      by_cases k2 : byteAt s i > 126
      · rw [if_pos (by simpa using k2), if_neg (by simp; omega)]
      · rw [if_neg (by simpa using k2), decide_eq_true (by omega : 33 ≤ byteAt s i), decide_eq_true (by omega : byteAt s i ≤ 126), Bool.true_and, Bool.true_and]
        cases r <;> rfl) (by
    simp only [impl_FontOk_s0, br_ite]
    rw [if_neg (by simp)])
  have e0 : seenB s 0 = List.replicate 256 false := by
    apply List.ext_getElem?
    intro b
    rw [seenB, List.getElem?_map, List.getElem?_replicate]
    by_cases hb : b < 256
    · rw [List.getElem?_range hb, if_pos hb]; rfl
    · rw [List.getElem?_eq_none (by simp; omega), if_neg hb]; rfl
  simp only [impl_FontOk, between_eq hw, implSortsAll_eq ho, Option.bind_some, fontOk]
  have h' := congrArg (fun o => Option.bind o fun r12 => sumK r12 (fun y15 => some ((y15.1.1, ()), (), ())) (fun y16 => (impl_between y16.2.1.1.2.1 (1 : Int) (60 : Int)).bind fun r17 => br r17.1.1
    ((impl_SortsAll y16.2.1.1.2.2.1).bind fun r18 => some ((r18.1.1, ()), (), ())) (some ((false, ()), (), ())))) h
  simp only [e0] at h'
  by_cases h1 : inB s.size 1 40 = true
  · have h1' : 1 ≤ (s.size : Int) ∧ (s.size : Int) ≤ 40 := by simpa [inB] using h1
    by_cases h2 : ws.length = s.size
    · by_cases h3 : so.length = s.size
      · rw [br_ite, if_neg (by simp; omega), br_ite, if_neg (by simp; omega), br_ite, if_neg (by simp [h2]), br_ite, if_neg (by simp [h3])]
        refine h'.trans ?_
        simp only [Option.bind_some, sumK_ite, sumK_inl, sumK_inr, between_eq hw, implSortsAll_eq ho]
        rw [h1, h2, h3]
        generalize ((List.range s.size).all fun i => letterB s i) = q
        generalize (ws.all fun x => inB x 1 60) = r
        generalize sortsAll so = t
        cases q <;> cases r <;> cases t <;> simp
      · rw [h1, br_ite, if_neg (by simp; omega), br_ite, if_neg (by simp; omega), br_ite, if_neg (by simp [h2]), br_ite, if_pos (by simp; omega), beq_false_of_ne h3, Bool.false_and, Bool.and_false, Bool.and_false]
    · rw [h1, br_ite, if_neg (by simp; omega), br_ite, if_neg (by simp; omega), br_ite, if_pos (by simp; omega), beq_false_of_ne h2, Bool.false_and, Bool.and_false]
  · rw [Bool.eq_false_iff.2 h1, Bool.false_and, br_ite, br_ite]
    have h1' : ¬ (1 ≤ (s.size : Int) ∧ (s.size : Int) ≤ 40) := by simpa [inB] using h1
    by_cases k1 : (s.size : Int) < 1
    · rw [if_pos (by simpa using k1)]
    · rw [if_neg (by simpa using k1), if_pos (by simp; omega)]
end Go.Tree
namespace Go.Tree
set_option linter.unusedVariables false
set_option linter.unusedSimpArgs false

def ofFont (s : ByteArray) (so : List Int) (m : Int × Int) : Bool := decide (0 ≤ m.1 ∧ m.1 < s.size) && (setB m.2 && part m.2 (so.getD m.1.toNat 0))
theorem l2Matrix_eq {s : ByteArray} {ws so : List Int} (hs : s.size ≤ 1048576) (ho : so.length = s.size) (a b : Int) : spec_l2Matrix s ws so a b = some ((ofFont s so (a, b), ()), (), ()) := by
  simp only [spec_l2Matrix, l1In_eq, l1Set_eq, l1Part_eq, Option.bind_some, ofFont]
  rw [w64_id (by omega) (by omega)]
  by_cases h1 : 0 ≤ a ∧ a < s.size
  · rw [show inB a 0 ((s.size : Int) - 1) = true from decide_eq_true (by omega), decide_eq_true h1, br_true]
    cases setB b
    · rfl
    · rw [br_true, ck_pos (by omega), ck_pos (by omega)]; rfl
  · rw [show inB a 0 ((s.size : Int) - 1) = false from decide_eq_false (by omega), decide_eq_false h1]; rfl
theorem ofFont_eq {s : ByteArray} {ws so : List Int} (ho : so.length = s.size) (a b : Int) : impl_ofFont s ws so a b = some ((ofFont s so (a, b), ()), (), ()) := by
  simp only [impl_ofFont, isSet_eq, show ∀ a b, impl_part a b = some ((part a b, ()), (), ()) from fun _ _ => rfl, Option.bind_some, ofFont]
  by_cases h1 : 0 ≤ a ∧ a < s.size
  · rw [br_ite, if_pos (by simp; omega), br_ite, if_pos (by simp; omega), decide_eq_true h1]
    cases setB b
    · rfl
    · rw [br_true, ck_pos (by omega), ck_pos (by omega)]; rfl
  · rw [decide_eq_false h1, br_ite, br_ite]
    by_cases h2 : a ≥ 0
    · rw [if_pos (by simpa using h2), if_neg (by simp; omega)]; rfl
    · rw [if_neg (by simpa using h2)]; rfl
theorem allOf_eq {s : ByteArray} {ws so : List Int} (ho : so.length = s.size) {l : List (Int × Int)} (hl : l.length ≤ 1048576) : impl_allOf s ws so l = some ((l.all (ofFont s so), ()), (), ()) := by
  have h := loop_idx (s := IndexFunc_Matrix_impl_allOf_1_s0) l (0, 0) (fun i => ((l, ((s, ws, so, ()), ()), (l.length : Int), (i : Int), ()), (), ())) (fun x => !ofFont s so x) (fun i => .inl (((i : Int), ()), (), ())) (.inr ((), (), ())) (by
    intro i hi
    simp only [IndexFunc_Matrix_impl_allOf_1_s0, impl_allOf_1, ofFont_eq ho, Int.toNat_natCast, Option.bind_some, br_ite, decide_eq_true_eq, Int.ofNat_lt]
    rw [if_pos hi, ck_pos (by omega), ck_pos hi, w64_succ hi (big_len hl)]
    split <;> rfl) (by
    simp only [IndexFunc_Matrix_impl_allOf_1_s0, br_ite]
    rw [if_neg (by simp)])
  have h2 : IndexFunc_Matrix_impl_allOf_1 l s ws so = some ((idxOf l (fun x => !ofFont s so x), ()), (), ()) := by
    refine (congrArg (fun o => Option.bind o fun r5 => sumK r5 (fun y8 => some ((y8.1.1, ()), (), ())) (fun y9 => some (((-1 : Int), ()), (), ()))) h).trans ?_
    simp only [Option.bind_some, sumK_ite, sumK_inl, sumK_inr, idxOf]
    split <;> rfl
  simp only [impl_allOf, ContainsFunc_Matrix_impl_allOf_1, h2, Option.bind_some, idxOf_ge]
  congr 3
  rw [Bool.eq_iff_iff]; simp
def colB (s : ByteArray) (so : List Int) (c : List (Int × Int)) : Bool := decide ((c.length : Int) ≤ 20) && c.all (ofFont s so)
def magOk (s : ByteArray) (ws so : List Int) (d : List (List (Int × Int))) : Bool := fontOk s ws so && (d.length == s.size && d.all (colB s so))
theorem fontOk_len {s : ByteArray} {ws so : List Int} (h : fontOk s ws so = true) : ws.length = s.size ∧ so.length = s.size ∧ (∀ x ∈ ws, 1 ≤ x ∧ x ≤ 60) := by
  simp only [fontOk, Bool.and_eq_true, beq_iff_eq, List.all_eq_true] at h
  obtain ⟨_, h1, h2, _, _, h3⟩ := h
  exact ⟨h1, h2, fun x hx => by simpa [inB] using h3 x hx⟩
section
variable {s : ByteArray} {ws so : List Int} {d : List (List (Int × Int))} (hs : s.size ≤ 1048576) (hw : ws.length ≤ 1048576) (ho : so.length ≤ 1048576) (hd : d.length ≤ 1048576) (hd' : ∀ c ∈ d, c.length ≤ 1048576)
include hs hw ho hd hd'
theorem specMagazineOk_eq : spec_MagazineOk s ws so d = some ((magOk s ws so d, ()), (), ()) := by
  simp only [spec_MagazineOk, specFontOk_eq hs hw ho, Option.bind_some, magOk]
  by_cases h1 : fontOk s ws so = true
  · obtain ⟨e1, e2, _⟩ := fontOk_len h1
    have inner : ∀ (c : List (Int × Int)) (hc : c.length ≤ 1048576) (u1 : List (List (Int × Int))) (u2 u3 : Int), loopC spec_MagazineOk_s2 (((), u1, u2, u3, c, (c.length : Int), (0 : Int), ()), ((s, ws, so, ()), ()), ()) =
        some (if c.all (ofFont s so) = true then .inr (((), u1, u2, u3, ()), ((s, ws, so, ()), ()), ()) else .inl ((false, ()), (), ())) := by
      intro c hc u1 u2 u3
      exact loop_all (s := spec_MagazineOk_s2) c (0, 0) (fun i => (((), u1, u2, u3, c, (c.length : Int), (i : Int), ()), ((s, ws, so, ()), ()), ())) (ofFont s so) (.inl ((false, ()), (), ())) (.inr (((), u1, u2, u3, ()), ((s, ws, so, ()), ()), ())) (by
        intro i hi
        simp only [spec_MagazineOk_s2, l2Matrix_eq hs e2, Int.toNat_natCast, Option.bind_some, br_ite]
        rw [if_pos (by simpa using hi), ck_pos (by omega), ck_pos hi, w64_succ hi (big_len hc)]
        show (if (!ofFont s so (c.getD i (0, 0))) = true then _ else _) = _
        cases ofFont s so (c.getD i (0, 0)) <;> rfl) (by
        simp only [spec_MagazineOk_s2, br_ite]
        rw [if_neg (by simp)])
    have h := loop_all (s := spec_MagazineOk_s0) d [] (fun i => (((), d, (d.length : Int), (i : Int), ()), ((s, ws, so, ()), ()), ())) (colB s so) (.inl ((false, ()), (), ())) (.inr ((), (), ())) (by
      intro i hi
      simp only [spec_MagazineOk_s0, Int.toNat_natCast, inner _ (hd' _ (getD_mem hi)), Option.bind_some, sumK_ite, sumK_inl, sumK_inr, br_ite, w64_succ hi (big_len hd)]
      rw [if_pos (by simpa using hi), ck_pos (by omega), ck_pos hi]
      unfold colB
      by_cases k : ((d.getD i []).length : Int) > 20
      · rw [if_pos (by simpa using k), decide_eq_false (by omega)]; rfl
      · rw [if_neg (by simpa using k), decide_eq_true (by omega)]
        cases (d.getD i []).all (ofFont s so) <;> rfl) (by
      simp only [spec_MagazineOk_s0, br_ite]
      rw [if_neg (by simp)])
    rw [h1, br_ite, if_neg (by simp)]
    by_cases h2 : d.length = s.size
    · rw [br_ite, if_neg (by simp [h2])]
      refine (congrArg (fun o => Option.bind o fun r16 => sumK r16 (fun y19 => some ((y19.1.1, ()), (), ())) (fun y20 => some ((true, ()), (), ()))) h).trans ?_
      simp only [Option.bind_some, sumK_ite, sumK_inl, sumK_inr, h2]
      cases d.all (colB s so) <;> simp
    · rw [br_ite, if_pos (by simp; omega), beq_false_of_ne h2, Bool.false_and, Bool.and_false]
  · rw [Bool.eq_false_iff.2 h1, br_ite, if_pos (by simp), Bool.false_and]
theorem implMagazineOk_eq : impl_MagazineOk s ws so d = some ((magOk s ws so d, ()), (), ()) := by
  simp only [impl_MagazineOk, implFontOk_eq hs hw ho, Option.bind_some, magOk]
  by_cases h1 : fontOk s ws so = true
  · obtain ⟨e1, e2, _⟩ := fontOk_len h1
    have h := loop_all (s := impl_MagazineOk_s0) d [] (fun i => (((), d, (d.length : Int), (i : Int), ()), ((s, ws, so, ()), ()), ())) (colB s so) (.inl ((false, ()), (), ())) (.inr ((), (), ())) (by
      intro i hi
      simp only [impl_MagazineOk_s0, Int.toNat_natCast, allOf_eq e2 (hd' _ (getD_mem hi)), Option.bind_some, br_ite, w64_succ hi (big_len hd)]
      rw [if_pos (by simpa using hi), ck_pos (by omega), ck_pos hi]
      unfold colB
      by_cases k : ((d.getD i []).length : Int) > 20
      · rw [if_pos (by simpa using k), decide_eq_false (by omega)]; rfl
      · rw [if_neg (by simpa using k), decide_eq_true (by omega)]
        cases (d.getD i []).all (ofFont s so) <;> rfl) (by
      simp only [impl_MagazineOk_s0, br_ite]
      rw [if_neg (by simp)])
    rw [h1, br_ite, if_neg (by simp)]
    by_cases h2 : d.length = s.size
    · rw [br_ite, if_neg (by simp [h2])]
      refine (congrArg (fun o => Option.bind o fun r16 => sumK r16 (fun y19 => some ((y19.1.1, ()), (), ())) (fun y20 => some ((true, ()), (), ()))) h).trans ?_
      simp only [Option.bind_some, sumK_ite, sumK_inl, sumK_inr, h2]
      cases d.all (colB s so) <;> simp
    · rw [br_ite, if_pos (by simp; omega), beq_false_of_ne h2, Bool.false_and, Bool.and_false]
  · rw [Bool.eq_false_iff.2 h1, br_ite, if_pos (by simp), Bool.false_and]
end
def measOk (a b c : Int) : Bool := inB a 1 2000 && (inB b 1 100 && inB c b 100)
theorem specMeasureOk_eq (a b c : Int) : spec_MeasureOk a b c = some ((measOk a b c, ()), (), ()) := by
  simp only [spec_MeasureOk, l1In_eq, Option.bind_some, measOk]
  cases inB a 1 2000 <;> cases inB b 1 100 <;> rfl
theorem implMeasureOk_eq (a b c : Int) : impl_MeasureOk a b c = some ((measOk a b c, ()), (), ()) := by
  have e : ∀ x lo hi : Int, inB x lo hi = (decide (x ≥ lo) && decide (x ≤ hi)) := fun x lo hi => by simp [inB]
  simp only [impl_MeasureOk, measOk, e]
  cases decide (a ≥ 1) <;> cases decide (a ≤ 2000) <;> cases decide (b ≥ 1) <;> cases decide (b ≤ 100) <;> cases decide (c ≥ b) <;> rfl
/-- a band -/
def bandB (m : Int × Int) : Bool := m.1 == -1 && m.2 == 0
theorem isBand_eq (a b : Int) : impl_isBand a b = some ((bandB (a, b), ()), (), ()) := rfl
def widOf (ws : List Int) (m : Int × Int) : Int := if m.1 < 0 then 0 else ws.getD m.1.toNat 0
theorem map_take_succ {α β : Type} (l : List α) (d : α) (f : α → β) {i : Nat} (h : i < l.length) : (l.take i).map f ++ [f (l.getD i d)] = (l.take (i + 1)).map f := by
  rw [List.take_succ_eq_append_getElem h, List.map_append, List.getD_eq_getElem?_getD, List.getElem?_eq_getElem h]; rfl
section
variable {s : ByteArray} {ws so : List Int} (e1 : ws.length = s.size) {l : List (Int × Int)} (hl : l.length ≤ 1048576) (hall : ∀ m ∈ l, (bandB m || ofFont s so m) = true)
include e1 hall
theorem letter_ok {i : Nat} (hi : i < l.length) (h : ¬ (l.getD i (0, 0)).1 < 0) : (l.getD i (0, 0)).1.toNat < ws.length := by
  have := hall _ (getD_mem (d := (0, 0)) hi)
  simp only [bandB, ofFont, Bool.or_eq_true, Bool.and_eq_true, beq_iff_eq, decide_eq_true_eq] at this
  omega
include hl
theorem specItems_eq : spec_l5Items s ws so l = some (((), ()), (), (l.map (widOf ws), ())) := by
  have h := loop_for (s := spec_l5Items_s0) (fun i => (((), (), l, (l.length : Int), (i : Int), ()), ((s, ws, so, ()), ()), ((l.take i).map (widOf ws), ()))) l.length (((), ()), (), (l.map (widOf ws), ())) (by
    intro i hi
    have hk := letter_ok e1 hall hi
    simp only [spec_l5Items_s0, Int.toNat_natCast, br_ite, List.length_cons, List.length_nil, List.length_map, List.length_take]
    rw [if_pos (by simpa using hi), ck_pos (by omega), ck_pos hi, ← map_take_succ l (0, 0) (widOf ws) hi, w64_succ hi (big_len hl)]
    unfold widOf
    by_cases k : (l.getD i (0, 0)).1 < 0
    · rw [if_pos (by simpa using k), ck_pos ⟨by omega, by omega⟩, if_pos k]
    · rw [if_neg (by simpa using k), ck_pos (by omega), ck_pos (hk k), ck_pos ⟨by omega, by omega⟩, if_neg k]) (by
    simp only [spec_l5Items_s0, br_ite, List.take_length]
    rw [if_neg (by simp)])
  exact congrArg (fun o => Option.bind o fun r9 => some (((), ()), (), (r9.2.2.1, ()))) h
theorem implItems_eq : impl_items s ws so l = some (((), ()), (), (l.map (widOf ws), ())) := by
  have h := loop_for (s := impl_items_s0) (fun i => (((), (), l, (l.length : Int), (i : Int), ()), ((s, ws, so, ()), ()), ((l.take i).map (widOf ws), ()))) l.length (((), ()), (), (l.map (widOf ws), ())) (by
    intro i hi
    have hk := letter_ok e1 hall hi
    have hb := hall _ (getD_mem (d := (0, 0)) hi)
    simp only [impl_items_s0, isBand_eq, Option.bind_some, Int.toNat_natCast, br_ite, List.length_cons, List.length_nil, List.length_map, List.length_take]
    rw [if_pos (by simpa using hi), ck_pos (by omega), ck_pos hi, ← map_take_succ l (0, 0) (widOf ws) hi, w64_succ hi (big_len hl)]
    unfold widOf
    have e : (bandB ((l.getD i (0, 0)).1, (l.getD i (0, 0)).2) = true) ↔ (l.getD i (0, 0)).1 < 0 := by
      simp only [bandB, ofFont, Bool.or_eq_true, Bool.and_eq_true, beq_iff_eq, decide_eq_true_eq] at hb ⊢
      omega
    by_cases k : (l.getD i (0, 0)).1 < 0
    · rw [if_pos (e.2 k), ck_pos ⟨by omega, by omega⟩, if_pos k]
    · rw [if_neg (fun h => k (e.1 h)), ck_pos (by omega), ck_pos (hk k), ck_pos ⟨by omega, by omega⟩, if_neg k]) (by
    simp only [impl_items_s0, br_ite, List.take_length]
    rw [if_neg (by simp)])
  exact congrArg (fun o => Option.bind o fun r9 => some (((), ()), (), (r9.2.2.1, ()))) h
end
end Go.Tree
namespace Go.Tree
set_option linter.unusedVariables false
set_option linter.unusedSimpArgs false

/-- letters together, and bands -/
def sumStep (l : List Int) (i : Nat) (a : Int × Int) : Int × Int := (w64 (a.1 + l.getD i 0), if l.getD i 0 == 0 then w64 (a.2 + 1) else a.2)
def sumW (l : List Int) : Int × Int := (List.range l.length).foldl (fun a i => sumStep l i a) (0, 0)
theorem l3Sum_eq {l : List Int} (hl : l.length ≤ 1048576) : spec_l3Sum l = some (((sumW l).1, (sumW l).2, ()), (), ()) := by
  have h := loop_acc (s := spec_l3Sum_s0) (fun i (a : Int × Int) => ((a.1, a.2, l, (l.length : Int), (i : Int), ()), (), ())) l.length (sumStep l) (fun _ _ => True) (fun a => ((a.1, a.2, ()), (), ())) (by
    intro i a hi _
    refine ⟨?_, trivial⟩
    simp only [spec_l3Sum_s0, Int.toNat_natCast, br_ite, sumStep]
    rw [if_pos (by simpa using hi), ck_pos (by omega), ck_pos hi, w64_succ hi (big_len hl)]
    cases (l.getD i 0 == 0) <;> rfl) (by
    intro a _
    simp only [spec_l3Sum_s0, br_ite]
    rw [if_neg (by simp)]) (0, 0) trivial
  exact congrArg (fun o => Option.bind o fun r8 => some ((r8.1.1, r8.1.2.1, ()), (), ())) h.1
theorem lettersAndBands_eq {l : List Int} (hl : l.length ≤ 1048576) : impl_lettersAndBands l = some (((sumW l).1, (sumW l).2, ()), (), ()) := l3Sum_eq hl
theorem sumW_range {l : List Int} (hl : l.length ≤ 1048576) (hr : ∀ x ∈ l, 0 ≤ x ∧ x ≤ 60) : 0 ≤ (sumW l).1 ∧ (sumW l).1 ≤ 60 * l.length ∧ 0 ≤ (sumW l).2 ∧ (sumW l).2 ≤ l.length := by
  have go : ∀ n, n ≤ l.length → 0 ≤ ((List.range n).foldl (fun a i => sumStep l i a) (0, 0)).1 ∧ ((List.range n).foldl (fun a i => sumStep l i a) (0, 0)).1 ≤ 60 * n ∧
      0 ≤ ((List.range n).foldl (fun a i => sumStep l i a) (0, 0)).2 ∧ ((List.range n).foldl (fun a i => sumStep l i a) (0, 0)).2 ≤ n := by
    intro n
    induction n with
    | zero => intro _; simp
    | succ n ih =>
      intro hn
      have := ih (by omega)
      rw [List.range_succ, List.foldl_append, List.foldl_cons, List.foldl_nil]
      generalize (List.range n).foldl (fun a i => sumStep l i a) (0, 0) = a at this
      have hx := hr _ (getD_mem (d := 0) (show n < l.length by omega))
      unfold sumStep
      simp only
      rw [w64_id (by omega) (by omega), w64_id (by omega) (by omega)]
      split <;> omega
  exact go l.length (Nat.le_refl _)
def lineOk (l : List Int) : Bool := decide ((l.length : Int) ≤ 120) && l.all fun x => inB x 0 60
theorem specLineOk_eq {l : List Int} (hl : l.length ≤ 1048576) : spec_LineOk l = some ((lineOk l, ()), (), ()) := by
  have h := loop_all (s := spec_LineOk_s0) l 0 (fun i => ((l, l, (l.length : Int), (i : Int), ()), (), ())) (fun x => inB x 0 60) (.inl ((false, ()), (), ())) (.inr ((l, ()), (), ())) (by
    intro i hi
    simp only [spec_LineOk_s0, Int.toNat_natCast, l1In_eq, Option.bind_some, br_ite]
    rw [if_pos (by simpa using hi), ck_pos (by omega), ck_pos hi, w64_succ hi (big_len hl)]
    cases inB (l.getD i 0) 0 60 <;> rfl) (by
    simp only [spec_LineOk_s0, br_ite]
    rw [if_neg (by simp)])
  refine (congrArg (fun o => Option.bind o fun r5 => sumK r5 (fun y8 => some ((y8.1.1, ()), (), ())) (fun y9 => let x10 : Bool := decide ((y9.1.1.length : Int) ≤ (120 : Int)); some ((x10, ()), (), ()))) h).trans ?_
  simp only [Option.bind_some, sumK_ite, sumK_inl, sumK_inr, lineOk]
  cases (l.all fun x => inB x 0 60) <;> simp
theorem implLineOk_eq {l : List Int} (hl : l.length ≤ 1048576) : impl_LineOk l = some ((lineOk l, ()), (), ()) := by
  simp only [impl_LineOk, between_eq hl, Option.bind_some, lineOk]
  cases decide ((l.length : Int) ≤ 120) <;> rfl
/-- there is room -/
def fitsB (a b c : Int) (l : List Int) : Bool := lineOk l && decide ((sumW l).1 + (sumW l).2 * b ≤ a)
theorem lineOk_range {l : List Int} (h : lineOk l = true) : l.length ≤ 120 ∧ ∀ x ∈ l, 0 ≤ x ∧ x ≤ 60 := by
  simp only [lineOk, Bool.and_eq_true, decide_eq_true_eq, List.all_eq_true] at h
  exact ⟨by omega, fun x hx => by simpa [inB] using h.2 x hx⟩
theorem mul_range {x y : Int} (h1 : 0 ≤ x) (h2 : x ≤ 120) (h3 : 0 ≤ y) (h4 : y ≤ 100) : 0 ≤ x * y ∧ x * y ≤ 12000 :=
  ⟨Int.mul_nonneg h1 h3, Int.le_trans (Int.mul_le_mul h2 h4 h3 (by omega)) (by omega)⟩
theorem l3Fits_eq {l : List Int} (hl : l.length ≤ 1048576) {a b c : Int} (hm : measOk a b c = true) : spec_l3Fits a b c l = some ((fitsB a b c l, ()), (), ()) := by
  simp only [measOk, inB, Bool.and_eq_true, decide_eq_true_eq] at hm
  simp only [spec_l3Fits, l3Sum_eq hl, specLineOk_eq hl, Option.bind_some, fitsB]
  by_cases h : lineOk l = true
  · obtain ⟨h1, h2⟩ := lineOk_range h
    obtain ⟨r1, r2, r3, r4⟩ := sumW_range hl h2
    have := mul_range r3 (by omega) (y := b) (by omega) (by omega)
    rw [h, br_true, w64_id (x := (sumW l).2 * b) (by omega) (by omega), w64_id (by omega) (by omega)]
    rfl
  · rw [Bool.eq_false_iff.2 h]; rfl
theorem fits_eq {l : List Int} (hl : l.length ≤ 1048576) {a b c : Int} : impl_fits a b c l = some ((measOk a b c && fitsB a b c l, ()), (), ()) := by
  simp only [impl_fits, impl_SpreadLine, implMeasureOk_eq, implLineOk_eq hl, lettersAndBands_eq hl, Option.bind_some, fitsB]
  by_cases hm : measOk a b c = true
  · rw [hm]
    simp only [measOk, inB, Bool.and_eq_true, decide_eq_true_eq] at hm
    by_cases h : lineOk l = true
    · obtain ⟨h1, h2⟩ := lineOk_range h
      obtain ⟨r1, r2, r3, r4⟩ := sumW_range hl h2
      have := mul_range r3 (by omega) (y := b) (by omega) (by omega)
      rw [h]
      simp only [impl_spread, Bool.not_true, br_false, Bool.true_and]
      rw [w64_id (x := a - (sumW l).1) (by omega) (by omega), w64_id (x := (sumW l).2 * b) (by omega) (by omega), w64_id (x := a - (sumW l).1 - (sumW l).2 * b) (by omega) (by omega)]
      by_cases k : a - (sumW l).1 - (sumW l).2 * b < 0
      · rw [decide_eq_true k, br_true, decide_eq_false (by omega)]; rfl
      · rw [decide_eq_false k, br_false, decide_eq_true (by omega : (sumW l).1 + (sumW l).2 * b ≤ a)]
        by_cases z : (sumW l).2 > 0
        · rw [decide_eq_true z, br_true, ck_pos (by omega)]; rfl
        · rw [decide_eq_false z]; rfl
    · rw [Bool.eq_false_iff.2 h]; rfl
  · rw [Bool.eq_false_iff.2 hm]; rfl
def goodB (s : ByteArray) (so : List Int) (m : Int × Int) : Bool := bandB m || ofFont s so m
def machOk (s : ByteArray) (ws so : List Int) (d : List (List (Int × Int))) (e a b c : Int) (f g : List (Int × Int)) : Bool :=
  magOk s ws so d && (inB e 0 60 && (measOk a b c && (decide ((g.length : Int) ≤ 240) && (f.all (goodB s so) && (g.all (ofFont s so) && fitsB a b c (f.map (widOf ws)))))))
section
variable {s : ByteArray} {ws so : List Int} {d : List (List (Int × Int))} {e a b c : Int} {f g : List (Int × Int)} (hs : s.size ≤ 1048576) (hw : ws.length ≤ 1048576) (ho : so.length ≤ 1048576) (hd : d.length ≤ 1048576) (hd' : ∀ c ∈ d, c.length ≤ 1048576)
  (hf : f.length ≤ 1048576) (hg : g.length ≤ 1048576)
include hs hw ho hd hd' hf hg
theorem specMachineOk_eq : spec_MachineOk s ws so d e a b c f g = some ((machOk s ws so d e a b c f g, ()), (), ()) := by
  simp only [spec_MachineOk, specMagazineOk_eq hs hw ho hd hd', l1In_eq, specMeasureOk_eq, Option.bind_some, machOk]
  by_cases h1 : magOk s ws so d = true
  · have h1' : fontOk s ws so = true := by simp only [magOk, Bool.and_eq_true] at h1; exact h1.1
    obtain ⟨e1, e2, _⟩ := fontOk_len h1'
    rw [h1, Bool.not_true, br_false]
    by_cases h2 : inB e 0 60 = true
    · rw [h2, Bool.not_true, br_false]
      by_cases h3 : measOk a b c = true
      · rw [h3, Bool.not_true, br_false]
        by_cases h4 : (g.length : Int) > 240
        · rw [decide_eq_true h4, br_true, decide_eq_false (by omega)]; rfl
        · rw [decide_eq_false h4, br_false, decide_eq_true (by omega : (g.length : Int) ≤ 240)]
          have hA := loop_all (s := spec_MachineOk_s0) f (0, 0) (fun i => (((), f, (f.length : Int), (i : Int), ()), ((s, ws, so, d, e, a, b, c, f, g, ()), ()), ())) (goodB s so) (.inl ((false, ()), (), ())) (.inr (((), ()), ((s, ws, so, d, e, a, b, c, f, g, ()), ()), ())) (by
            intro i hi
            simp only [spec_MachineOk_s0, Int.toNat_natCast, l2Matrix_eq hs e2, Option.bind_some, br_ite, w64_succ hi (big_len hf)]
            rw [if_pos (by simpa using hi), ck_pos (by omega), ck_pos hi]
            unfold goodB bandB bne
            show (if (!ofFont s so (f.getD i (0, 0))) = true then _ else _) = _
            cases ofFont s so (f.getD i (0, 0)) <;> cases ((f.getD i (0, 0)).1 == -1) <;> cases ((f.getD i (0, 0)).2 == 0) <;> rfl) (by
            simp only [spec_MachineOk_s0, br_ite]
            rw [if_neg (by simp)])
          have hB := loop_all (s := spec_MachineOk_s2) g (0, 0) (fun i => (((), g, (g.length : Int), (i : Int), ()), ((s, ws, so, d, e, a, b, c, f, g, ()), ()), ())) (ofFont s so) (.inl ((false, ()), (), ())) (.inr (((), ()), ((s, ws, so, d, e, a, b, c, f, g, ()), ()), ())) (by
            intro i hi
            simp only [spec_MachineOk_s2, Int.toNat_natCast, l2Matrix_eq hs e2, Option.bind_some, br_ite, w64_succ hi (big_len hg)]
            rw [if_pos (by simpa using hi), ck_pos (by omega), ck_pos hi]
            show (if (!ofFont s so (g.getD i (0, 0))) = true then _ else _) = _
            cases ofFont s so (g.getD i (0, 0)) <;> rfl) (by
            simp only [spec_MachineOk_s2, br_ite]
            rw [if_neg (by simp)])
          simp only [Int.ofNat_zero, Int.natCast_zero] at hA hB
          rw [hA, Option.bind_some, sumK_ite, sumK_inl, sumK_inr]
          by_cases h5 : f.all (goodB s so) = true
          · rw [if_pos h5, h5]
            simp only []
            rw [hB, Option.bind_some, sumK_ite, sumK_inl, sumK_inr]
            by_cases h6 : g.all (ofFont s so) = true
            · rw [if_pos h6, h6]
              simp only []
              rw [specItems_eq e1 hf (fun m hm => List.all_eq_true.1 h5 m hm), Option.bind_some]
              simp only []
              rw [l3Fits_eq (by simpa using hf) h3]
              rfl
            · rw [if_neg h6, Bool.eq_false_iff.2 h6]; rfl
          · rw [if_neg h5, Bool.eq_false_iff.2 h5]; rfl
      · rw [Bool.eq_false_iff.2 h3]; rfl
    · rw [Bool.eq_false_iff.2 h2]; rfl
  · rw [Bool.eq_false_iff.2 h1]; rfl
set_option linter.unusedSectionVars false in
theorem containsGood (e1 : ws.length = s.size) (e2 : so.length = s.size) : ContainsFunc_Matrix_impl_MachineOk_1 f s ws so e a b c f g = some ((!f.all (goodB s so), ()), (), ()) := by
  have h1 : ∀ m : Int × Int, impl_MachineOk_1 m.1 m.2 s ws so e a b c f g = some ((!goodB s so m, ()), (), ()) := fun m => by
    simp only [impl_MachineOk_1, isBand_eq, ofFont_eq e2, Option.bind_some, goodB]
    show br (!bandB m) (some ((!ofFont s so m, ()), (), ())) _ = _
    cases bandB m <;> rfl
  have h := loop_idx (s := IndexFunc_Matrix_impl_MachineOk_1_s0) f (0, 0) (fun i => ((f, ((s, ws, so, (), e, a, b, c, f, g, ()), ()), (f.length : Int), (i : Int), ()), (), ())) (fun x => !goodB s so x) (fun i => .inl (((i : Int), ()), (), ())) (.inr ((), (), ())) (by
    intro i hi
    simp only [IndexFunc_Matrix_impl_MachineOk_1_s0, h1, Int.toNat_natCast, Option.bind_some, br_ite]
    rw [if_pos (by simpa using hi), ck_pos (by omega), ck_pos hi, w64_succ hi (big_len hf)]
    cases goodB s so (f.getD i (0, 0)) <;> rfl) (by
    simp only [IndexFunc_Matrix_impl_MachineOk_1_s0, br_ite]
    rw [if_neg (by simp)])
  have h2 : IndexFunc_Matrix_impl_MachineOk_1 f s ws so e a b c f g = some ((idxOf f (fun x => !goodB s so x), ()), (), ()) := by
    refine (congrArg (fun o => Option.bind o fun r5 => sumK r5 (fun y8 => some ((y8.1.1, ()), (), ())) (fun y9 => some (((-1 : Int), ()), (), ()))) h).trans ?_
    simp only [Option.bind_some, sumK_ite, sumK_inl, sumK_inr, idxOf]
    split <;> rfl
  simp only [ContainsFunc_Matrix_impl_MachineOk_1, h2, Option.bind_some, idxOf_ge]
  congr 3
  rw [Bool.eq_iff_iff]; simp
theorem implMachineOk_eq : impl_MachineOk s ws so d e a b c f g = some ((machOk s ws so d e a b c f g, ()), (), ()) := by
  simp only [impl_MachineOk, implMagazineOk_eq hs hw ho hd hd', Option.bind_some, machOk]
  by_cases h1 : magOk s ws so d = true
  · have h1' : fontOk s ws so = true := by simp only [magOk, Bool.and_eq_true] at h1; exact h1.1
    obtain ⟨e1, e2, _⟩ := fontOk_len h1'
    rw [h1, Bool.not_true, br_false, allOf_eq e2 hg, containsGood hs hw ho hd hd' hf hg e1 e2, Option.bind_some, Option.bind_some]
    by_cases h2 : inB e 0 60 = true
    · rw [h2]
      have h2' : 0 ≤ e ∧ e ≤ 60 := by simpa [inB] using h2
      rw [decide_eq_false (by omega : ¬ e < 0), br_false, decide_eq_false (by omega : ¬ e > 60), br_false]
      by_cases h7 : (f.length : Int) > 120
      · rw [decide_eq_true h7, br_true]
        have : fitsB a b c (f.map (widOf ws)) = false := by
          unfold fitsB lineOk
          rw [List.length_map, decide_eq_false (by omega : ¬ (f.length : Int) ≤ 120)]; rfl
        rw [this]
        simp
      · rw [decide_eq_false h7, br_false]
        by_cases h4 : (g.length : Int) > 240
        · rw [decide_eq_true h4, br_true, decide_eq_false (by omega : ¬ (g.length : Int) ≤ 240)]; simp
        · rw [decide_eq_false h4, br_false, decide_eq_true (by omega : (g.length : Int) ≤ 240)]
          by_cases h6 : g.all (ofFont s so) = true
          · rw [h6, Bool.not_true, br_false]
            by_cases h5 : f.all (goodB s so) = true
            · rw [h5, Bool.not_true, br_false, implItems_eq e1 hf (fun m hm => List.all_eq_true.1 h5 m hm), Option.bind_some]
              simp only []
              rw [fits_eq (by simpa using hf)]
              simp
            · rw [Bool.eq_false_iff.2 h5]; simp
          · rw [Bool.eq_false_iff.2 h6]; simp
    · rw [Bool.eq_false_iff.2 h2, br_ite, br_ite]
      have h2' : ¬ (0 ≤ e ∧ e ≤ 60) := by simpa [inB] using h2
      by_cases k1 : e < 0
      · rw [if_pos (by simpa using k1)]; rfl
      · rw [if_neg (by simpa using k1), if_pos (by simp; omega)]; rfl
  · rw [Bool.eq_false_iff.2 h1]; rfl
end
end Go.Tree
namespace Go.Tree
set_option linter.unusedVariables false
set_option linter.unusedSimpArgs false
def markL (k : Int) (n : Nat) : List Int := (List.range n).map fun i : Nat => k + (i : Int)
def markTo (l : List Int) (k : Int) (i : Nat) : List Int := markL k i ++ l.drop i
theorem markL_length (k : Int) (n : Nat) : (markL k n).length = n := by simp [markL]
theorem markTo_length (l : List Int) (k : Int) {i : Nat} (h : i ≤ l.length) : (markTo l k i).length = l.length := by simp [markTo, markL_length]; omega
theorem map_range_set {α : Type} (f : Nat → α) (l : List α) {i : Nat} (h : i < l.length) : ((List.range i).map f ++ l.drop i).set i (f i) = (List.range (i + 1)).map f ++ l.drop (i + 1) := by
  rw [List.set_append_right _ _ (by simp)]
  simp only [List.length_map, List.length_range, Nat.sub_self]
  rw [List.drop_eq_getElem_cons h, List.set_cons_zero, List.range_succ, List.map_append, List.append_assoc]
  rfl
theorem markTo_set (l : List Int) (k : Int) {i : Nat} (h : i < l.length) : (markTo l k i).set i (k + (i : Int)) = markTo l k (i + 1) := map_range_set (fun i : Nat => k + (i : Int)) l h
theorem markTo_all (l : List Int) (k : Int) : markTo l k l.length = markL k l.length := by simp [markTo]
theorem markIntS_eq {l : List Int} {k : Int} (h0 : 0 ≤ k) (h1 : k ≤ 1000000000000) (hl : l.length ≤ 1048576) : laws_markIntS k l = some ((k + (l.length : Int), (), ()), (), (markL k l.length, ())) := by
  have h := loop_for (s := laws_markIntS_s0) (fun i => (((), k + (i : Int), (i : Int), ()), (), (markTo l k i, ()))) l.length (((), k + (l.length : Int), ()), (), (markL k l.length, ())) (by
    intro i hi
    simp only [laws_markIntS_s0, Int.toNat_natCast, br_ite, markTo_length l k (Nat.le_of_lt hi), markTo_set l k hi]
    rw [if_pos (by simpa using hi), ck_pos (by omega), ck_pos hi, ck_pos hi, w64_succ hi (big_len hl), w64_id (by omega) (by omega), show k + (i : Int) + 1 = k + ((i + 1 : Nat) : Int) by omega]) (by
    simp only [laws_markIntS_s0, br_ite, markTo_all, markL_length]
    rw [if_neg (by simp)])
  have e : markTo l k 0 = l := by simp [markTo, markL]
  simp only [e, Int.natCast_zero, Int.add_zero] at h
  exact congrArg (fun o => Option.bind o fun r5 => some ((r5.1.2.1, (), ()), (), (r5.2.2.1, ()))) h
theorem heldIntS_eq {k : Int} {n : Nat} (h0 : 0 ≤ k) (h1 : k ≤ 1000000000000) (hn : n ≤ 1048576) : laws_heldIntS (markL k n) k = some ((k + (n : Int), ()), (), ()) := by
  have hlen := markL_length k n
  have h := loop_for (s := laws_heldIntS_s0) (fun i => ((markL k n, k + (i : Int), (i : Int), ()), (), ())) n (.inr ((k + (n : Int), ()), (), ())) (by
    intro i hi
    have hg : (markL k n).getD i 0 = k + (i : Int) := by rw [List.getD_eq_getElem?_getD]; simp [markL, hi]
    simp only [laws_heldIntS_s0, Int.toNat_natCast, br_ite, hlen, hg]
    rw [if_pos (by simpa using hi), ck_pos (by omega), ck_pos hi, if_neg (by simp), w64_succ hi (big_len hn), w64_id (by omega) (by omega), show k + (i : Int) + 1 = k + ((i + 1 : Nat) : Int) by omega]) (by
    simp only [laws_heldIntS_s0, br_ite, hlen]
    rw [if_neg (by simp)])
  simp only [Int.natCast_zero, Int.add_zero] at h
  exact congrArg (fun o => Option.bind o fun r6 => sumK r6 (fun y9 => some ((y9.1.1, ()), (), ())) (fun y10 => some ((y10.1.1, ()), (), ()))) h
def markP (k : Int) (n : Nat) : List (Int × Int) := (List.range n).map fun i : Nat => (k + 2 * (i : Int), k + 2 * (i : Int) + 1)
def markPTo (l : List (Int × Int)) (k : Int) (i : Nat) : List (Int × Int) := markP k i ++ l.drop i
theorem markP_length (k : Int) (n : Nat) : (markP k n).length = n := by simp [markP]
theorem markPTo_length (l : List (Int × Int)) (k : Int) {i : Nat} (h : i ≤ l.length) : (markPTo l k i).length = l.length := by simp [markPTo, markP_length]; omega
theorem markPTo_set (l : List (Int × Int)) (k : Int) {i : Nat} (h : i < l.length) : (markPTo l k i).set i (k + 2 * (i : Int), k + 2 * (i : Int) + 1) = markPTo l k (i + 1) := map_range_set (fun i : Nat => (k + 2 * (i : Int), k + 2 * (i : Int) + 1)) l h
theorem markPTo_all (l : List (Int × Int)) (k : Int) : markPTo l k l.length = markP k l.length := by simp [markPTo]
theorem markMatrixS_eq {l : List (Int × Int)} {k : Int} (h0 : 0 ≤ k) (h1 : k ≤ 4000000000000) (hl : l.length ≤ 1048576) : laws_markMatrixS k l = some ((k + 2 * (l.length : Int), (), ()), (), (markP k l.length, ())) := by
  have h := loop_for (s := laws_markMatrixS_s0) (fun i => (((), k + 2 * (i : Int), (i : Int), ()), (), (markPTo l k i, ()))) l.length (((), k + 2 * (l.length : Int), ()), (), (markP k l.length, ())) (by
    intro i hi
    simp only [laws_markMatrixS_s0, Int.toNat_natCast, br_ite, List.length_set, markPTo_length l k (Nat.le_of_lt hi)]
    rw [w64_id (x := k + 2 * (i : Int) + 1) (by omega) (by omega)]
    rw [if_pos (by simpa using hi), ck_pos (by omega), ck_pos hi, ck_pos hi, ck_pos (by omega), ck_pos hi, ck_pos hi, w64_succ hi (big_len hl), w64_id (by omega) (by omega)]
    have e1 : ((markPTo l k i).set i (k + 2 * (i : Int), ((markPTo l k i).getD i (0, 0)).2)).getD i (0, 0) = (k + 2 * (i : Int), ((markPTo l k i).getD i (0, 0)).2) := by
      rw [List.getD_eq_getElem?_getD, List.getElem?_set_self (by rw [markPTo_length l k (Nat.le_of_lt hi)]; exact hi)]; rfl
    rw [e1, List.set_set]
    simp only []
    rw [markPTo_set l k hi, show k + 2 * (i : Int) + 1 + 1 = k + 2 * ((i + 1 : Nat) : Int) by omega]) (by
    simp only [laws_markMatrixS_s0, br_ite, markPTo_all, markP_length]
    rw [if_neg (by simp)])
  have e : markPTo l k 0 = l := by simp [markPTo, markP]
  simp only [e, Int.natCast_zero, Int.mul_zero, Int.add_zero] at h
  exact congrArg (fun o => Option.bind o fun r7 => some ((r7.1.2.1, (), ()), (), (r7.2.2.1, ()))) h
/-- lists of matrices, marked one after another -/
def markSS : Int → List (List (Int × Int)) → List (List (Int × Int))
  | _, [] => []
  | k, m :: t => markP k m.length :: markSS (k + 2 * (m.length : Int)) t
def sumLen (l : List (List (Int × Int))) : Int := (l.map fun m => (m.length : Int)).foldr (· + ·) 0
theorem sumLen_cons (m : List (Int × Int)) (t : List (List (Int × Int))) : sumLen (m :: t) = m.length + sumLen t := rfl
theorem sumLen_nonneg : ∀ l : List (List (Int × Int)), 0 ≤ sumLen l
  | [] => by simp [sumLen]
  | m :: t => by have := sumLen_nonneg t; rw [sumLen_cons]; omega
theorem sumLen_append (a b : List (List (Int × Int))) : sumLen (a ++ b) = sumLen a + sumLen b := by
  induction a with
  | nil => simp [sumLen]
  | cons m t ih => rw [List.cons_append, sumLen_cons, sumLen_cons, ih]; omega
theorem sumLen_le (l : List (List (Int × Int))) (h : ∀ m ∈ l, m.length ≤ 1048576) : sumLen l ≤ 1048576 * l.length := by
  induction l with
  | nil => simp [sumLen]
  | cons m t ih => have := ih (fun x hx => h x (List.mem_cons_of_mem _ hx)); have := h m (by simp); rw [sumLen_cons, List.length_cons]; omega
theorem markSS_length : ∀ (k : Int) (l : List (List (Int × Int))), (markSS k l).length = l.length
  | _, [] => rfl
  | k, m :: t => by simp [markSS, markSS_length _ t]
theorem markSS_append : ∀ (k : Int) (a b : List (List (Int × Int))), markSS k (a ++ b) = markSS k a ++ markSS (k + 2 * sumLen a) b
  | k, [], b => by simp [markSS, sumLen]
  | k, m :: t, b => by
    simp only [List.cons_append, markSS, markSS_append _ t b, sumLen_cons]
    congr 3
    omega
theorem markMatrixSS_eq {l : List (List (Int × Int))} {k : Int} (h0 : 0 ≤ k) (h1 : k ≤ 1000000000) (hl : l.length ≤ 1048576) (hm : ∀ m ∈ l, m.length ≤ 1048576) :
    laws_markMatrixSS k l = some ((k + 2 * sumLen l, (), ()), (), (markSS k l, ())) := by
  have h := loop_for (s := laws_markMatrixSS_s0) (fun i => (((), k + 2 * sumLen (l.take i), (i : Int), ()), (), (markSS k (l.take i) ++ l.drop i, ()))) l.length (((), k + 2 * sumLen l, ()), (), (markSS k l, ())) (by
    intro i hi
    have L : (markSS k (l.take i) ++ l.drop i).length = l.length := by simp [markSS_length]; omega
    have L1 : (markSS k (l.take i)).length = i := by simp [markSS_length]; omega
    have hg : (markSS k (l.take i) ++ l.drop i).getD i [] = l[i] := by
      rw [List.getD_eq_getElem?_getD, List.getElem?_append_right (by omega), L1, List.getElem?_drop]
      simp [hi]
    have hb := sumLen_le (l.take i) (fun m h => hm m (List.mem_of_mem_take h))
    have hb0 := sumLen_nonneg (l.take i)
    have hlt : (l.take i).length ≤ 1048576 := by simp; omega
    simp only [laws_markMatrixSS_s0, Int.toNat_natCast, br_ite, L, hg]
    rw [markMatrixS_eq (by omega) (by omega) (hm _ (List.getElem_mem hi))]
    rw [if_pos (by simpa using hi), ck_pos (by omega), ck_pos hi, ck_pos hi, ck_pos trivial, ck_pos hi, ck_pos ⟨trivial, hi⟩, Option.bind_some, ck_pos ⟨trivial, hi⟩, w64_succ hi (big_len hl)]
    have e1 : l.take (i + 1) = l.take i ++ [l[i]] := List.take_succ_eq_append_getElem hi
    have e2 : (markSS k (l.take i) ++ l.drop i).set i (markP (k + 2 * sumLen (l.take i)) l[i].length) = markSS k (l.take (i + 1)) ++ l.drop (i + 1) := by
      rw [List.set_append_right _ _ (by omega), L1, Nat.sub_self, List.drop_eq_getElem_cons hi, List.set_cons_zero, e1, markSS_append, List.append_assoc]
      rfl
    have e3 : k + 2 * sumLen (l.take (i + 1)) = k + 2 * sumLen (l.take i) + 2 * (l[i].length : Int) := by
      rw [e1, sumLen_append, sumLen_cons]; simp only [sumLen, List.map_nil, List.foldr_nil]; omega
    rw [e3, ← e2]) (by
    simp only [laws_markMatrixSS_s0, br_ite, List.take_length, List.drop_length, List.append_nil, markSS_length]
    rw [if_neg (by simp)])
  have e : sumLen [] = 0 := rfl
  simp only [List.take_zero, List.drop_zero, markSS, List.nil_append, e, Int.natCast_zero, Int.mul_zero, Int.add_zero] at h
  exact congrArg (fun o => Option.bind o fun r6 => some ((r6.1.2.1, (), ()), (), (r6.2.2.1, ()))) h
/-- marks of a machine -/
theorem markMachine_eq {a : ByteArray} {b c : List Int} {d : List (List (Int × Int))} {e0 e1 e2 e3 : Int} {f g : List (Int × Int)} {k : Int} (h0 : 0 ≤ k) (h1 : k ≤ 10000000) (hb : b.length ≤ 1048576) (hc : c.length ≤ 1048576)
    (hd : d.length ≤ 1048576) (hd' : ∀ m ∈ d, m.length ≤ 1048576) (hf : f.length ≤ 1048576) (hg : g.length ≤ 1048576) :
    laws_markMachine a e0 e1 e2 e3 k b c d f g = some ((k + b.length + c.length + 2 * sumLen d + 2 * f.length + 2 * g.length, (a, (), (), (), e0, e1, e2, e3, (), (), ()), ()), (),
      (markL k b.length, markL (k + b.length) c.length, markSS (k + b.length + c.length) d, markP (k + b.length + c.length + 2 * sumLen d) f.length, markP (k + b.length + c.length + 2 * sumLen d + 2 * f.length) g.length, ())) := by
  have s0 := sumLen_nonneg d
  have s1 := sumLen_le d hd'
  simp only [laws_markMachine, laws_markFont, markIntS_eq h0 (show k ≤ 1000000000000 by omega) hb, Option.bind_some]
  rw [markIntS_eq (by omega) (by omega) hc, Option.bind_some, Option.bind_some]
  simp only []
  rw [markMatrixSS_eq (by omega) (by omega) hd hd', Option.bind_some]
  simp only []
  rw [markMatrixS_eq (by omega) (by omega) hf, Option.bind_some]
  simp only []
  rw [markMatrixS_eq (by omega) (by omega) hg, Option.bind_some]
end Go.Tree
namespace Go.Tree
set_option linter.unusedVariables false
set_option linter.unusedSimpArgs false
theorem getD_of_lt {α : Type} {l : List α} {d : α} {i : Nat} (h : i < l.length) : l.getD i d = l[i] := by
  rw [List.getD_eq_getElem?_getD, List.getElem?_eq_getElem h]; rfl
/-- a machine -/
structure Mach where
  s : ByteArray
  ws : List Int
  so : List Int
  d : List (List (Int × Int))
  e : Int
  a : Int
  b : Int
  c : Int
  f : List (Int × Int)
  g : List (Int × Int)
structure Mach.Sm (m : Mach) : Prop where
  s : m.s.size ≤ 1048576
  ws : m.ws.length ≤ 1048576
  so : m.so.length ≤ 1048576
  d : m.d.length ≤ 1048576
  d' : ∀ x ∈ m.d, x.length ≤ 1048576
  f : m.f.length ≤ 1048576
  g : m.g.length ≤ 1048576
def Mach.no : Mach := ⟨.empty, [], [], [], 0, 0, 0, 0, [], []⟩
theorem Mach.no_sm : Mach.no.Sm := ⟨by decide, by decide, by decide, by decide, (fun x hx => by cases hx), by decide, by decide⟩
abbrev Mach.ok (m : Mach) : Bool := machOk m.s m.ws m.so m.d m.e m.a m.b m.c m.f m.g
abbrev Mach.top (m : Mach) : ByteArray × Unit × Unit × Unit × Int × Int × Int × Int × Unit × Unit × Unit := (m.s, (), (), (), m.e, m.a, m.b, m.c, (), (), ())
abbrev Mach.obs (m : Mach) : List Int × List Int × List (List (Int × Int)) × List (Int × Int) × List (Int × Int) × Unit := (m.ws, m.so, m.d, m.f, m.g, ())
def Mach.tot (m : Mach) (k : Int) : Int := k + m.ws.length + m.so.length + 2 * sumLen m.d + 2 * m.f.length + 2 * m.g.length
theorem Mach.tot_bound {m : Mach} (h : m.Sm) (k : Int) : k ≤ m.tot k ∧ m.tot k ≤ k + 2300000000000 := by
  have s0 := sumLen_nonneg m.d
  have s1 := sumLen_le m.d h.d'
  have := h.ws; have := h.so; have := h.d; have := h.f; have := h.g
  unfold Mach.tot
  omega
section
variable {m : Mach} (h : m.Sm)
include h
theorem eqM_refl : laws_eqMachine m.s m.ws m.so m.d m.e m.a m.b m.c m.f m.g m.s m.ws m.so m.d m.e m.a m.b m.c m.f m.g = some ((true, ()), (), ()) := eqMachine_refl h.ws h.so h.d h.d' h.f h.g
theorem markM_eq {k : Int} (h0 : 0 ≤ k) (h1 : k ≤ 10000000) : laws_markMachine m.s m.e m.a m.b m.c k m.ws m.so m.d m.f m.g = some ((m.tot k, m.top, ()), (),
    (markL k m.ws.length, markL (k + m.ws.length) m.so.length, markSS (k + m.ws.length + m.so.length) m.d, markP (k + m.ws.length + m.so.length + 2 * sumLen m.d) m.f.length, markP (k + m.ws.length + m.so.length + 2 * sumLen m.d + 2 * m.f.length) m.g.length, ())) :=
  markMachine_eq h0 h1 h.ws h.so h.d h.d' h.f h.g
theorem specOk_eq : spec_MachineOk m.s m.ws m.so m.d m.e m.a m.b m.c m.f m.g = some ((m.ok, ()), (), ()) := specMachineOk_eq h.s h.ws h.so h.d h.d' h.f h.g
theorem implOk_eq : impl_MachineOk m.s m.ws m.so m.d m.e m.a m.b m.c m.f m.g = some ((m.ok, ()), (), ()) := implMachineOk_eq h.s h.ws h.so h.d h.d' h.f h.g
end
theorem mag_parts {s : ByteArray} {ws so : List Int} {d : List (List (Int × Int))} (h : magOk s ws so d = true) : fontOk s ws so = true ∧ d.length = s.size ∧ ∀ c ∈ d, c.length ≤ 20 ∧ ∀ m ∈ c, ofFont s so m = true := by
  simp only [magOk, colB, Bool.and_eq_true, List.all_eq_true, beq_iff_eq, decide_eq_true_eq] at h
  exact ⟨h.1, h.2.1, fun c hc => ⟨by have := (h.2.2 c hc).1; omega, (h.2.2 c hc).2⟩⟩
theorem font_size {s : ByteArray} {ws so : List Int} (h : fontOk s ws so = true) : 1 ≤ s.size ∧ s.size ≤ 40 := by
  simp only [fontOk, inB, Bool.and_eq_true, decide_eq_true_eq] at h
  omega
theorem ofFont_teeth {s : ByteArray} {so : List Int} {m : Int × Int} (h : ofFont s so m = true) : 0 ≤ m.1 ∧ m.1 < s.size ∧ 0 ≤ m.2 ∧ m.2 ≤ 127 := by
  simp only [ofFont, setB, inB, Bool.and_eq_true, decide_eq_true_eq] at h
  omega
theorem ok_parts {m : Mach} (h : m.ok = true) : magOk m.s m.ws m.so m.d = true ∧ (0 ≤ m.e ∧ m.e ≤ 60) ∧ measOk m.a m.b m.c = true ∧ (m.g.length : Int) ≤ 240 ∧ (∀ x ∈ m.f, goodB m.s m.so x = true) ∧ (∀ x ∈ m.g, ofFont m.s m.so x = true) ∧ fitsB m.a m.b m.c (m.f.map (widOf m.ws)) = true := by
  simp only [Mach.ok, machOk, inB, Bool.and_eq_true, decide_eq_true_eq, List.all_eq_true] at h
  exact h
theorem ok_of {m : Mach} (h1 : magOk m.s m.ws m.so m.d = true) (h2 : 0 ≤ m.e ∧ m.e ≤ 60) (h3 : measOk m.a m.b m.c = true) (h4 : (m.g.length : Int) ≤ 240) (h5 : ∀ x ∈ m.f, goodB m.s m.so x = true) (h6 : ∀ x ∈ m.g, ofFont m.s m.so x = true) (h7 : fitsB m.a m.b m.c (m.f.map (widOf m.ws)) = true) : m.ok = true := by
  simp only [Mach.ok, machOk, inB, Bool.and_eq_true, decide_eq_true_eq, List.all_eq_true]
  exact ⟨h1, h2, h3, h4, h5, h6, h7⟩
theorem fits_len {a b c : Int} {l : List Int} (h : fitsB a b c l = true) : l.length ≤ 120 := by
  simp only [fitsB, Bool.and_eq_true] at h
  exact (lineOk_range h.1).1
theorem ok_sm {m : Mach} (h : m.ok = true) : m.Sm := by
  obtain ⟨h1, h2, h3, h4, h5, h6, h7⟩ := ok_parts h
  obtain ⟨hf, hl, hc⟩ := mag_parts h1
  obtain ⟨e1, e2, _⟩ := fontOk_len hf
  have hs := font_size hf
  have hi := fits_len h7
  rw [List.length_map] at hi
  exact ⟨by omega, by omega, by omega, by omega, fun x hx => by have := (hc x hx).1; omega, by omega, by omega⟩
theorem foldl_range {α β : Type} (l : List α) (d : α) (F : β → α → β) (a : β) : (List.range l.length).foldl (fun a i => F a (l.getD i d)) a = l.foldl F a := by
  have gen : ∀ (k : Nat), k ≤ l.length → (List.range k).foldl (fun a i => F a (l.getD i d)) a = (l.take k).foldl F a := by
    intro k
    induction k with
    | zero => intro _; rfl
    | succ k ih =>
      intro hk
      rw [List.range_succ, List.foldl_append, ih (by omega), List.take_succ_eq_append_getElem (by omega), List.foldl_append]
      simp only [List.foldl_cons, List.foldl_nil, getD_of_lt (show k < l.length by omega)]
  rw [gen l.length (Nat.le_refl _), List.take_length]
theorem good_kinds {m : Mach} (hok : m.ok = true) : ∀ x ∈ m.f ++ m.g, (bandB x = decide (x.1 < 0)) ∧ (¬ x.1 < 0 → x.1.toNat < m.d.length) := by
  obtain ⟨h1, h2, h3, h4, h5, h6, h7⟩ := ok_parts hok
  obtain ⟨hf, hl, hc⟩ := mag_parts h1
  intro x hx
  have key : bandB x = true ∨ ofFont m.s m.so x = true := by
    rcases List.mem_append.1 hx with hx | hx
    · have := h5 x hx
      unfold goodB at this
      exact Bool.or_eq_true _ _ ▸ this
    · exact .inr (h6 x hx)
  rcases key with hb | ho
  · have : x.1 = -1 := by
      simp only [bandB, Bool.and_eq_true, beq_iff_eq] at hb
      exact hb.1
    exact ⟨by rw [hb, decide_eq_true (by omega)], fun h => by omega⟩
  · obtain ⟨t1, t2, _, _⟩ := ofFont_teeth ho
    refine ⟨?_, fun _ => by omega⟩
    rw [decide_eq_false (by omega)]
    simp only [bandB, Bool.and_eq_false_iff, beq_eq_false_iff_ne]
    left; omega
end Go.Tree
namespace Go.Tree
set_option linter.unusedVariables false
set_option linter.unusedSimpArgs false
theorem heldMatrixS_eq {k : Int} {n : Nat} (h0 : 0 ≤ k) (h1 : k ≤ 4000000000000) (hn : n ≤ 1048576) : laws_heldMatrixS (markP k n) k = some ((k + 2 * (n : Int), ()), (), ()) := by
  have hlen := markP_length k n
  have h := loop_for (s := laws_heldMatrixS_s0) (fun i => ((markP k n, k + 2 * (i : Int), (i : Int), ()), (), ())) n (.inr ((k + 2 * (n : Int), ()), (), ())) (by
    intro i hi
    have hg : (markP k n).getD i (0, 0) = (k + 2 * (i : Int), k + 2 * (i : Int) + 1) := by rw [List.getD_eq_getElem?_getD]; simp [markP, hi]
    simp only [laws_heldMatrixS_s0, Int.toNat_natCast, br_ite, hlen, hg]
    rw [w64_id (x := k + 2 * (i : Int) + 1) (by omega) (by omega)]
    rw [if_pos (by simpa using hi), ck_pos (by omega), ck_pos hi, if_neg (by simp), ck_pos (by omega), ck_pos hi, if_neg (by simp), w64_succ hi (big_len hn), w64_id (by omega) (by omega), show k + 2 * (i : Int) + 1 + 1 = k + 2 * ((i + 1 : Nat) : Int) by omega]) (by
    simp only [laws_heldMatrixS_s0, br_ite, hlen]
    rw [if_neg (by simp)])
  simp only [Int.natCast_zero, Int.mul_zero, Int.add_zero] at h
  exact congrArg (fun o => Option.bind o fun r8 => sumK r8 (fun y11 => some ((y11.1.1, ()), (), ())) (fun y12 => some ((y12.1.1, ()), (), ()))) h
theorem markSS_get : ∀ (k : Int) (l : List (List (Int × Int))) (i : Nat) (hi : i < l.length), (markSS k l).getD i [] = markP (k + 2 * sumLen (l.take i)) l[i].length
  | k, m :: t, 0, _ => by simp [markSS, sumLen]
  | k, m :: t, i + 1, hi => by
    have ih := markSS_get (k + 2 * (m.length : Int)) t i (by simpa using hi)
    simp only [markSS, List.getD_cons_succ, List.take_succ_cons, List.getElem_cons_succ, sumLen_cons] at ih ⊢
    rw [ih]
    congr 1
    omega
theorem heldMatrixSS_eq {l : List (List (Int × Int))} {k : Int} (h0 : 0 ≤ k) (h1 : k ≤ 1000000000) (hl : l.length ≤ 1048576) (hm : ∀ m ∈ l, m.length ≤ 1048576) :
    laws_heldMatrixSS (markSS k l) k = some ((k + 2 * sumLen l, ()), (), ()) := by
  have hlen := markSS_length k l
  have h := loop_for (s := laws_heldMatrixSS_s0) (fun i => ((markSS k l, k + 2 * sumLen (l.take i), (i : Int), ()), (), ())) l.length (.inr ((k + 2 * sumLen l, ()), (), ())) (by
    intro i hi
    have hb := sumLen_le (l.take i) (fun m h => hm m (List.mem_of_mem_take h))
    have hb0 := sumLen_nonneg (l.take i)
    have hlt : (l.take i).length ≤ 1048576 := by simp; omega
    simp only [laws_heldMatrixSS_s0, Int.toNat_natCast, br_ite, hlen, markSS_get k l i hi]
    rw [heldMatrixS_eq (by omega) (by omega) (hm _ (List.getElem_mem hi)), Option.bind_some]
    have e3 : k + 2 * sumLen (l.take (i + 1)) = k + 2 * sumLen (l.take i) + 2 * (l[i].length : Int) := by
      rw [List.take_succ_eq_append_getElem hi, sumLen_append, sumLen_cons]; simp only [sumLen, List.map_nil, List.foldr_nil]; omega
    rw [if_pos (by simpa using hi), ck_pos (by omega), ck_pos hi]
    simp only []
    rw [if_neg (by simp; omega), w64_succ hi (big_len hl), e3]) (by
    simp only [laws_heldMatrixSS_s0, br_ite, hlen, List.take_length]
    rw [if_neg (by simp)])
  have e : sumLen [] = 0 := rfl
  simp only [List.take_zero, e, Int.natCast_zero, Int.mul_zero, Int.add_zero] at h
  exact congrArg (fun o => Option.bind o fun r6 => sumK r6 (fun y9 => some ((y9.1.1, ()), (), ())) (fun y10 => some ((y10.1.1, ()), (), ()))) h

section
variable {m : Mach} (h : m.Sm)
include h
theorem heldM_eq {k : Int} (h0 : 0 ≤ k) (h1 : k ≤ 10000000) (s : ByteArray) (e a b c : Int) : laws_heldMachine s (markL k m.ws.length) (markL (k + m.ws.length) m.so.length) (markSS (k + m.ws.length + m.so.length) m.d) e a b c (markP (k + m.ws.length + m.so.length + 2 * sumLen m.d) m.f.length)
    (markP (k + m.ws.length + m.so.length + 2 * sumLen m.d + 2 * m.f.length) m.g.length) k = some ((m.tot k, ()), (), ()) := by
  have s0 := sumLen_nonneg m.d
  have s1 := sumLen_le m.d h.d'
  have := h.ws; have := h.so; have := h.d; have := h.f; have := h.g
  have H1 : laws_heldFont s (markL k m.ws.length) (markL (k + m.ws.length) m.so.length) k = some ((k + m.ws.length + m.so.length, ()), (), ()) := by
    simp only [laws_heldFont, heldIntS_eq (k := k) (n := m.ws.length) h0 (by omega) h.ws, Option.bind_some, br_ite]
    rw [if_neg (by simp; omega), heldIntS_eq (by omega) (by omega) h.so, Option.bind_some]
    simp only []
    rw [if_neg (by simp; omega)]
  simp only [laws_heldMachine, H1, Option.bind_some, br_ite]
  rw [if_neg (by simp; omega), heldMatrixSS_eq (by omega) (by omega) h.d h.d', Option.bind_some]
  simp only []
  rw [if_neg (by simp; omega), heldMatrixS_eq (by omega) (by omega) h.f, Option.bind_some]
  simp only []
  rw [if_neg (by simp; omega), heldMatrixS_eq (by omega) (by omega) h.g, Option.bind_some]
  simp only []
  rw [if_neg (by simp; omega)]
  rfl
end
end Go.Tree
namespace Go.Tree
set_option linter.unusedVariables false
set_option linter.unusedSimpArgs false
theorem cloneMat_eq {l : List (Int × Int)} (hl : l.length ≤ 1048576) : Clone_Matrix l = some (((), ()), (), (l, ())) := by
  simp only [Clone_Matrix, List.nil_append, List.length_nil, Nat.zero_add, br_ite]
  have e : ∀ {α : Type} (x : Option α), ck (l.length * 16 ≤ 140737488355328 ∧ l.length ≤ 9223372036854775807) x = x := fun x => ck_pos (by omega) x
  rw [e]
  split
  · rename_i h
    have : l = [] := by simpa using h
    subst this
    exact both_self _
  · rfl
theorem l2Copy_eq {d : List (List (Int × Int))} (hd : d.length ≤ 1048576) (hd' : ∀ c ∈ d, c.length ≤ 1048576) : spec_l2Copy d = some (((), ()), (), (d, ())) := by
  have h := loop_for (s := spec_l2Copy_s0) (fun i => (((), d, (d.length : Int), (i : Int), ()), (), (d.take i, ()))) d.length (((), ()), (), (d, ())) (by
    intro i hi
    have hmem : d.getD i [] ∈ d := getD_mem hi
    have hc := hd' _ hmem
    have hlen : (d.take i).length = i := by simp; omega
    simp only [spec_l2Copy_s0, Int.toNat_natCast, br_ite, List.nil_append, List.length_nil, Nat.zero_add, hlen]
    rw [if_pos (by simpa using hi), ck_pos (by omega), ck_pos hi, ck_pos (by omega), ck_pos (by omega), w64_succ hi (big_len hd), getD_of_lt hi, ← List.take_succ_eq_append_getElem hi]) (by
    simp only [spec_l2Copy_s0, br_ite, List.take_length]
    rw [if_neg (by simp)])
  exact congrArg (fun o => Option.bind o fun r6 => some (((), ()), (), (r6.2.2.1, ()))) h
theorem copyMag_eq {d : List (List (Int × Int))} (hd : d.length ≤ 1048576) (hd' : ∀ c ∈ d, c.length ≤ 1048576) : impl_copyMagazine d = some (((), ()), (), (d, ())) := by
  have h := loop_for (s := impl_copyMagazine_s0) (fun i => (((), d, (d.length : Int), (i : Int), ()), (), (d.take i, ()))) d.length (((), ()), (), (d, ())) (by
    intro i hi
    have hmem : d.getD i [] ∈ d := getD_mem hi
    have hc := hd' _ hmem
    have hlen : (d.take i).length = i := by simp; omega
    simp only [impl_copyMagazine_s0, Int.toNat_natCast, br_ite, cloneMat_eq hc, Option.bind_some, hlen]
    rw [if_pos (by simpa using hi), ck_pos (by omega), ck_pos hi, ck_pos (by omega), w64_succ hi (big_len hd), getD_of_lt hi, ← List.take_succ_eq_append_getElem hi]) (by
    simp only [impl_copyMagazine_s0, br_ite, List.take_length]
    rw [if_neg (by simp)])
  exact congrArg (fun o => Option.bind o fun r6 => some (((), ()), (), (r6.2.2.1, ()))) h
theorem cloneInt_eq {l : List Int} (hl : l.length ≤ 1048576) : Clone_int l = some (((), ()), (), (l, ())) := by
  simp only [Clone_int, List.nil_append, List.length_nil, Nat.zero_add, br_ite]
  have e : ∀ {α : Type} (x : Option α), ck (l.length * 8 ≤ 140737488355328 ∧ l.length ≤ 9223372036854775807) x = x := fun x => ck_pos (by omega) x
  rw [e]
  split
  · rename_i h
    have : l = [] := by simpa using h
    subst this
    exact both_self _
  · rfl
section
variable {m : Mach} (h : m.Sm)
include h
theorem l5Copy_eq : spec_l5Copy m.s m.ws m.so m.d m.e m.a m.b m.c m.f m.g = some ((m.top, ()), (), m.obs) := by
  have := h.ws; have := h.so; have := h.f; have := h.g
  simp only [spec_l5Copy, l2Copy_eq h.d h.d', List.nil_append, List.length_nil, Nat.zero_add, Option.bind_some]
  rw [ck_pos (by omega), ck_pos (by omega), ck_pos (by omega), ck_pos (by omega)]
theorem copyM_eq : impl_copyMachine m.s m.ws m.so m.d m.e m.a m.b m.c m.f m.g = some ((m.top, ()), (), m.obs) := by
  simp only [impl_copyMachine, copyMag_eq h.d h.d', cloneInt_eq h.ws, cloneInt_eq h.so, cloneMat_eq h.f, cloneMat_eq h.g, Option.bind_some]
end
end Go.Tree
namespace Go.Tree
set_option linter.unusedVariables false
set_option linter.unusedSimpArgs false
def fillR (so : List Int) (n : Nat) (i : Nat) : List (Int × Int) := List.replicate n ((i : Int), so.getD i 0)
def fillD (so : List Int) (n k : Nat) : List (List (Int × Int)) := (List.range k).map (fillR so n)
theorem rep_single {α : Type} (x : α) : ∀ n, (List.replicate n [x]).flatten = List.replicate n x
  | 0 => rfl
  | n + 1 => by rw [List.replicate_succ, List.flatten_cons, rep_single x n]; rfl
theorem implFill_loop {so : List Int} {n : Int} (h0 : 0 ≤ n) (h1 : n ≤ 20) (hl : so.length ≤ 1048576) :
    loopC impl_FillMagazine_s0 ((n, (), so, (so.length : Int), (0 : Int), ()), (), ([], ())) = some (((), ()), (), (fillD so n.toNat so.length, ())) :=
  loop_for (s := impl_FillMagazine_s0) (fun i => ((n, (), so, (so.length : Int), (i : Int), ()), (), (fillD so n.toNat i, ()))) so.length (((), ()), (), (fillD so n.toNat so.length, ())) (by
    intro i hi
    have hlen : (fillD so n.toNat i).length = i := by simp [fillD]
    have hrep : Repeat_Matrix [((i : Int), so.getD i 0)] n = some (((), ()), (), (fillR so n.toNat i, ())) := by
      unfold Repeat_Matrix repMF
      rw [if_pos ⟨by simp, by simp, h0, by omega⟩, rep_single]
      rfl
    have hs : fillD so n.toNat i ++ [fillR so n.toNat i] = fillD so n.toNat (i + 1) := by simp [fillD, List.range_succ]
    simp only [impl_FillMagazine_s0, Int.toNat_natCast, br_ite, hrep, Option.bind_some, hlen, hs]
    rw [if_pos (by simpa using hi), ck_pos (by omega), ck_pos hi, ck_pos (by omega), w64_succ hi (big_len hl)]) (by
    simp only [impl_FillMagazine_s0, br_ite]
    rw [if_neg (by simp)])
/-- row number i is being filled: k are in -/
def gFill (so : List Int) (n i k j : Nat) : List (Int × Int) := if j < i then fillR so n j else if j = i then List.replicate k ((i : Int), so.getD i 0) else []
def mFill (so : List Int) (n i k L : Nat) : List (List (Int × Int)) := (List.range L).map (gFill so n i k)
theorem mFill_len (so : List Int) (n i k L : Nat) : (mFill so n i k L).length = L := by simp [mFill]
theorem mFill_get (so : List Int) (n : Nat) {i L : Nat} (k : Nat) (h : i < L) : (mFill so n i k L).getD i [] = List.replicate k ((i : Int), so.getD i 0) := by
  unfold mFill
  rw [List.getD_eq_getElem?_getD, List.getElem?_map, List.getElem?_range h]
  simp [gFill]
theorem mFill_set (so : List Int) (n i k L : Nat) : (mFill so n i k L).set i (List.replicate (k + 1) ((i : Int), so.getD i 0)) = mFill so n i (k + 1) L := by
  apply List.ext_getElem?
  intro j
  rw [List.getElem?_set]
  unfold mFill
  by_cases hj : j < L
  · simp only [List.getElem?_map, List.getElem?_range hj, Option.map_some, List.length_map, List.length_range]
    by_cases e : i = j
    · subst e
      rw [if_pos rfl, if_pos hj]
      simp [gFill]
    · rw [if_neg e]
      simp [gFill, Ne.symm e]
  · have : (List.range L)[j]? = none := by simp; omega
    simp only [List.getElem?_map, this, Option.map_none, List.length_map, List.length_range]
    split
    · rename_i e; rw [if_neg (by omega)]
    · rfl
theorem mFill_next (so : List Int) (n i L : Nat) : mFill so n i n L = mFill so n (i + 1) 0 L := by
  unfold mFill
  congr 1
  funext j
  unfold gFill
  by_cases h1 : j < i
  · rw [if_pos h1, if_pos (by omega)]
  · rw [if_neg h1]
    by_cases h2 : j = i
    · subst h2; rw [if_pos rfl, if_pos (by omega)]; rfl
    · rw [if_neg h2, if_neg (by omega)]
      split <;> rfl
theorem mFill_zero (so : List Int) (n L : Nat) : mFill so n 0 0 L = List.replicate L [] := by
  apply List.ext_getElem?
  intro j
  unfold mFill
  by_cases hj : j < L
  · simp only [List.getElem?_map, List.getElem?_range hj, Option.map_some]
    simp [gFill, hj]
  · have : (List.range L)[j]? = none := by simp; omega
    rw [List.getElem?_map, this]
    simp; omega
theorem mFill_all (so : List Int) (n L : Nat) : mFill so n L 0 L = fillD so n L := by
  unfold mFill fillD
  apply List.map_congr_left
  intro j hj
  simp only [List.mem_range] at hj
  simp [gFill, hj]
theorem specFill_in {so : List Int} {n : Int} (h0 : 0 ≤ n) (h1 : n ≤ 20) {i L : Nat} (hi : i < L) (u : Int) (v : Int) :
    loopC spec_FillMagazine_s2 ((n, (), (i : Int), so.getD i 0, (0 : Int), so, v, (i : Int), ()), (), (mFill so n.toNat i 0 L, ())) = some ((n, (), so, v, (i : Int), ()), (), (mFill so n.toNat i n.toNat L, ())) :=
  loop_for (s := spec_FillMagazine_s2) (fun k => ((n, (), (i : Int), so.getD i 0, (k : Int), so, v, (i : Int), ()), (), (mFill so n.toNat i k L, ()))) n.toNat ((n, (), so, v, (i : Int), ()), (), (mFill so n.toNat i n.toNat L, ())) (by
    intro k hk
    have e1 := mFill_get so n.toNat k hi
    have e2 := mFill_set so n.toNat i k L
    have hap : List.replicate k ((i : Int), so.getD i 0) ++ [((i : Int), so.getD i 0)] = List.replicate (k + 1) ((i : Int), so.getD i 0) := by
      rw [List.replicate_succ']
    simp only [spec_FillMagazine_s2, Int.toNat_natCast, br_ite, mFill_len, e1, hap, e2]
    rw [if_pos (by rw [decide_eq_true_eq]; omega), ck_pos (by omega), ck_pos hi, ck_pos hi, ck_pos hi, ck_pos (by simp; omega), ck_pos (by omega), ck_pos hi, ck_pos ⟨trivial, hi⟩, w64_succ (n := n.toNat) hk (by unfold maxLen; omega)]) (by
    simp only [spec_FillMagazine_s2, br_ite]
    rw [if_neg (by rw [decide_eq_true_eq]; omega)])
theorem specFill_loop {so : List Int} {n : Int} (h0 : 0 ≤ n) (h1 : n ≤ 20) (hl : so.length ≤ 1048576) :
    loopC spec_FillMagazine_s0 ((n, (), so, (so.length : Int), (0 : Int), ()), (), (List.replicate so.length [], ())) = some (((), ()), (), (fillD so n.toNat so.length, ())) := by
  have h := loop_for (s := spec_FillMagazine_s0) (fun i => ((n, (), so, (so.length : Int), (i : Int), ()), (), (mFill so n.toNat i 0 so.length, ()))) so.length (((), ()), (), (fillD so n.toNat so.length, ())) (by
    intro i hi
    simp only [spec_FillMagazine_s0, Int.toNat_natCast, br_ite, specFill_in h0 h1 hi 0, Option.bind_some, mFill_next]
    rw [if_pos (by simpa using hi), ck_pos (by omega), ck_pos hi, w64_succ hi (big_len hl)]) (by
    simp only [spec_FillMagazine_s0, br_ite, mFill_all]
    rw [if_neg (by simp)])
  rw [mFill_zero] at h
  exact h
def fillB (s : ByteArray) (ws so : List Int) (n : Int) : Bool := fontOk s ws so && inB n 0 20
section
variable {s : ByteArray} {ws so : List Int} (hs : s.size ≤ 1048576) (hw : ws.length ≤ 1048576) (ho : so.length ≤ 1048576)
include hs hw ho
theorem specFill_eq (n : Int) : spec_FillMagazine s ws so n = some (((), fillB s ws so n, ()), (), (if fillB s ws so n = true then fillD so n.toNat so.length else [], ())) := by
  simp only [spec_FillMagazine, specFontOk_eq hs hw ho, l1In_eq, Option.bind_some]
  by_cases hf : fontOk s ws so = true
  · by_cases hn : inB n 0 20 = true
    · obtain ⟨_, e, _⟩ := fontOk_len hf
      have hn' : 0 ≤ n ∧ n ≤ 20 := by simpa [inB] using hn
      have hb : fillB s ws so n = true := by unfold fillB; rw [hf, hn]; rfl
      rw [hb, hf, hn]
      simp only [Bool.not_true, br_false, Int.toNat_natCast, if_true]
      rw [ck_pos (by omega), ck_pos (by omega), ck_pos ⟨trivial, by omega, by omega⟩, ← e, specFill_loop hn'.1 hn'.2 ho]
      rfl
    · have hb : fillB s ws so n = false := by unfold fillB; rw [Bool.eq_false_iff.2 hn, Bool.and_false]
      rw [hb, hf, Bool.eq_false_iff.2 hn]; rfl
  · have hb : fillB s ws so n = false := by unfold fillB; rw [Bool.eq_false_iff.2 hf, Bool.false_and]
    rw [hb, Bool.eq_false_iff.2 hf]; rfl
theorem implFill_eq (n : Int) : impl_FillMagazine s ws so n = some (((), fillB s ws so n, ()), (), (if fillB s ws so n = true then fillD so n.toNat so.length else [], ())) := by
  simp only [impl_FillMagazine, implFontOk_eq hs hw ho, Option.bind_some]
  by_cases hf : fontOk s ws so = true
  · by_cases hn : 0 ≤ n ∧ n ≤ 20
    · have hb : fillB s ws so n = true := by unfold fillB; rw [hf]; simpa [inB] using hn
      rw [hb, hf, decide_eq_false (by omega), decide_eq_false (by omega)]
      simp only [Bool.not_true, br_false, if_true]
      rw [implFill_loop hn.1 hn.2 ho]
      rfl
    · have hb : fillB s ws so n = false := by
        unfold fillB inB
        rw [decide_eq_false hn, Bool.and_false]
      rw [hb, hf]
      by_cases k : n < 0
      · rw [decide_eq_true k]; rfl
      · rw [decide_eq_false k, decide_eq_true (by omega)]; rfl
  · have hb : fillB s ws so n = false := by unfold fillB; rw [Bool.eq_false_iff.2 hf, Bool.false_and]
    rw [hb, Bool.eq_false_iff.2 hf]; rfl
end
theorem fillD_sm (so : List Int) (n : Int) (h1 : n ≤ 20) : (fillD so n.toNat so.length).length = so.length ∧ ∀ x ∈ fillD so n.toNat so.length, x.length ≤ 1048576 := by
  refine ⟨by simp [fillD], fun x hx => ?_⟩
  unfold fillD at hx
  obtain ⟨i, _, rfl⟩ := List.mem_map.1 hx
  simp [fillR]; omega
def newMa (s : ByteArray) (ws so : List Int) (n e a b c : Int) : Mach := ⟨s, ws, so, fillD so n.toNat so.length, e, a, b, c, [], []⟩
def newM (s : ByteArray) (ws so : List Int) (n e a b c : Int) : Mach × Bool := if (fillB s ws so n && (newMa s ws so n e a b c).ok) = true then (newMa s ws so n e a b c, true) else (Mach.no, false)
section
variable {s : ByteArray} {ws so : List Int} (hs : s.size ≤ 1048576) (hw : ws.length ≤ 1048576) (ho : so.length ≤ 1048576)
include hs hw ho
theorem newMa_sm (n e a b c : Int) (h1 : n ≤ 20) : (newMa s ws so n e a b c).Sm := by
  obtain ⟨k1, k2⟩ := fillD_sm so n h1
  exact ⟨hs, hw, ho, by show (fillD so n.toNat so.length).length ≤ _; omega, k2, by show 0 ≤ _; omega, by show 0 ≤ _; omega⟩
theorem newM_sm (n e a b c : Int) : (newM s ws so n e a b c).1.Sm := by
  unfold newM
  split
  · rename_i h
    simp only [Bool.and_eq_true, fillB] at h
    have hn' : 0 ≤ n ∧ n ≤ 20 := by simpa [inB] using h.1.2
    exact newMa_sm hs hw ho n e a b c hn'.2
  · exact Mach.no_sm
theorem specNew_eq (n e a b c : Int) : spec_NewMachine s ws so n e a b c = some (((newM s ws so n e a b c).1.top, (newM s ws so n e a b c).2, ()), (), (newM s ws so n e a b c).1.obs) := by
  simp only [spec_NewMachine, specFill_eq hs hw ho, Option.bind_some, newM]
  cases hf : fillB s ws so n with
  | false => rfl
  | true =>
    have hn' : 0 ≤ n ∧ n ≤ 20 := by
      simp only [Bool.and_eq_true, fillB] at hf
      simpa [inB] using hf.2
    have sm := newMa_sm hs hw ho n e a b c hn'.2
    have e1 : spec_MachineOk s ws so (fillD so n.toNat so.length) e a b c [] [] = some (((newMa s ws so n e a b c).ok, ()), (), ()) := specOk_eq sm
    have e2 : spec_l5Copy s ws so (fillD so n.toNat so.length) e a b c [] [] = some (((newMa s ws so n e a b c).top, ()), (), (newMa s ws so n e a b c).obs) := l5Copy_eq sm
    simp only [Bool.not_true, br_false, if_true, e1, e2, Option.bind_some]
    cases hm : (newMa s ws so n e a b c).ok <;> rfl
theorem implNew_eq (n e a b c : Int) : impl_NewMachine s ws so n e a b c = some (((newM s ws so n e a b c).1.top, (newM s ws so n e a b c).2, ()), (), (newM s ws so n e a b c).1.obs) := by
  simp only [impl_NewMachine, implFill_eq hs hw ho, Option.bind_some, newM]
  cases hf : fillB s ws so n with
  | false => rfl
  | true =>
    have hn' : 0 ≤ n ∧ n ≤ 20 := by
      simp only [Bool.and_eq_true, fillB] at hf
      simpa [inB] using hf.2
    have sm := newMa_sm hs hw ho n e a b c hn'.2
    have e1 : impl_MachineOk s ws so (fillD so n.toNat so.length) e a b c [] [] = some (((newMa s ws so n e a b c).ok, ()), (), ()) := implOk_eq sm
    have e2 : impl_copyMachine s ws so (fillD so n.toNat so.length) e a b c [] [] = some (((newMa s ws so n e a b c).top, ()), (), (newMa s ws so n e a b c).obs) := copyM_eq sm
    simp only [Bool.not_true, br_false, if_true, e1, e2, Option.bind_some]
    cases hm : (newMa s ws so n e a b c).ok <;> rfl
end
end Go.Tree
namespace Go.Tree
set_option linter.unusedVariables false
set_option linter.unusedSimpArgs false
theorem eqStr_nil : laws_eqStringS [] [] = some ((true, ()), (), ()) := by
  have h : loopC laws_eqStringS_s0 (([], [], (0 : Int), ()), (), ()) = some (.inr ((), (), ())) := loop_out rfl
  simp only [laws_eqStringS, List.length_nil, bne_self_eq_false, br_false]
  exact (congrArg (fun o => Option.bind o _) h)
theorem markStr_nil (k : Int) : laws_markStringS k = some ((k, (), ()), (), ()) := by
  have h : loopC laws_markStringS_s0 (((), k, (0 : Int), ()), (), ()) = some (((), k, ()), (), ()) := loop_out rfl
  unfold laws_markStringS
  rw [h]; rfl
theorem heldStr_nil (k : Int) : laws_heldStringS [] k = some ((k, ()), (), ()) := by
  have h : loopC laws_heldStringS_s0 (([], k, (0 : Int), ()), (), ()) = some (.inr ((k, ()), (), ())) := loop_out rfl
  unfold laws_heldStringS
  rw [h]; rfl
def desk0 : Mach × Bool := newM (ByteArray.mk #[97, 101, 105, 110, 111, 115, 116]) [5, 5, 3, 6, 6, 5, 4] [3, 5, 6, 9, 10, 12, 17] 10 20 60 2 8
theorem desk0_sm : desk0.1.Sm := newM_sm (by decide) (by decide) (by decide) _ _ _ _ _
abbrev Mach.dtop (m : Mach) : ByteArray × Unit × Unit × Unit × Int × Int × Int × Int × Unit × Unit × Unit × Unit := (m.s, (), (), (), m.e, m.a, m.b, m.c, (), (), (), ())
theorem specDesk_eq : spec_NewDesk = some ((desk0.1.dtop, ()), (), desk0.1.obs) := by
  have h := specNew_eq (s := ByteArray.mk #[97, 101, 105, 110, 111, 115, 116]) (ws := [5, 5, 3, 6, 6, 5, 4]) (so := [3, 5, 6, 9, 10, 12, 17]) (by decide) (by decide) (by decide) 10 20 60 2 8
  unfold spec_NewDesk
  rw [h]; rfl
theorem implDesk_eq : impl_NewDesk = some ((desk0.1.dtop, ()), (), desk0.1.obs) := by
  have h := implNew_eq (s := ByteArray.mk #[97, 101, 105, 110, 111, 115, 116]) (ws := [5, 5, 3, 6, 6, 5, 4]) (so := [3, 5, 6, 9, 10, 12, 17]) (by decide) (by decide) (by decide) 10 20 60 2 8
  unfold impl_NewDesk
  rw [h]; rfl
theorem law_Desk : laws_FnExactNewDesk = some ((true, ()), (), ()) := by
  have S := specDesk_eq
  have I := implDesk_eq
  have sm2 := desk0_sm
  generalize desk0.1 = y at *
  have Q2 := eqM_refl sm2
  have M := markM_eq sm2 (k := 1) (by omega) (by omega)
  have H2 := heldM_eq sm2 (k := 1) (by omega) (by omega)
  have b2 := Mach.tot_bound sm2 1
  have d2 : decide (y.tot 1 < 0) = false := decide_eq_false (by omega)
  simp only [laws_FnExactNewDesk, S, I, Option.bind_some, laws_eqDesk, laws_markDesk, laws_heldDesk, Q2, M, H2, eqStr_nil, markStr_nil, heldStr_nil, Bool.not_true, br_false, bne_self_eq_false, d2]
theorem row_NewDesk : ∀ x : laws_FnExactNewDesk_C.arg.den, wfP laws_FnExactNewDesk_C.arg.tm x.1 → ∃ y : altDen laws_FnExactNewDesk_C.res, laws_FnExactNewDesk_C.F x = some y ∧ (altMk laws_FnExactNewDesk_C.res y).tm = [(0, .c (.v (.bool true)))] :=
  fun x hx => ⟨((true, ()), (), ()), law_Desk, rfl⟩
end Go.Tree
