/- What the functions of the law FnLines answer, in plain Lean, with no program in sight. No condition but the bounds of lengths. -/
import Derived.Test.YtfgeijlcmepdlaaK8
import Derived.Test.YtfgeijlcmepdlaaPFnLines
import Derived.Lib.Strings
namespace Go.Tree
set_option linter.unusedVariables false

@[simp] theorem br_true {α : Type} (x y : α) : br true x y = x := rfl
@[simp] theorem br_false {α : Type} (x y : α) : br false x y = y := rfl
theorem br_ite {α : Type} (b : Bool) (x y : α) : br b x y = if b = true then x else y := by cases b <;> rfl
@[simp] theorem sumK_inl {X Y α : Type} (z : X) (f : X → α) (g : Y → α) : sumK (.inl z : X ⊕ Y) f g = f z := rfl
@[simp] theorem sumK_inr {X Y α : Type} (z : Y) (f : X → α) (g : Y → α) : sumK (.inr z : X ⊕ Y) f g = g z := rfl
theorem sumK_ite {X Y α : Type} (p : Prop) [Decidable p] (a b : X ⊕ Y) (f : X → α) (g : Y → α) : sumK (if p then a else b) f g = if p then sumK a f g else sumK b f g := by split <;> rfl
theorem ck_pos {α : Type} {p : Prop} [Decidable p] (h : p) (x : Option α) : ck p x = x := ck_yes h x
theorem w64_id {x : Int} (h1 : -9223372036854775808 ≤ x) (h2 : x ≤ 9223372036854775807) : w64 x = x := by
  simp only [w64, IntKind.wrap, IntKind.bits, IntKind.signed, Bool.true_and]
  by_cases h : x % 2 ^ 64 ≥ 2 ^ (64 - 1)
  · rw [if_pos (by simpa using h)]; omega
  · rw [if_neg (by simpa using h)]; omega
theorem w64_succ {i n : Nat} (h : i < n) (hn : n ≤ maxLen) : w64 ((i : Int) + 1) = ((i + 1 : Nat) : Int) := by
  unfold maxLen at hn
  rw [w64_id] <;> omega
section
variable {X Z : Type} {s : X → Option (X ⊕ Z)}
theorem loop_step {x y : X} (h : s x = some (.inl y)) : loopC s x = loopC s y := by rw [loopC_eq, h]
theorem loop_out {x : X} {z : Z} (h : s x = some (.inr z)) : loopC s x = some z := by rw [loopC_eq, h]

/-- a counted loop that may leave early -/
theorem loop_findFrom (st : Nat → X) (n : Nat) (f : Nat → Option Z) (done : Z)
    (hs : ∀ i, i < n → s (st i) = some (match f i with | some z => .inr z | none => .inl (st (i + 1)))) (hd : s (st n) = some (.inr done)) : ∀ k i, i + k = n →
    loopC s (st i) = some (((List.range' i k).findSome? f).getD done)
  | 0, i, e => by
    have : i = n := by omega
    subst this
    rw [loop_out hd]; rfl
  | k + 1, i, e => by
    have h := hs i (by omega)
    rw [List.range'_succ, List.findSome?_cons]
    cases hf : f i with
    | some z => rw [hf] at h; rw [loop_out h]; rfl
    | none => rw [hf] at h; rw [loop_step h]; exact loop_findFrom st n f done hs hd k (i + 1) (by omega)
theorem loop_find (st : Nat → X) (n : Nat) (f : Nat → Option Z) (done : Z)
    (hs : ∀ i, i < n → s (st i) = some (match f i with | some z => .inr z | none => .inl (st (i + 1)))) (hd : s (st n) = some (.inr done)) :
    loopC s (st 0) = some (((List.range n).findSome? f).getD done) := by
  rw [loop_findFrom st n f done hs hd n 0 (by omega), List.range_eq_range']
/-- a loop that leaves at the first index that fails -/
theorem loop_allI (st : Nat → X) (n : Nat) (p : Nat → Bool) (z done : Z)
    (hs : ∀ i, i < n → s (st i) = some (if p i = true then .inl (st (i + 1)) else .inr z)) (hd : s (st n) = some (.inr done)) :
    loopC s (st 0) = some (if (List.range n).all p = true then done else z) := by
  rw [loop_find st n (fun i => if p i = true then none else some z) done (fun i hi => by rw [hs i hi]; split <;> rfl) hd]
  congr 1
  generalize List.range n = l
  induction l with
  | nil => rfl
  | cons a l ih => rw [List.findSome?_cons, List.all_cons]; by_cases h : p a = true <;> simp [h, ih]
theorem range_all {α : Type} (l : List α) (d : α) (p : α → Bool) : (List.range l.length).all (fun i => p (l.getD i d)) = l.all p := by
  rw [Bool.eq_iff_iff, List.all_eq_true, List.all_eq_true]
  constructor
  · intro h x hx
    obtain ⟨i, hi, rfl⟩ := List.mem_iff_getElem.1 hx
    have := h i (List.mem_range.2 hi)
    rwa [List.getD_eq_getElem?_getD, List.getElem?_eq_getElem hi] at this
  · intro h i hi
    have hi' := List.mem_range.1 hi
    rw [List.getD_eq_getElem?_getD, List.getElem?_eq_getElem hi']
    exact h _ (List.getElem_mem hi')
/-- a loop over a list that leaves at the first element that fails -/
theorem loop_all {α : Type} (l : List α) (d : α) (st : Nat → X) (p : α → Bool) (z done : Z)
    (hs : ∀ i, i < l.length → s (st i) = some (if p (l.getD i d) = true then .inl (st (i + 1)) else .inr z)) (hd : s (st l.length) = some (.inr done)) :
    loopC s (st 0) = some (if l.all p = true then done else z) := by
  rw [loop_allI st l.length (fun i => p (l.getD i d)) z done hs hd, range_all]
/-- a loop that finds the first index that holds -/
theorem loop_idx {α : Type} (l : List α) (d : α) (st : Nat → X) (p : α → Bool) (found : Nat → Z) (done : Z)
    (hs : ∀ i, i < l.length → s (st i) = some (if p (l.getD i d) = true then .inr (found i) else .inl (st (i + 1)))) (hd : s (st l.length) = some (.inr done)) :
    loopC s (st 0) = some (if l.findIdx p < l.length then found (l.findIdx p) else done) := by
  have go : ∀ k i, i + k = l.length → (∀ j, j < i → p (l.getD j d) = false) → loopC s (st i) = some (if l.findIdx p < l.length then found (l.findIdx p) else done) := by
    intro k
    induction k with
    | zero =>
      intro i hi hp
      have : i = l.length := by omega
      subst this
      rw [loop_out hd, List.findIdx_eq_length_of_false, if_neg (by omega)]
      intro x hx
      obtain ⟨j, hj, rfl⟩ := List.mem_iff_getElem.1 hx
      have := hp j hj
      rwa [List.getD_eq_getElem?_getD, List.getElem?_eq_getElem hj] at this
    | succ k ih =>
      intro i hi hp
      have h := hs i (by omega)
      split at h
      · rename_i hpi
        have e : l.findIdx p = i := by
          rw [List.findIdx_eq (by omega)]
          rw [List.getD_eq_getElem?_getD, List.getElem?_eq_getElem (by omega)] at hpi
          refine ⟨hpi, fun j hj => ?_⟩
          have := hp j hj
          rwa [List.getD_eq_getElem?_getD, List.getElem?_eq_getElem (by omega)] at this
        rw [loop_out h, e, if_pos (by omega)]
      · rename_i hpi
        rw [loop_step h]
        refine ih (i + 1) (by omega) fun j hj => ?_
        by_cases hji : j = i
        · subst hji; simpa using hpi
        · exact hp j (by omega)
  exact go l.length 0 (by omega) (fun j hj => by omega)
/-- a counted loop that carries a thing along -/
theorem loop_acc {A : Type} (st : Nat → A → X) (n : Nat) (f : Nat → A → A) (I : Nat → A → Prop) (out : A → Z)
    (hs : ∀ i a, i < n → I i a → s (st i a) = some (.inl (st (i + 1) (f i a))) ∧ I (i + 1) (f i a)) (hd : ∀ a, I n a → s (st n a) = some (.inr (out a))) (a : A) (h0 : I 0 a) :
    loopC s (st 0 a) = some (out ((List.range n).foldl (fun a i => f i a) a)) ∧ I n ((List.range n).foldl (fun a i => f i a) a) := by
  have go : ∀ k i a, i + k = n → I i a → loopC s (st i a) = some (out ((List.range' i k).foldl (fun a i => f i a) a)) ∧ I n ((List.range' i k).foldl (fun a i => f i a) a) := by
    intro k
    induction k with
    | zero =>
      intro i a hi hI
      have : i = n := by omega
      subst this
      exact ⟨loop_out (hd a hI), hI⟩
    | succ k ih =>
      intro i a hi hI
      obtain ⟨h1, h2⟩ := hs i a (by omega) hI
      rw [loop_step h1, List.range'_succ, List.foldl_cons]
      exact ih (i + 1) _ (by omega) h2
  rw [List.range_eq_range']
  exact go n 0 a (by omega) h0
/-- a counted loop whose state is known at every turn -/
theorem loop_for (st : Nat → X) (n : Nat) (done : Z) (hs : ∀ i, i < n → s (st i) = some (.inl (st (i + 1)))) (hd : s (st n) = some (.inr done)) : loopC s (st 0) = some done := by
  rw [loop_find st n (fun _ => none) done (fun i hi => by rw [hs i hi]) hd]
  congr 1
  generalize List.range n = l
  induction l with
  | nil => rfl
  | cons a l ih => simpa using ih
end
end Go.Tree
namespace Go.Tree
set_option linter.unusedVariables false
set_option linter.unusedSimpArgs false

theorem big_len {n : Nat} (h : n ≤ 1048576) : n ≤ maxLen := by unfold maxLen; omega
/-- what a size says -/
def Sz (F : Option ((Int × Unit) × Unit × Unit)) (n : Int) (Q : Prop) : Prop := ∃ r : Int, F = some ((r, ()), (), ()) ∧ -1 ≤ r ∧ r ≤ n ∧ (0 ≤ r → Q)
/-- size after size -/
theorem Sz.bind {F : Option ((Int × Unit) × Unit × Unit)} {n : Int} {Q R : Prop} (h : Sz F n Q) {G : (Int × Unit) × Unit × Unit → Option ((Int × Unit) × Unit × Unit)}
    (hG : ∀ r, 0 ≤ r → r ≤ n → Q → Sz (G ((r, ()), (), ())) n R) : Sz (F.bind fun r => br (decide (r.1.1 < (0 : Int))) (some (((-1 : Int), ()), (), ())) (G r)) n R := by
  obtain ⟨r, rfl, h1, h2, h3⟩ := h
  rw [Option.bind_some, br_ite]
  by_cases h : r < 0
  · rw [if_pos (by simpa using h)]; exact ⟨-1, rfl, by omega, by omega, by omega⟩
  · rw [if_neg (by simpa using h)]; exact hG r (by omega) h2 (h3 (by omega))
end Go.Tree
namespace Go.Tree
set_option linter.unusedVariables false
set_option linter.unusedSimpArgs false
theorem strEq_refl (a : ByteArray) : strEq a a = true := by simp [strEq]
end Go.Tree
namespace Go.Tree
set_option linter.unusedVariables false
set_option linter.unusedSimpArgs false

theorem getD_mem {α : Type} {l : List α} {d : α} {i : Nat} (h : i < l.length) : l.getD i d ∈ l := by
  rw [List.getD_eq_getElem?_getD, List.getElem?_eq_getElem h]; exact List.getElem_mem h
abbrev inB (a lo hi : Int) : Bool := decide (lo ≤ a ∧ a ≤ hi)
def part (a b : Int) : Bool := bAndNot .i64 a b == 0
def setB (a : Int) : Bool := inB a 0 127
def fallN (bar : List Int) (k : Int) : Nat := bar.findIdx fun s => part k s

theorem l1In_eq (a b c : Int) : spec_l1In a b c = some ((inB a b c, ()), (), ()) := by
  simp only [spec_l1In, br_ite, decide_eq_true_eq]
  split <;> simp_all [inB]
  omega
theorem l1Part_eq (a b : Int) : spec_l1Part a b = some ((part a b, ()), (), ()) := rfl
theorem l1Set_eq (a : Int) : spec_l1Set a = some ((setB a, ()), (), ()) := by simp only [spec_l1Set, l1In_eq, Option.bind_some]; rfl
theorem isSet_eq (a : Int) : impl_isSet a = some ((setB a, ()), (), ()) := by
  simp only [impl_isSet, br_ite, decide_eq_true_eq]
  split <;> simp_all [setB, inB]
  omega
theorem l1Fall_eq {l : List Int} (hl : l.length ≤ 1048576) (k : Int) : spec_l1Fall l k = some (((fallN l k : Int), ()), (), ()) := by
  have h := loop_idx (s := spec_l1Fall_s0) l 0 (fun i => ((l, k, l, (l.length : Int), (i : Int), ()), (), ())) (fun s => part k s) (fun i => .inl (((i : Int), ()), (), ())) (.inr ((l, ()), (), ())) (by
    intro i hi
    simp only [spec_l1Fall_s0, Int.toNat_natCast, l1Part_eq, Option.bind_some, br_ite, decide_eq_true_eq, Int.ofNat_lt]
    rw [if_pos hi, ck_pos (by omega), ck_pos hi, w64_succ hi (big_len hl)]
    split <;> rfl) (by
    simp only [spec_l1Fall_s0, br_ite]
    rw [if_neg (by simp)])
  refine (congrArg (fun o => Option.bind o fun r5 => sumK r5 (fun y8 => some ((y8.1.1, ()), (), ())) (fun y9 => some (((y9.1.1.length : Int), ()), (), ()))) h).trans ?_
  simp only [Option.bind_some, sumK_ite, sumK_inl, sumK_inr]
  unfold fallN
  split
  · rfl
  · have := List.findIdx_le_length (xs := l) (p := fun s => part k s)
    rw [show l.findIdx (fun s => part k s) = l.length by omega]
theorem fall_eq {l : List Int} (hl : l.length ≤ 1048576) (k : Int) : impl_fall l k = some (((fallN l k : Int), ()), (), ()) := l1Fall_eq hl k
def isBar (l : List Int) : Bool := l.all setB && inB l.length 1 40
theorem specIsBar_eq {l : List Int} (hl : l.length ≤ 1048576) : spec_IsBar l = some ((isBar l, ()), (), ()) := by
  have h := loop_all (s := spec_IsBar_s0) l 0 (fun i => ((l, l, (l.length : Int), (i : Int), ()), (), ())) setB (.inl ((false, ()), (), ())) (.inr ((l, ()), (), ())) (by
    intro i hi
    simp only [spec_IsBar_s0, Int.toNat_natCast, l1Set_eq, Option.bind_some, br_ite, decide_eq_true_eq, Int.ofNat_lt]
    rw [if_pos hi, ck_pos (by omega), ck_pos hi, w64_succ hi (big_len hl)]
    cases setB (l.getD i 0) <;> rfl) (by
    simp only [spec_IsBar_s0, br_ite]
    rw [if_neg (by simp)])
  refine (congrArg (fun o => Option.bind o fun r5 => sumK r5 (fun y8 => some ((y8.1.1, ()), (), ())) (fun y9 => (spec_l1In (y9.1.1.length : Int) (1 : Int) (40 : Int)).bind fun r10 => some ((r10.1.1, ()), (), ()))) h).trans ?_
  simp only [Option.bind_some, sumK_ite, sumK_inl, sumK_inr, l1In_eq, isBar]
  cases l.all setB <;> simp
/-- slices.ContainsFunc -/
theorem findIdx_lt {α : Type} (l : List α) (p : α → Bool) : decide (l.findIdx p < l.length) = l.any p := by
  rw [Bool.eq_iff_iff, decide_eq_true_eq, List.findIdx_lt_length, List.any_eq_true]
def idxOf {α : Type} (l : List α) (p : α → Bool) : Int := if l.findIdx p < l.length then (l.findIdx p : Int) else -1
theorem idxOf_ge {α : Type} (l : List α) (p : α → Bool) : decide (idxOf l p ≥ 0) = l.any p := by
  rw [← findIdx_lt]
  unfold idxOf
  split <;> simp_all
theorem between_eq {l : List Int} (hl : l.length ≤ 1048576) (a b : Int) : impl_between l a b = some ((l.all fun x => inB x a b, ()), (), ()) := by
  have h1 : ∀ x, impl_between_1 x a b = some ((!inB x a b, ()), (), ()) := fun x => by
    simp only [impl_between_1, br_ite, decide_eq_true_eq]
    split
    · simp only [inB]; rw [decide_eq_false (by omega)]; rfl
    · simp only [inB]; congr 3; rw [Bool.eq_iff_iff]; simp; omega
  have h := loop_idx (s := IndexFunc_int_impl_between_1_s0) l 0 (fun i => ((l, ((a, ()), (b, ()), ()), (l.length : Int), (i : Int), ()), (), ())) (fun x => !inB x a b) (fun i => .inl (((i : Int), ()), (), ())) (.inr ((), (), ())) (by
    intro i hi
    simp only [IndexFunc_int_impl_between_1_s0, Int.toNat_natCast, h1, Option.bind_some, br_ite, decide_eq_true_eq, Int.ofNat_lt]
    rw [if_pos hi, ck_pos (by omega), ck_pos hi, w64_succ hi (big_len hl)]
    split <;> rfl) (by
    simp only [IndexFunc_int_impl_between_1_s0, br_ite]
    rw [if_neg (by simp)])
  have h2 : IndexFunc_int_impl_between_1 l a b = some ((idxOf l (fun x => !inB x a b), ()), (), ()) := by
    refine (congrArg (fun o => Option.bind o fun r5 => sumK r5 (fun y8 => some ((y8.1.1, ()), (), ())) (fun y9 => some (((-1 : Int), ()), (), ()))) h).trans ?_
    simp only [Option.bind_some, sumK_ite, sumK_inl, sumK_inr, idxOf]
    split <;> rfl
  simp only [impl_between, ContainsFunc_int_impl_between_1, h2, Option.bind_some, idxOf_ge]
  congr 3
  rw [Bool.eq_iff_iff]; simp
theorem implIsBar_eq {l : List Int} (hl : l.length ≤ 1048576) : impl_IsBar l = some ((isBar l, ()), (), ()) := by
  have h := loop_idx (s := IndexFunc_int_impl_IsBar_1_s0) l 0 (fun i => ((l, (), (l.length : Int), (i : Int), ()), (), ())) (fun x => !setB x) (fun i => .inl (((i : Int), ()), (), ())) (.inr ((), (), ())) (by
    intro i hi
    simp only [IndexFunc_int_impl_IsBar_1_s0, impl_IsBar_1, isSet_eq, Int.toNat_natCast, Option.bind_some, br_ite, decide_eq_true_eq, Int.ofNat_lt]
    rw [if_pos hi, ck_pos (by omega), ck_pos hi, w64_succ hi (big_len hl)]
    split <;> rfl) (by
    simp only [IndexFunc_int_impl_IsBar_1_s0, br_ite]
    rw [if_neg (by simp)])
  have h2 : IndexFunc_int_impl_IsBar_1 l = some ((idxOf l (fun x => !setB x), ()), (), ()) := by
    refine (congrArg (fun o => Option.bind o fun r5 => sumK r5 (fun y8 => some ((y8.1.1, ()), (), ())) (fun y9 => some (((-1 : Int), ()), (), ()))) h).trans ?_
    simp only [Option.bind_some, sumK_ite, sumK_inl, sumK_inr, idxOf]
    split <;> rfl
  simp only [impl_IsBar, ContainsFunc_int_impl_IsBar_1, h2, Option.bind_some, idxOf_ge, br_ite, decide_eq_true_eq, isBar, inB]
  have e : (!l.any fun x => !setB x) = l.all setB := by rw [Bool.eq_iff_iff]; simp
  rw [e]
  by_cases a1 : (l.length : Int) ≥ 1
  · by_cases a2 : (l.length : Int) ≤ 40
    · rw [if_pos a1, if_pos a2, decide_eq_true (⟨a1, a2⟩ : (1 : Int) ≤ l.length ∧ (l.length : Int) ≤ 40), Bool.and_true]
    · rw [if_pos a1, if_neg a2, decide_eq_false (by omega), Bool.and_false]
  · rw [if_neg a1, decide_eq_false (by omega), Bool.and_false]
def sortsAll (l : List Int) : Bool := (List.range l.length).all (fun i => fallN l (l.getD i 0) == i) && isBar l
theorem specSortsAll_eq {l : List Int} (hl : l.length ≤ 1048576) : spec_SortsAll l = some ((sortsAll l, ()), (), ()) := by
  have h := loop_allI (s := spec_SortsAll_s0) (fun i => ((l, l, (l.length : Int), (i : Int), ()), (), ())) l.length (fun i => fallN l (l.getD i 0) == i) (.inl ((false, ()), (), ())) (.inr ((l, ()), (), ())) (by
    intro i hi
    simp only [spec_SortsAll_s0, Int.toNat_natCast, l1Fall_eq hl, Option.bind_some, br_ite, decide_eq_true_eq, Int.ofNat_lt]
    rw [if_pos hi, ck_pos (by omega), ck_pos hi, w64_succ hi (big_len hl)]
    generalize fallN l (l.getD i 0) = q
    by_cases e : q = i
    · rw [if_neg (by simp [e]), if_pos (by simp [e])]
    · rw [if_pos (by simp; omega), if_neg (by simp [e])]) (by
    simp only [spec_SortsAll_s0, br_ite]
    rw [if_neg (by simp)])
  refine (congrArg (fun o => Option.bind o fun r5 => sumK r5 (fun y8 => some ((y8.1.1, ()), (), ())) (fun y10 => (spec_IsBar y10.1.1).bind fun r11 => some ((r11.1.1, ()), (), ()))) h).trans ?_
  simp only [Option.bind_some, sumK_ite, sumK_inl, sumK_inr, specIsBar_eq hl, sortsAll]
  cases (List.range l.length).all fun i => fallN l (l.getD i 0) == i
  · rfl
  · simp
theorem implSortsAll_eq {l : List Int} (hl : l.length ≤ 1048576) : impl_SortsAll l = some ((sortsAll l, ()), (), ()) := by
  have h := loop_allI (s := impl_SortsAll_s0) (fun i => ((l, l, (l.length : Int), (i : Int), ()), (), ())) l.length (fun i => fallN l (l.getD i 0) == i) (.inl ((false, ()), (), ())) (.inr ((), (), ())) (by
    intro i hi
    simp only [impl_SortsAll_s0, Int.toNat_natCast, fall_eq hl, Option.bind_some, br_ite, decide_eq_true_eq, Int.ofNat_lt]
    rw [if_pos hi, ck_pos (by omega), ck_pos hi, w64_succ hi (big_len hl)]
    generalize fallN l (l.getD i 0) = q
    by_cases e : q = i
    · rw [if_neg (by simp [e]), if_pos (by simp [e])]
    · rw [if_pos (by simp; omega), if_neg (by simp [e])]) (by
    simp only [impl_SortsAll_s0, br_ite]
    rw [if_neg (by simp)])
  simp only [impl_SortsAll, implIsBar_eq hl, Option.bind_some]
  have h' := congrArg (fun o => Option.bind o fun r7 => sumK r7 (fun y10 => some ((y10.1.1, ()), (), ())) (fun y11 => some ((true, ()), (), ()))) h
  rw [br_ite]
  unfold sortsAll
  cases isBar l
  · simp
  · rw [if_neg (by simp)]
    refine h'.trans ?_
    simp only [Option.bind_some, sumK_ite, sumK_inl, sumK_inr, Bool.and_true]
    cases (List.range l.length).all fun i => fallN l (l.getD i 0) == i <;> rfl
end Go.Tree
namespace Go.Tree
set_option linter.unusedVariables false
set_option linter.unusedSimpArgs false

theorem byte_range (s : ByteArray) (i : Nat) : 0 ≤ byteAt s i ∧ byteAt s i ≤ 255 := by
  unfold byteAt
  have := (s.data.toList.getD i 0).toNat_lt
  omega
/-- letter number i is fit, and new -/
def letterB (s : ByteArray) (i : Nat) : Bool := decide (33 ≤ byteAt s i) && (decide (byteAt s i ≤ 126) && (List.range i).all fun j => byteAt s i != byteAt s j)
def fontOk (s : ByteArray) (ws so : List Int) : Bool :=
  inB s.size 1 40 && (ws.length == s.size && (so.length == s.size && (sortsAll so && ((List.range s.size).all (fun i => letterB s i) && ws.all fun x => inB x 1 60))))

theorem specFont2 {s : ByteArray} {ws so : List Int} (hs : s.size ≤ 1048576) (i : Nat) (hi : i < s.size) (u0 : Int) (u1 : ByteArray) (u2 u3 : Int) (u4 : Bool) (u5 : List Int) (u6 u7 u8 : Int) (u9 u10 : Bool) :
    loopC spec_FontOk_s2 (((), u0, (i : Int), (0 : Int), (), u1, u2, u3, u4, (), u5, u6, (u7, ()), u8, u9, u10, ()), ((s, ws, so, ()), ()), ()) =
      some (if ((List.range i).all fun j => byteAt s i != byteAt s j) = true then .inr (((), u0, (i : Int), (), u1, u2, u3, u4, (), u5, u6, (u7, ()), u8, u9, u10, ()), ((s, ws, so, ()), ()), ()) else .inl ((false, ()), (), ())) :=
  loop_allI (s := spec_FontOk_s2) (fun j => (((), u0, (i : Int), (j : Int), (), u1, u2, u3, u4, (), u5, u6, (u7, ()), u8, u9, u10, ()), ((s, ws, so, ()), ()), ())) i (fun j => byteAt s i != byteAt s j) (.inl ((false, ()), (), ()))
    (.inr (((), u0, (i : Int), (), u1, u2, u3, u4, (), u5, u6, (u7, ()), u8, u9, u10, ()), ((s, ws, so, ()), ()), ())) (by
    intro j hj
    simp only [spec_FontOk_s2, Int.toNat_natCast, br_ite, decide_eq_true_eq, Int.ofNat_lt]
    rw [if_pos hj, ck_pos ⟨by omega, hi⟩, ck_pos ⟨by omega, by omega⟩, w64_succ hj (by unfold maxLen; omega)]
    by_cases e : byteAt s i = byteAt s j
    · rw [if_pos (by simp [e]), if_neg (by simp [e])]
    · rw [if_neg (by simp [e]), if_pos (by simp [e])]) (by
    simp only [spec_FontOk_s2, br_ite]
    rw [if_neg (by simp)])
theorem specFontOk_eq {s : ByteArray} {ws so : List Int} (hs : s.size ≤ 1048576) (hw : ws.length ≤ 1048576) (ho : so.length ≤ 1048576) : spec_FontOk s ws so = some ((fontOk s ws so, ()), (), ()) := by
  simp only [spec_FontOk, l1In_eq, specSortsAll_eq ho, Option.bind_some, fontOk]
  by_cases h1 : inB s.size 1 40 = true
  · by_cases h2 : ws.length = s.size
    · by_cases h3 : so.length = s.size
      · by_cases h4 : sortsAll so = true
        · have h := loop_allI (s := spec_FontOk_s0) (fun i => (((), (s.size : Int), (i : Int), ()), ((s, ws, so, ()), ()), ())) s.size (fun i => letterB s i && inB (ws.getD i 0) 1 60) (.inl ((false, ()), (), ())) (.inr ((), (), ())) (by
            intro i hi
            simp only [spec_FontOk_s0, Int.toNat_natCast, l1In_eq, Option.bind_some, specFont2 hs i hi, br_ite, sumK_ite, sumK_inl, sumK_inr, w64_succ hi (big_len hs)]
            rw [if_pos (by simpa using hi), ck_pos ⟨by omega, hi⟩, ck_pos ⟨by omega, hi⟩, ck_pos (by omega), ck_pos (by omega)]
            unfold letterB
            by_cases k1 : byteAt s i < 33
            · rw [if_pos (by simpa using k1), if_neg (by simp; omega)]
            · rw [if_neg (by simpa using k1)]
              by_cases k2 : byteAt s i > 126
              · rw [if_pos (by simpa using k2), if_neg (by simp; omega)]
              · rw [if_neg (by simpa using k2), decide_eq_true (by omega : 33 ≤ byteAt s i), decide_eq_true (by omega : byteAt s i ≤ 126), Bool.true_and, Bool.true_and]
                generalize inB (ws.getD i 0) 1 60 = q
                generalize ((List.range i).all fun j => byteAt s i != byteAt s j) = r
                cases q <;> cases r <;> rfl) (by
            simp only [spec_FontOk_s0, br_ite]
            rw [if_neg (by simp)])
          rw [h1, h4, br_ite, if_neg (by simp), br_ite, if_neg (by simp [h2]), br_ite, if_neg (by simp [h3]), br_ite, if_neg (by simp)]
          refine (congrArg (fun o => Option.bind o fun r22 => sumK r22 (fun y25 => some ((y25.1.1, ()), (), ())) (fun y26 => some ((true, ()), (), ()))) h).trans ?_
          simp only [Option.bind_some, sumK_ite, sumK_inl, sumK_inr]
          rw [h2, h3]
          have e : (List.range s.size).all (fun i => letterB s i && inB (ws.getD i 0) 1 60) = ((List.range s.size).all (fun i => letterB s i) && ws.all fun x => inB x 1 60) := by
            rw [← range_all ws 0, h2, Bool.eq_iff_iff, Bool.and_eq_true, List.all_eq_true, List.all_eq_true, List.all_eq_true]
            constructor
            · intro h; exact ⟨fun i hi => (Bool.and_eq_true _ _ ▸ h i hi).1, fun i hi => (Bool.and_eq_true _ _ ▸ h i hi).2⟩
            · intro h i hi; rw [h.1 i hi, h.2 i hi]; rfl
          rw [e]
          generalize ((List.range s.size).all (fun i => letterB s i) && ws.all fun x => inB x 1 60) = q
          cases q <;> simp
        · rw [h1, br_ite, if_neg (by simp), br_ite, if_neg (by simp [h2]), br_ite, if_neg (by simp [h3]), br_ite, if_pos (by simp [h4]), Bool.eq_false_iff.2 h4, Bool.false_and, Bool.and_false, Bool.and_false, Bool.and_false]
      · rw [h1, br_ite, if_neg (by simp), br_ite, if_neg (by simp [h2]), br_ite, if_pos (by simp; omega), beq_false_of_ne h3, Bool.false_and, Bool.and_false, Bool.and_false]
    · rw [h1, br_ite, if_neg (by simp), br_ite, if_pos (by simp; omega), beq_false_of_ne h2, Bool.false_and, Bool.and_false]
  · rw [Bool.eq_false_iff.2 h1, br_ite, if_pos (by simp), Bool.false_and]
/-- the letters seen before place i -/
def seenB (s : ByteArray) (i : Nat) : List Bool := (List.range 256).map fun b : Nat => (List.range i).any fun j => byteAt s j == (b : Int)
theorem seenB_get (s : ByteArray) (i b : Nat) (hb : b < 256) : (seenB s i).getD b false = (List.range i).any fun j => byteAt s j == (b : Int) := by
  rw [List.getD_eq_getElem?_getD]; simp [seenB, hb]
theorem seenB_set (s : ByteArray) (i : Nat) : (seenB s i).set (byteAt s i).toNat true = seenB s (i + 1) := by
  have hr := byte_range s i
  apply List.ext_getElem?
  intro b
  rw [List.getElem?_set]
  have hl : (seenB s i).length = 256 := by simp [seenB]
  by_cases e : (byteAt s i).toNat = b
  · rw [if_pos e, if_pos (by omega)]
    subst e
    rw [seenB, List.getElem?_map, List.getElem?_range (by omega), Option.map_some, List.range_succ, List.any_append]
    simp; omega
  · rw [if_neg e, seenB, seenB, List.getElem?_map, List.getElem?_map]
    by_cases hb : b < 256
    · rw [List.getElem?_range hb, Option.map_some, Option.map_some, List.range_succ, List.any_append]
      have : (byteAt s i == (b : Int)) = false := by simp; omega
      simp [this]
    · rw [List.getElem?_eq_none (by simp; omega)]; rfl
theorem seenB_len (s : ByteArray) (i : Nat) : (seenB s i).length = 256 := by simp [seenB]
theorem implFontOk_eq {s : ByteArray} {ws so : List Int} (hs : s.size ≤ 1048576) (hw : ws.length ≤ 1048576) (ho : so.length ≤ 1048576) : impl_FontOk s ws so = some ((fontOk s ws so, ()), (), ()) := by
  have h := loop_allI (s := impl_FontOk_s0) (fun i => (((), (), (s.size : Int), (i : Int), ()), ((s, ws, so, ()), (seenB s i), ()), ())) s.size (fun i => letterB s i) (.inl ((false, ()), (), ())) (.inr (((), ()), ((s, ws, so, ()), ()), ())) (by
    intro i hi
    have hr := byte_range s i
    have hg := seenB_get s i (byteAt s i).toNat (by omega)
    simp only [impl_FontOk_s0, Int.toNat_natCast, br_ite, seenB_len, seenB_set, hg, w64_succ hi (big_len hs)]
    rw [if_pos (by simpa using hi), ck_pos ⟨by omega, hi⟩, ck_pos (by omega), ck_pos (by omega), ck_pos (by omega), ck_pos (by omega), ck_pos (by omega), ck_pos (by omega)]
    unfold letterB
    have e : ((List.range i).any fun j => byteAt s j == ((byteAt s i).toNat : Int)) = !(List.range i).all fun j => byteAt s i != byteAt s j := by
      rw [Int.toNat_of_nonneg hr.1, Bool.eq_iff_iff]
      simp only [List.any_eq_true, beq_iff_eq, Bool.not_eq_true', List.all_eq_false, bne_iff_ne, ne_eq, Decidable.not_not]
      constructor <;> rintro ⟨j, h1, h2⟩ <;> exact ⟨j, h1, h2.symm⟩
    rw [e]
    generalize ((List.range i).all fun j => byteAt s i != byteAt s j) = r
    by_cases k1 : byteAt s i < 33
    · rw [if_pos (by simpa using k1), if_neg (by simp; omega)]
    · rw [if_neg (by simpa using k1)]
      by_cases k2 : byteAt s i > 126
      · rw [if_pos (by simpa using k2), if_neg (by simp; omega)]
      · rw [if_neg (by simpa using k2), decide_eq_true (by omega : 33 ≤ byteAt s i), decide_eq_true (by omega : byteAt s i ≤ 126), Bool.true_and, Bool.true_and]
        cases r <;> rfl) (by
    simp only [impl_FontOk_s0, br_ite]
    rw [if_neg (by simp)])
  have e0 : seenB s 0 = List.replicate 256 false := by
    apply List.ext_getElem?
    intro b
    rw [seenB, List.getElem?_map, List.getElem?_replicate]
    by_cases hb : b < 256
    · rw [List.getElem?_range hb, if_pos hb]; rfl
    · rw [List.getElem?_eq_none (by simp; omega), if_neg hb]; rfl
  simp only [impl_FontOk, between_eq hw, implSortsAll_eq ho, Option.bind_some, fontOk]
  have h' := congrArg (fun o => Option.bind o fun r12 => sumK r12 (fun y15 => some ((y15.1.1, ()), (), ())) (fun y16 => (impl_between y16.2.1.1.2.1 (1 : Int) (60 : Int)).bind fun r17 => br r17.1.1
    ((impl_SortsAll y16.2.1.1.2.2.1).bind fun r18 => some ((r18.1.1, ()), (), ())) (some ((false, ()), (), ())))) h
  simp only [e0] at h'
  by_cases h1 : inB s.size 1 40 = true
  · have h1' : 1 ≤ (s.size : Int) ∧ (s.size : Int) ≤ 40 := by simpa [inB] using h1
    by_cases h2 : ws.length = s.size
    · by_cases h3 : so.length = s.size
      · rw [br_ite, if_neg (by simp; omega), br_ite, if_neg (by simp; omega), br_ite, if_neg (by simp [h2]), br_ite, if_neg (by simp [h3])]
        refine h'.trans ?_
        simp only [Option.bind_some, sumK_ite, sumK_inl, sumK_inr, between_eq hw, implSortsAll_eq ho]
        rw [h1, h2, h3]
        generalize ((List.range s.size).all fun i => letterB s i) = q
        generalize (ws.all fun x => inB x 1 60) = r
        generalize sortsAll so = t
        cases q <;> cases r <;> cases t <;> simp
      · rw [h1, br_ite, if_neg (by simp; omega), br_ite, if_neg (by simp; omega), br_ite, if_neg (by simp [h2]), br_ite, if_pos (by simp; omega), beq_false_of_ne h3, Bool.false_and, Bool.and_false, Bool.and_false]
    · rw [h1, br_ite, if_neg (by simp; omega), br_ite, if_neg (by simp; omega), br_ite, if_pos (by simp; omega), beq_false_of_ne h2, Bool.false_and, Bool.and_false]
  · rw [Bool.eq_false_iff.2 h1, Bool.false_and, br_ite, br_ite]
    have h1' : ¬ (1 ≤ (s.size : Int) ∧ (s.size : Int) ≤ 40) := by simpa [inB] using h1
    by_cases k1 : (s.size : Int) < 1
    · rw [if_pos (by simpa using k1)]
    · rw [if_neg (by simpa using k1), if_pos (by simp; omega)]
end Go.Tree
namespace Go.Tree
set_option linter.unusedVariables false
set_option linter.unusedSimpArgs false

def ofFont (s : ByteArray) (so : List Int) (m : Int × Int) : Bool := decide (0 ≤ m.1 ∧ m.1 < s.size) && (setB m.2 && part m.2 (so.getD m.1.toNat 0))
theorem l2Matrix_eq {s : ByteArray} {ws so : List Int} (hs : s.size ≤ 1048576) (ho : so.length = s.size) (a b : Int) : spec_l2Matrix s ws so a b = some ((ofFont s so (a, b), ()), (), ()) := by
  simp only [spec_l2Matrix, l1In_eq, l1Set_eq, l1Part_eq, Option.bind_some, ofFont]
  rw [w64_id (by omega) (by omega)]
  by_cases h1 : 0 ≤ a ∧ a < s.size
  · rw [show inB a 0 ((s.size : Int) - 1) = true from decide_eq_true (by omega), decide_eq_true h1, br_true]
    cases setB b
    · rfl
    · rw [br_true, ck_pos (by omega), ck_pos (by omega)]; rfl
  · rw [show inB a 0 ((s.size : Int) - 1) = false from decide_eq_false (by omega), decide_eq_false h1]; rfl
theorem ofFont_eq {s : ByteArray} {ws so : List Int} (ho : so.length = s.size) (a b : Int) : impl_ofFont s ws so a b = some ((ofFont s so (a, b), ()), (), ()) := by
  simp only [impl_ofFont, isSet_eq, show ∀ a b, impl_part a b = some ((part a b, ()), (), ()) from fun _ _ => rfl, Option.bind_some, ofFont]
  by_cases h1 : 0 ≤ a ∧ a < s.size
  · rw [br_ite, if_pos (by simp; omega), br_ite, if_pos (by simp; omega), decide_eq_true h1]
    cases setB b
    · rfl
    · rw [br_true, ck_pos (by omega), ck_pos (by omega)]; rfl
  · rw [decide_eq_false h1, br_ite, br_ite]
    by_cases h2 : a ≥ 0
    · rw [if_pos (by simpa using h2), if_neg (by simp; omega)]; rfl
    · rw [if_neg (by simpa using h2)]; rfl
theorem allOf_eq {s : ByteArray} {ws so : List Int} (ho : so.length = s.size) {l : List (Int × Int)} (hl : l.length ≤ 1048576) : impl_allOf s ws so l = some ((l.all (ofFont s so), ()), (), ()) := by
  have h := loop_idx (s := IndexFunc_Matrix_impl_allOf_1_s0) l (0, 0) (fun i => ((l, ((s, ws, so, ()), ()), (l.length : Int), (i : Int), ()), (), ())) (fun x => !ofFont s so x) (fun i => .inl (((i : Int), ()), (), ())) (.inr ((), (), ())) (by
    intro i hi
    simp only [IndexFunc_Matrix_impl_allOf_1_s0, impl_allOf_1, ofFont_eq ho, Int.toNat_natCast, Option.bind_some, br_ite, decide_eq_true_eq, Int.ofNat_lt]
    rw [if_pos hi, ck_pos (by omega), ck_pos hi, w64_succ hi (big_len hl)]
    split <;> rfl) (by
    simp only [IndexFunc_Matrix_impl_allOf_1_s0, br_ite]
    rw [if_neg (by simp)])
  have h2 : IndexFunc_Matrix_impl_allOf_1 l s ws so = some ((idxOf l (fun x => !ofFont s so x), ()), (), ()) := by
    refine (congrArg (fun o => Option.bind o fun r5 => sumK r5 (fun y8 => some ((y8.1.1, ()), (), ())) (fun y9 => some (((-1 : Int), ()), (), ()))) h).trans ?_
    simp only [Option.bind_some, sumK_ite, sumK_inl, sumK_inr, idxOf]
    split <;> rfl
  simp only [impl_allOf, ContainsFunc_Matrix_impl_allOf_1, h2, Option.bind_some, idxOf_ge]
  congr 3
  rw [Bool.eq_iff_iff]; simp
def colB (s : ByteArray) (so : List Int) (c : List (Int × Int)) : Bool := decide ((c.length : Int) ≤ 20) && c.all (ofFont s so)
def magOk (s : ByteArray) (ws so : List Int) (d : List (List (Int × Int))) : Bool := fontOk s ws so && (d.length == s.size && d.all (colB s so))
theorem fontOk_len {s : ByteArray} {ws so : List Int} (h : fontOk s ws so = true) : ws.length = s.size ∧ so.length = s.size ∧ (∀ x ∈ ws, 1 ≤ x ∧ x ≤ 60) := by
  simp only [fontOk, Bool.and_eq_true, beq_iff_eq, List.all_eq_true] at h
  obtain ⟨_, h1, h2, _, _, h3⟩ := h
  exact ⟨h1, h2, fun x hx => by simpa [inB] using h3 x hx⟩
section
variable {s : ByteArray} {ws so : List Int} {d : List (List (Int × Int))} (hs : s.size ≤ 1048576) (hw : ws.length ≤ 1048576) (ho : so.length ≤ 1048576) (hd : d.length ≤ 1048576) (hd' : ∀ c ∈ d, c.length ≤ 1048576)
include hs hw ho hd hd'
theorem specMagazineOk_eq : spec_MagazineOk s ws so d = some ((magOk s ws so d, ()), (), ()) := by
  simp only [spec_MagazineOk, specFontOk_eq hs hw ho, Option.bind_some, magOk]
  by_cases h1 : fontOk s ws so = true
  · obtain ⟨e1, e2, _⟩ := fontOk_len h1
    have inner : ∀ (c : List (Int × Int)) (hc : c.length ≤ 1048576) (u1 : List (List (Int × Int))) (u2 u3 : Int), loopC spec_MagazineOk_s2 (((), u1, u2, u3, c, (c.length : Int), (0 : Int), ()), ((s, ws, so, ()), ()), ()) =
        some (if c.all (ofFont s so) = true then .inr (((), u1, u2, u3, ()), ((s, ws, so, ()), ()), ()) else .inl ((false, ()), (), ())) := by
      intro c hc u1 u2 u3
      exact loop_all (s := spec_MagazineOk_s2) c (0, 0) (fun i => (((), u1, u2, u3, c, (c.length : Int), (i : Int), ()), ((s, ws, so, ()), ()), ())) (ofFont s so) (.inl ((false, ()), (), ())) (.inr (((), u1, u2, u3, ()), ((s, ws, so, ()), ()), ())) (by
        intro i hi
        simp only [spec_MagazineOk_s2, l2Matrix_eq hs e2, Int.toNat_natCast, Option.bind_some, br_ite]
        rw [if_pos (by simpa using hi), ck_pos (by omega), ck_pos hi, w64_succ hi (big_len hc)]
        show (if (!ofFont s so (c.getD i (0, 0))) = true then _ else _) = _
        cases ofFont s so (c.getD i (0, 0)) <;> rfl) (by
        simp only [spec_MagazineOk_s2, br_ite]
        rw [if_neg (by simp)])
    have h := loop_all (s := spec_MagazineOk_s0) d [] (fun i => (((), d, (d.length : Int), (i : Int), ()), ((s, ws, so, ()), ()), ())) (colB s so) (.inl ((false, ()), (), ())) (.inr ((), (), ())) (by
      intro i hi
      simp only [spec_MagazineOk_s0, Int.toNat_natCast, inner _ (hd' _ (getD_mem hi)), Option.bind_some, sumK_ite, sumK_inl, sumK_inr, br_ite, w64_succ hi (big_len hd)]
      rw [if_pos (by simpa using hi), ck_pos (by omega), ck_pos hi]
      unfold colB
      by_cases k : ((d.getD i []).length : Int) > 20
      · rw [if_pos (by simpa using k), decide_eq_false (by omega)]; rfl
      · rw [if_neg (by simpa using k), decide_eq_true (by omega)]
        cases (d.getD i []).all (ofFont s so) <;> rfl) (by
      simp only [spec_MagazineOk_s0, br_ite]
      rw [if_neg (by simp)])
    rw [h1, br_ite, if_neg (by simp)]
    by_cases h2 : d.length = s.size
    · rw [br_ite, if_neg (by simp [h2])]
      refine (congrArg (fun o => Option.bind o fun r16 => sumK r16 (fun y19 => some ((y19.1.1, ()), (), ())) (fun y20 => some ((true, ()), (), ()))) h).trans ?_
      simp only [Option.bind_some, sumK_ite, sumK_inl, sumK_inr, h2]
      cases d.all (colB s so) <;> simp
    · rw [br_ite, if_pos (by simp; omega), beq_false_of_ne h2, Bool.false_and, Bool.and_false]
  · rw [Bool.eq_false_iff.2 h1, br_ite, if_pos (by simp), Bool.false_and]
theorem implMagazineOk_eq : impl_MagazineOk s ws so d = some ((magOk s ws so d, ()), (), ()) := by
  simp only [impl_MagazineOk, implFontOk_eq hs hw ho, Option.bind_some, magOk]
  by_cases h1 : fontOk s ws so = true
  · obtain ⟨e1, e2, _⟩ := fontOk_len h1
    have h := loop_all (s := impl_MagazineOk_s0) d [] (fun i => (((), d, (d.length : Int), (i : Int), ()), ((s, ws, so, ()), ()), ())) (colB s so) (.inl ((false, ()), (), ())) (.inr ((), (), ())) (by
      intro i hi
      simp only [impl_MagazineOk_s0, Int.toNat_natCast, allOf_eq e2 (hd' _ (getD_mem hi)), Option.bind_some, br_ite, w64_succ hi (big_len hd)]
      rw [if_pos (by simpa using hi), ck_pos (by omega), ck_pos hi]
      unfold colB
      by_cases k : ((d.getD i []).length : Int) > 20
      · rw [if_pos (by simpa using k), decide_eq_false (by omega)]; rfl
      · rw [if_neg (by simpa using k), decide_eq_true (by omega)]
        cases (d.getD i []).all (ofFont s so) <;> rfl) (by
      simp only [impl_MagazineOk_s0, br_ite]
      rw [if_neg (by simp)])
    rw [h1, br_ite, if_neg (by simp)]
    by_cases h2 : d.length = s.size
    · rw [br_ite, if_neg (by simp [h2])]
      refine (congrArg (fun o => Option.bind o fun r16 => sumK r16 (fun y19 => some ((y19.1.1, ()), (), ())) (fun y20 => some ((true, ()), (), ()))) h).trans ?_
      simp only [Option.bind_some, sumK_ite, sumK_inl, sumK_inr, h2]
      cases d.all (colB s so) <;> simp
    · rw [br_ite, if_pos (by simp; omega), beq_false_of_ne h2, Bool.false_and, Bool.and_false]
  · rw [Bool.eq_false_iff.2 h1, br_ite, if_pos (by simp), Bool.false_and]
end
def measOk (a b c : Int) : Bool := inB a 1 2000 && (inB b 1 100 && inB c b 100)
theorem specMeasureOk_eq (a b c : Int) : spec_MeasureOk a b c = some ((measOk a b c, ()), (), ()) := by
  simp only [spec_MeasureOk, l1In_eq, Option.bind_some, measOk]
  cases inB a 1 2000 <;> cases inB b 1 100 <;> rfl
theorem implMeasureOk_eq (a b c : Int) : impl_MeasureOk a b c = some ((measOk a b c, ()), (), ()) := by
  have e : ∀ x lo hi : Int, inB x lo hi = (decide (x ≥ lo) && decide (x ≤ hi)) := fun x lo hi => by simp [inB]
  simp only [impl_MeasureOk, measOk, e]
  cases decide (a ≥ 1) <;> cases decide (a ≤ 2000) <;> cases decide (b ≥ 1) <;> cases decide (b ≤ 100) <;> cases decide (c ≥ b) <;> rfl
/-- a band -/
def bandB (m : Int × Int) : Bool := m.1 == -1 && m.2 == 0
theorem isBand_eq (a b : Int) : impl_isBand a b = some ((bandB (a, b), ()), (), ()) := rfl
def widOf (ws : List Int) (m : Int × Int) : Int := if m.1 < 0 then 0 else ws.getD m.1.toNat 0
theorem map_take_succ {α β : Type} (l : List α) (d : α) (f : α → β) {i : Nat} (h : i < l.length) : (l.take i).map f ++ [f (l.getD i d)] = (l.take (i + 1)).map f := by
  rw [List.take_succ_eq_append_getElem h, List.map_append, List.getD_eq_getElem?_getD, List.getElem?_eq_getElem h]; rfl
section
variable {s : ByteArray} {ws so : List Int} (e1 : ws.length = s.size) {l : List (Int × Int)} (hl : l.length ≤ 1048576) (hall : ∀ m ∈ l, (bandB m || ofFont s so m) = true)
include e1 hall
theorem letter_ok {i : Nat} (hi : i < l.length) (h : ¬ (l.getD i (0, 0)).1 < 0) : (l.getD i (0, 0)).1.toNat < ws.length := by
  have := hall _ (getD_mem (d := (0, 0)) hi)
  simp only [bandB, ofFont, Bool.or_eq_true, Bool.and_eq_true, beq_iff_eq, decide_eq_true_eq] at this
  omega
include hl
theorem specItems_eq : spec_l5Items s ws so l = some (((), ()), (), (l.map (widOf ws), ())) := by
  have h := loop_for (s := spec_l5Items_s0) (fun i => (((), (), l, (l.length : Int), (i : Int), ()), ((s, ws, so, ()), ()), ((l.take i).map (widOf ws), ()))) l.length (((), ()), (), (l.map (widOf ws), ())) (by
    intro i hi
    have hk := letter_ok e1 hall hi
    simp only [spec_l5Items_s0, Int.toNat_natCast, br_ite, List.length_cons, List.length_nil, List.length_map, List.length_take]
    rw [if_pos (by simpa using hi), ck_pos (by omega), ck_pos hi, ← map_take_succ l (0, 0) (widOf ws) hi, w64_succ hi (big_len hl)]
    unfold widOf
    by_cases k : (l.getD i (0, 0)).1 < 0
    · rw [if_pos (by simpa using k), ck_pos ⟨by omega, by omega⟩, if_pos k]
    · rw [if_neg (by simpa using k), ck_pos (by omega), ck_pos (hk k), ck_pos ⟨by omega, by omega⟩, if_neg k]) (by
    simp only [spec_l5Items_s0, br_ite, List.take_length]
    rw [if_neg (by simp)])
  exact congrArg (fun o => Option.bind o fun r9 => some (((), ()), (), (r9.2.2.1, ()))) h
theorem implItems_eq : impl_items s ws so l = some (((), ()), (), (l.map (widOf ws), ())) := by
  have h := loop_for (s := impl_items_s0) (fun i => (((), (), l, (l.length : Int), (i : Int), ()), ((s, ws, so, ()), ()), ((l.take i).map (widOf ws), ()))) l.length (((), ()), (), (l.map (widOf ws), ())) (by
    intro i hi
    have hk := letter_ok e1 hall hi
    have hb := hall _ (getD_mem (d := (0, 0)) hi)
    simp only [impl_items_s0, isBand_eq, Option.bind_some, Int.toNat_natCast, br_ite, List.length_cons, List.length_nil, List.length_map, List.length_take]
    rw [if_pos (by simpa using hi), ck_pos (by omega), ck_pos hi, ← map_take_succ l (0, 0) (widOf ws) hi, w64_succ hi (big_len hl)]
    unfold widOf
    have e : (bandB ((l.getD i (0, 0)).1, (l.getD i (0, 0)).2) = true) ↔ (l.getD i (0, 0)).1 < 0 := by
      simp only [bandB, ofFont, Bool.or_eq_true, Bool.and_eq_true, beq_iff_eq, decide_eq_true_eq] at hb ⊢
      omega
    by_cases k : (l.getD i (0, 0)).1 < 0
    · rw [if_pos (e.2 k), ck_pos ⟨by omega, by omega⟩, if_pos k]
    · rw [if_neg (fun h => k (e.1 h)), ck_pos (by omega), ck_pos (hk k), ck_pos ⟨by omega, by omega⟩, if_neg k]) (by
    simp only [impl_items_s0, br_ite, List.take_length]
    rw [if_neg (by simp)])
  exact congrArg (fun o => Option.bind o fun r9 => some (((), ()), (), (r9.2.2.1, ()))) h
end
end Go.Tree
namespace Go.Tree
set_option linter.unusedVariables false
set_option linter.unusedSimpArgs false

/-- letters together, and bands -/
def sumStep (l : List Int) (i : Nat) (a : Int × Int) : Int × Int := (w64 (a.1 + l.getD i 0), if l.getD i 0 == 0 then w64 (a.2 + 1) else a.2)
def sumW (l : List Int) : Int × Int := (List.range l.length).foldl (fun a i => sumStep l i a) (0, 0)
theorem l3Sum_eq {l : List Int} (hl : l.length ≤ 1048576) : spec_l3Sum l = some (((sumW l).1, (sumW l).2, ()), (), ()) := by
  have h := loop_acc (s := spec_l3Sum_s0) (fun i (a : Int × Int) => ((a.1, a.2, l, (l.length : Int), (i : Int), ()), (), ())) l.length (sumStep l) (fun _ _ => True) (fun a => ((a.1, a.2, ()), (), ())) (by
    intro i a hi _
    refine ⟨?_, trivial⟩
    simp only [spec_l3Sum_s0, Int.toNat_natCast, br_ite, sumStep]
    rw [if_pos (by simpa using hi), ck_pos (by omega), ck_pos hi, w64_succ hi (big_len hl)]
    cases (l.getD i 0 == 0) <;> rfl) (by
    intro a _
    simp only [spec_l3Sum_s0, br_ite]
    rw [if_neg (by simp)]) (0, 0) trivial
  exact congrArg (fun o => Option.bind o fun r8 => some ((r8.1.1, r8.1.2.1, ()), (), ())) h.1
theorem lettersAndBands_eq {l : List Int} (hl : l.length ≤ 1048576) : impl_lettersAndBands l = some (((sumW l).1, (sumW l).2, ()), (), ()) := l3Sum_eq hl
theorem sumW_range {l : List Int} (hl : l.length ≤ 1048576) (hr : ∀ x ∈ l, 0 ≤ x ∧ x ≤ 60) : 0 ≤ (sumW l).1 ∧ (sumW l).1 ≤ 60 * l.length ∧ 0 ≤ (sumW l).2 ∧ (sumW l).2 ≤ l.length := by
  have go : ∀ n, n ≤ l.length → 0 ≤ ((List.range n).foldl (fun a i => sumStep l i a) (0, 0)).1 ∧ ((List.range n).foldl (fun a i => sumStep l i a) (0, 0)).1 ≤ 60 * n ∧
      0 ≤ ((List.range n).foldl (fun a i => sumStep l i a) (0, 0)).2 ∧ ((List.range n).foldl (fun a i => sumStep l i a) (0, 0)).2 ≤ n := by
    intro n
    induction n with
    | zero => intro _; simp
    | succ n ih =>
      intro hn
      have := ih (by omega)
      rw [List.range_succ, List.foldl_append, List.foldl_cons, List.foldl_nil]
      generalize (List.range n).foldl (fun a i => sumStep l i a) (0, 0) = a at this
      have hx := hr _ (getD_mem (d := 0) (show n < l.length by omega))
      unfold sumStep
      simp only
      rw [w64_id (by omega) (by omega), w64_id (by omega) (by omega)]
      split <;> omega
  exact go l.length (Nat.le_refl _)
def lineOk (l : List Int) : Bool := decide ((l.length : Int) ≤ 120) && l.all fun x => inB x 0 60
theorem specLineOk_eq {l : List Int} (hl : l.length ≤ 1048576) : spec_LineOk l = some ((lineOk l, ()), (), ()) := by
  have h := loop_all (s := spec_LineOk_s0) l 0 (fun i => ((l, l, (l.length : Int), (i : Int), ()), (), ())) (fun x => inB x 0 60) (.inl ((false, ()), (), ())) (.inr ((l, ()), (), ())) (by
    intro i hi
    simp only [spec_LineOk_s0, Int.toNat_natCast, l1In_eq, Option.bind_some, br_ite]
    rw [if_pos (by simpa using hi), ck_pos (by omega), ck_pos hi, w64_succ hi (big_len hl)]
    cases inB (l.getD i 0) 0 60 <;> rfl) (by
    simp only [spec_LineOk_s0, br_ite]
    rw [if_neg (by simp)])
  refine (congrArg (fun o => Option.bind o fun r5 => sumK r5 (fun y8 => some ((y8.1.1, ()), (), ())) (fun y9 => let x10 : Bool := decide ((y9.1.1.length : Int) ≤ (120 : Int)); some ((x10, ()), (), ()))) h).trans ?_
  simp only [Option.bind_some, sumK_ite, sumK_inl, sumK_inr, lineOk]
  cases (l.all fun x => inB x 0 60) <;> simp
theorem implLineOk_eq {l : List Int} (hl : l.length ≤ 1048576) : impl_LineOk l = some ((lineOk l, ()), (), ()) := by
  simp only [impl_LineOk, between_eq hl, Option.bind_some, lineOk]
  cases decide ((l.length : Int) ≤ 120) <;> rfl
/-- there is room -/
def fitsB (a b c : Int) (l : List Int) : Bool := lineOk l && decide ((sumW l).1 + (sumW l).2 * b ≤ a)
theorem lineOk_range {l : List Int} (h : lineOk l = true) : l.length ≤ 120 ∧ ∀ x ∈ l, 0 ≤ x ∧ x ≤ 60 := by
  simp only [lineOk, Bool.and_eq_true, decide_eq_true_eq, List.all_eq_true] at h
  exact ⟨by omega, fun x hx => by simpa [inB] using h.2 x hx⟩
theorem mul_range {x y : Int} (h1 : 0 ≤ x) (h2 : x ≤ 120) (h3 : 0 ≤ y) (h4 : y ≤ 100) : 0 ≤ x * y ∧ x * y ≤ 12000 :=
  ⟨Int.mul_nonneg h1 h3, Int.le_trans (Int.mul_le_mul h2 h4 h3 (by omega)) (by omega)⟩
theorem l3Fits_eq {l : List Int} (hl : l.length ≤ 1048576) {a b c : Int} (hm : measOk a b c = true) : spec_l3Fits a b c l = some ((fitsB a b c l, ()), (), ()) := by
  simp only [measOk, inB, Bool.and_eq_true, decide_eq_true_eq] at hm
  simp only [spec_l3Fits, l3Sum_eq hl, specLineOk_eq hl, Option.bind_some, fitsB]
  by_cases h : lineOk l = true
  · obtain ⟨h1, h2⟩ := lineOk_range h
    obtain ⟨r1, r2, r3, r4⟩ := sumW_range hl h2
    have := mul_range r3 (by omega) (y := b) (by omega) (by omega)
    rw [h, br_true, w64_id (x := (sumW l).2 * b) (by omega) (by omega), w64_id (by omega) (by omega)]
    rfl
  · rw [Bool.eq_false_iff.2 h]; rfl
theorem fits_eq {l : List Int} (hl : l.length ≤ 1048576) {a b c : Int} : impl_fits a b c l = some ((measOk a b c && fitsB a b c l, ()), (), ()) := by
  simp only [impl_fits, impl_SpreadLine, implMeasureOk_eq, implLineOk_eq hl, lettersAndBands_eq hl, Option.bind_some, fitsB]
  by_cases hm : measOk a b c = true
  · rw [hm]
    simp only [measOk, inB, Bool.and_eq_true, decide_eq_true_eq] at hm
    by_cases h : lineOk l = true
    · obtain ⟨h1, h2⟩ := lineOk_range h
      obtain ⟨r1, r2, r3, r4⟩ := sumW_range hl h2
      have := mul_range r3 (by omega) (y := b) (by omega) (by omega)
      rw [h]
      simp only [impl_spread, Bool.not_true, br_false, Bool.true_and]
      rw [w64_id (x := a - (sumW l).1) (by omega) (by omega), w64_id (x := (sumW l).2 * b) (by omega) (by omega), w64_id (x := a - (sumW l).1 - (sumW l).2 * b) (by omega) (by omega)]
      by_cases k : a - (sumW l).1 - (sumW l).2 * b < 0
      · rw [decide_eq_true k, br_true, decide_eq_false (by omega)]; rfl
      · rw [decide_eq_false k, br_false, decide_eq_true (by omega : (sumW l).1 + (sumW l).2 * b ≤ a)]
        by_cases z : (sumW l).2 > 0
        · rw [decide_eq_true z, br_true, ck_pos (by omega)]; rfl
        · rw [decide_eq_false z]; rfl
    · rw [Bool.eq_false_iff.2 h]; rfl
  · rw [Bool.eq_false_iff.2 hm]; rfl
def goodB (s : ByteArray) (so : List Int) (m : Int × Int) : Bool := bandB m || ofFont s so m
def machOk (s : ByteArray) (ws so : List Int) (d : List (List (Int × Int))) (e a b c : Int) (f g : List (Int × Int)) : Bool :=
  magOk s ws so d && (inB e 0 60 && (measOk a b c && (decide ((g.length : Int) ≤ 240) && (f.all (goodB s so) && (g.all (ofFont s so) && fitsB a b c (f.map (widOf ws)))))))
section
variable {s : ByteArray} {ws so : List Int} {d : List (List (Int × Int))} {e a b c : Int} {f g : List (Int × Int)} (hs : s.size ≤ 1048576) (hw : ws.length ≤ 1048576) (ho : so.length ≤ 1048576) (hd : d.length ≤ 1048576) (hd' : ∀ c ∈ d, c.length ≤ 1048576)
  (hf : f.length ≤ 1048576) (hg : g.length ≤ 1048576)
include hs hw ho hd hd' hf hg
theorem specMachineOk_eq : spec_MachineOk s ws so d e a b c f g = some ((machOk s ws so d e a b c f g, ()), (), ()) := by
  simp only [spec_MachineOk, specMagazineOk_eq hs hw ho hd hd', l1In_eq, specMeasureOk_eq, Option.bind_some, machOk]
  by_cases h1 : magOk s ws so d = true
  · have h1' : fontOk s ws so = true := by simp only [magOk, Bool.and_eq_true] at h1; exact h1.1
    obtain ⟨e1, e2, _⟩ := fontOk_len h1'
    rw [h1, Bool.not_true, br_false]
    by_cases h2 : inB e 0 60 = true
    · rw [h2, Bool.not_true, br_false]
      by_cases h3 : measOk a b c = true
      · rw [h3, Bool.not_true, br_false]
        by_cases h4 : (g.length : Int) > 240
        · rw [decide_eq_true h4, br_true, decide_eq_false (by omega)]; rfl
        · rw [decide_eq_false h4, br_false, decide_eq_true (by omega : (g.length : Int) ≤ 240)]
          have hA := loop_all (s := spec_MachineOk_s0) f (0, 0) (fun i => (((), f, (f.length : Int), (i : Int), ()), ((s, ws, so, d, e, a, b, c, f, g, ()), ()), ())) (goodB s so) (.inl ((false, ()), (), ())) (.inr (((), ()), ((s, ws, so, d, e, a, b, c, f, g, ()), ()), ())) (by
            intro i hi
            simp only [spec_MachineOk_s0, Int.toNat_natCast, l2Matrix_eq hs e2, Option.bind_some, br_ite, w64_succ hi (big_len hf)]
            rw [if_pos (by simpa using hi), ck_pos (by omega), ck_pos hi]
            unfold goodB bandB bne
            show (if (!ofFont s so (f.getD i (0, 0))) = true then _ else _) = _
            cases ofFont s so (f.getD i (0, 0)) <;> cases ((f.getD i (0, 0)).1 == -1) <;> cases ((f.getD i (0, 0)).2 == 0) <;> rfl) (by
            simp only [spec_MachineOk_s0, br_ite]
            rw [if_neg (by simp)])
          have hB := loop_all (s := spec_MachineOk_s2) g (0, 0) (fun i => (((), g, (g.length : Int), (i : Int), ()), ((s, ws, so, d, e, a, b, c, f, g, ()), ()), ())) (ofFont s so) (.inl ((false, ()), (), ())) (.inr (((), ()), ((s, ws, so, d, e, a, b, c, f, g, ()), ()), ())) (by
            intro i hi
            simp only [spec_MachineOk_s2, Int.toNat_natCast, l2Matrix_eq hs e2, Option.bind_some, br_ite, w64_succ hi (big_len hg)]
            rw [if_pos (by simpa using hi), ck_pos (by omega), ck_pos hi]
            show (if (!ofFont s so (g.getD i (0, 0))) = true then _ else _) = _
            cases ofFont s so (g.getD i (0, 0)) <;> rfl) (by
            simp only [spec_MachineOk_s2, br_ite]
            rw [if_neg (by simp)])
          simp only [Int.ofNat_zero, Int.natCast_zero] at hA hB
          rw [hA, Option.bind_some, sumK_ite, sumK_inl, sumK_inr]
          by_cases h5 : f.all (goodB s so) = true
          · rw [if_pos h5, h5]
            simp only []
            rw [hB, Option.bind_some, sumK_ite, sumK_inl, sumK_inr]
            by_cases h6 : g.all (ofFont s so) = true
            · rw [if_pos h6, h6]
              simp only []
              rw [specItems_eq e1 hf (fun m hm => List.all_eq_true.1 h5 m hm), Option.bind_some]
              simp only []
              rw [l3Fits_eq (by simpa using hf) h3]
              rfl
            · rw [if_neg h6, Bool.eq_false_iff.2 h6]; rfl
          · rw [if_neg h5, Bool.eq_false_iff.2 h5]; rfl
      · rw [Bool.eq_false_iff.2 h3]; rfl
    · rw [Bool.eq_false_iff.2 h2]; rfl
  · rw [Bool.eq_false_iff.2 h1]; rfl
set_option linter.unusedSectionVars false in
theorem containsGood (e1 : ws.length = s.size) (e2 : so.length = s.size) : ContainsFunc_Matrix_impl_MachineOk_1 f s ws so e a b c f g = some ((!f.all (goodB s so), ()), (), ()) := by
  have h1 : ∀ m : Int × Int, impl_MachineOk_1 m.1 m.2 s ws so e a b c f g = some ((!goodB s so m, ()), (), ()) := fun m => by
    simp only [impl_MachineOk_1, isBand_eq, ofFont_eq e2, Option.bind_some, goodB]
    show br (!bandB m) (some ((!ofFont s so m, ()), (), ())) _ = _
    cases bandB m <;> rfl
  have h := loop_idx (s := IndexFunc_Matrix_impl_MachineOk_1_s0) f (0, 0) (fun i => ((f, ((s, ws, so, (), e, a, b, c, f, g, ()), ()), (f.length : Int), (i : Int), ()), (), ())) (fun x => !goodB s so x) (fun i => .inl (((i : Int), ()), (), ())) (.inr ((), (), ())) (by
    intro i hi
    simp only [IndexFunc_Matrix_impl_MachineOk_1_s0, h1, Int.toNat_natCast, Option.bind_some, br_ite]
    rw [if_pos (by simpa using hi), ck_pos (by omega), ck_pos hi, w64_succ hi (big_len hf)]
    cases goodB s so (f.getD i (0, 0)) <;> rfl) (by
    simp only [IndexFunc_Matrix_impl_MachineOk_1_s0, br_ite]
    rw [if_neg (by simp)])
  have h2 : IndexFunc_Matrix_impl_MachineOk_1 f s ws so e a b c f g = some ((idxOf f (fun x => !goodB s so x), ()), (), ()) := by
    refine (congrArg (fun o => Option.bind o fun r5 => sumK r5 (fun y8 => some ((y8.1.1, ()), (), ())) (fun y9 => some (((-1 : Int), ()), (), ()))) h).trans ?_
    simp only [Option.bind_some, sumK_ite, sumK_inl, sumK_inr, idxOf]
    split <;> rfl
  simp only [ContainsFunc_Matrix_impl_MachineOk_1, h2, Option.bind_some, idxOf_ge]
  congr 3
  rw [Bool.eq_iff_iff]; simp
theorem implMachineOk_eq : impl_MachineOk s ws so d e a b c f g = some ((machOk s ws so d e a b c f g, ()), (), ()) := by
  simp only [impl_MachineOk, implMagazineOk_eq hs hw ho hd hd', Option.bind_some, machOk]
  by_cases h1 : magOk s ws so d = true
  · have h1' : fontOk s ws so = true := by simp only [magOk, Bool.and_eq_true] at h1; exact h1.1
    obtain ⟨e1, e2, _⟩ := fontOk_len h1'
    rw [h1, Bool.not_true, br_false, allOf_eq e2 hg, containsGood hs hw ho hd hd' hf hg e1 e2, Option.bind_some, Option.bind_some]
    by_cases h2 : inB e 0 60 = true
    · rw [h2]
      have h2' : 0 ≤ e ∧ e ≤ 60 := by simpa [inB] using h2
      rw [decide_eq_false (by omega : ¬ e < 0), br_false, decide_eq_false (by omega : ¬ e > 60), br_false]
      by_cases h7 : (f.length : Int) > 120
      · rw [decide_eq_true h7, br_true]
        have : fitsB a b c (f.map (widOf ws)) = false := by
          unfold fitsB lineOk
          rw [List.length_map, decide_eq_false (by omega : ¬ (f.length : Int) ≤ 120)]; rfl
        rw [this]
        simp
      · rw [decide_eq_false h7, br_false]
        by_cases h4 : (g.length : Int) > 240
        · rw [decide_eq_true h4, br_true, decide_eq_false (by omega : ¬ (g.length : Int) ≤ 240)]; simp
        · rw [decide_eq_false h4, br_false, decide_eq_true (by omega : (g.length : Int) ≤ 240)]
          by_cases h6 : g.all (ofFont s so) = true
          · rw [h6, Bool.not_true, br_false]
            by_cases h5 : f.all (goodB s so) = true
            · rw [h5, Bool.not_true, br_false, implItems_eq e1 hf (fun m hm => List.all_eq_true.1 h5 m hm), Option.bind_some]
              simp only []
              rw [fits_eq (by simpa using hf)]
              simp
            · rw [Bool.eq_false_iff.2 h5]; simp
          · rw [Bool.eq_false_iff.2 h6]; simp
    · rw [Bool.eq_false_iff.2 h2, br_ite, br_ite]
      have h2' : ¬ (0 ≤ e ∧ e ≤ 60) := by simpa [inB] using h2
      by_cases k1 : e < 0
      · rw [if_pos (by simpa using k1)]; rfl
      · rw [if_neg (by simpa using k1), if_pos (by simp; omega)]; rfl
  · rw [Bool.eq_false_iff.2 h1]; rfl
end
end Go.Tree
namespace Go.Tree
set_option linter.unusedVariables false
end Go.Tree
namespace Go.Tree
set_option linter.unusedVariables false
set_option linter.unusedSimpArgs false
def letOf (s : ByteArray) (m : Int × Int) : Int := if m.1 < 0 then 32 else byteAt s m.1.toNat
section
variable {s : ByteArray} {ws so : List Int} (hs : s.size ≤ 1048576) {l : List (Int × Int)} (hl : l.length ≤ 1048576) (hall : ∀ m ∈ l, (bandB m || ofFont s so m) = true)
include hall in
theorem letter_in {i : Nat} (hi : i < l.length) (h : ¬ (l.getD i (0, 0)).1 < 0) : (l.getD i (0, 0)).1.toNat < s.size := by
  have := hall _ (getD_mem (d := (0, 0)) hi)
  simp only [bandB, ofFont, Bool.or_eq_true, Bool.and_eq_true, beq_iff_eq, decide_eq_true_eq] at this
  omega
include hs hl hall
set_option linter.unusedSectionVars false in
theorem implText_eq (d : List (List (Int × Int))) (e a b c : Int) (g : List (Int × Int)) :
    loopC impl_LineText_s0 (((), (), l, (l.length : Int), (0 : Int), ()), ((s, ws, so, d, e, a, b, c, l, g, ()), ()), ([], ())) = some (((), ()), (), (l.map (letOf s), ())) :=
  loop_for (s := impl_LineText_s0) (fun i => (((), (), l, (l.length : Int), (i : Int), ()), ((s, ws, so, d, e, a, b, c, l, g, ()), ()), ((l.take i).map (letOf s), ()))) l.length (((), ()), (), (l.map (letOf s), ())) (by
    intro i hi
    have hk := letter_in hall hi
    have hb := hall _ (getD_mem (d := (0, 0)) hi)
    simp only [impl_LineText_s0, isBand_eq, Option.bind_some, Int.toNat_natCast, br_ite, List.length_cons, List.length_nil, List.length_map, List.length_take]
    rw [if_pos (by simpa using hi), ck_pos (by omega), ck_pos hi, ← map_take_succ l (0, 0) (letOf s) hi, w64_succ hi (big_len hl)]
    unfold letOf
    have e : (bandB ((l.getD i (0, 0)).1, (l.getD i (0, 0)).2) = true) ↔ (l.getD i (0, 0)).1 < 0 := by
      simp only [bandB, ofFont, Bool.or_eq_true, Bool.and_eq_true, beq_iff_eq, decide_eq_true_eq] at hb ⊢
      omega
    by_cases k : (l.getD i (0, 0)).1 < 0
    · rw [if_pos (e.2 k), ck_pos ⟨by omega, by omega⟩, if_pos k]
    · rw [if_neg (fun h => k (e.1 h)), ck_pos ⟨by omega, hk k⟩, ck_pos ⟨by omega, by omega⟩, if_neg k]) (by
    simp only [impl_LineText_s0, br_ite, List.take_length]
    rw [if_neg (by simp)])
end
def lineText (s : ByteArray) (ws so : List Int) (d : List (List (Int × Int))) (e a b c : Int) (f g : List (Int × Int)) : ByteArray := if machOk s ws so d e a b c f g = true then ofBytes (f.map (letOf s)) else ByteArray.empty
theorem machOk_good {s : ByteArray} {ws so : List Int} {d : List (List (Int × Int))} {e a b c : Int} {f g : List (Int × Int)} (h : machOk s ws so d e a b c f g = true) : ∀ m ∈ f, (bandB m || ofFont s so m) = true := by
  simp only [machOk, Bool.and_eq_true] at h
  exact fun m hm => List.all_eq_true.1 h.2.2.2.2.1 m hm
section
variable {s : ByteArray} {ws so : List Int} {d : List (List (Int × Int))} {e a b c : Int} {f g : List (Int × Int)} (hs : s.size ≤ 1048576) (hw : ws.length ≤ 1048576) (ho : so.length ≤ 1048576) (hd : d.length ≤ 1048576) (hd' : ∀ c ∈ d, c.length ≤ 1048576)
  (hf : f.length ≤ 1048576) (hg : g.length ≤ 1048576)
include hs hw ho hd hd' hf hg
theorem implLineText_eq : impl_LineText s ws so d e a b c f g = some ((lineText s ws so d e a b c f g, ()), (), ()) := by
  simp only [impl_LineText, implMachineOk_eq hs hw ho hd hd' hf hg, Option.bind_some, lineText]
  by_cases h : machOk s ws so d e a b c f g = true
  · rw [h, implText_eq hs hf (machOk_good h)]; rfl
  · rw [Bool.eq_false_iff.2 h]; rfl
end
end Go.Tree
namespace Go.Tree
set_option linter.unusedVariables false
set_option linter.unusedSimpArgs false
end Go.Tree
namespace Go.Tree
set_option linter.unusedVariables false
set_option linter.unusedSimpArgs false
def itemsOf (s : ByteArray) (ws so : List Int) (d : List (List (Int × Int))) (e a b c : Int) (f g : List (Int × Int)) : List Int := if machOk s ws so d e a b c f g = true then f.map (widOf ws) else []
theorem machOk_font {s : ByteArray} {ws so : List Int} {d : List (List (Int × Int))} {e a b c : Int} {f g : List (Int × Int)} (h : machOk s ws so d e a b c f g = true) : ws.length = s.size ∧ ∀ m ∈ f, (bandB m || ofFont s so m) = true := by
  simp only [machOk, magOk, Bool.and_eq_true] at h
  exact ⟨(fontOk_len h.1.1).1, fun m hm => List.all_eq_true.1 h.2.2.2.2.1 m hm⟩
section
variable {s : ByteArray} {ws so : List Int} {d : List (List (Int × Int))} {e a b c : Int} {f g : List (Int × Int)} (hs : s.size ≤ 1048576) (hw : ws.length ≤ 1048576) (ho : so.length ≤ 1048576) (hd : d.length ≤ 1048576) (hd' : ∀ c ∈ d, c.length ≤ 1048576)
  (hf : f.length ≤ 1048576) (hg : g.length ≤ 1048576)
include hs hw ho hd hd' hf hg
theorem implItemsOf_eq : impl_ItemsOf s ws so d e a b c f g = some (((), ()), (), (itemsOf s ws so d e a b c f g, ())) := by
  simp only [impl_ItemsOf, implMachineOk_eq hs hw ho hd hd' hf hg, Option.bind_some, itemsOf]
  by_cases h : machOk s ws so d e a b c f g = true
  · rw [h, implItems_eq (machOk_font h).1 hf (machOk_font h).2]; rfl
  · rw [Bool.eq_false_iff.2 h]; rfl
end
end Go.Tree
namespace Go.Tree
set_option linter.unusedVariables false
set_option linter.unusedSimpArgs false
theorem getD_of_lt {α : Type} {l : List α} {d : α} {i : Nat} (h : i < l.length) : l.getD i d = l[i] := by
  rw [List.getD_eq_getElem?_getD, List.getElem?_eq_getElem h]; rfl
/-- a machine -/
structure Mach where
  s : ByteArray
  ws : List Int
  so : List Int
  d : List (List (Int × Int))
  e : Int
  a : Int
  b : Int
  c : Int
  f : List (Int × Int)
  g : List (Int × Int)
structure Mach.Sm (m : Mach) : Prop where
  s : m.s.size ≤ 1048576
  ws : m.ws.length ≤ 1048576
  so : m.so.length ≤ 1048576
  d : m.d.length ≤ 1048576
  d' : ∀ x ∈ m.d, x.length ≤ 1048576
  f : m.f.length ≤ 1048576
  g : m.g.length ≤ 1048576
def Mach.no : Mach := ⟨.empty, [], [], [], 0, 0, 0, 0, [], []⟩
theorem Mach.no_sm : Mach.no.Sm := ⟨by decide, by decide, by decide, by decide, (fun x hx => by cases hx), by decide, by decide⟩
abbrev Mach.ok (m : Mach) : Bool := machOk m.s m.ws m.so m.d m.e m.a m.b m.c m.f m.g
abbrev Mach.top (m : Mach) : ByteArray × Unit × Unit × Unit × Int × Int × Int × Int × Unit × Unit × Unit := (m.s, (), (), (), m.e, m.a, m.b, m.c, (), (), ())
abbrev Mach.obs (m : Mach) : List Int × List Int × List (List (Int × Int)) × List (Int × Int) × List (Int × Int) × Unit := (m.ws, m.so, m.d, m.f, m.g, ())
section
variable {m : Mach} (h : m.Sm)
include h
theorem specOk_eq : spec_MachineOk m.s m.ws m.so m.d m.e m.a m.b m.c m.f m.g = some ((m.ok, ()), (), ()) := specMachineOk_eq h.s h.ws h.so h.d h.d' h.f h.g
theorem implOk_eq : impl_MachineOk m.s m.ws m.so m.d m.e m.a m.b m.c m.f m.g = some ((m.ok, ()), (), ()) := implMachineOk_eq h.s h.ws h.so h.d h.d' h.f h.g
end
theorem mag_parts {s : ByteArray} {ws so : List Int} {d : List (List (Int × Int))} (h : magOk s ws so d = true) : fontOk s ws so = true ∧ d.length = s.size ∧ ∀ c ∈ d, c.length ≤ 20 ∧ ∀ m ∈ c, ofFont s so m = true := by
  simp only [magOk, colB, Bool.and_eq_true, List.all_eq_true, beq_iff_eq, decide_eq_true_eq] at h
  exact ⟨h.1, h.2.1, fun c hc => ⟨by have := (h.2.2 c hc).1; omega, (h.2.2 c hc).2⟩⟩
theorem font_size {s : ByteArray} {ws so : List Int} (h : fontOk s ws so = true) : 1 ≤ s.size ∧ s.size ≤ 40 := by
  simp only [fontOk, inB, Bool.and_eq_true, decide_eq_true_eq] at h
  omega
theorem ofFont_teeth {s : ByteArray} {so : List Int} {m : Int × Int} (h : ofFont s so m = true) : 0 ≤ m.1 ∧ m.1 < s.size ∧ 0 ≤ m.2 ∧ m.2 ≤ 127 := by
  simp only [ofFont, setB, inB, Bool.and_eq_true, decide_eq_true_eq] at h
  omega
theorem ok_parts {m : Mach} (h : m.ok = true) : magOk m.s m.ws m.so m.d = true ∧ (0 ≤ m.e ∧ m.e ≤ 60) ∧ measOk m.a m.b m.c = true ∧ (m.g.length : Int) ≤ 240 ∧ (∀ x ∈ m.f, goodB m.s m.so x = true) ∧ (∀ x ∈ m.g, ofFont m.s m.so x = true) ∧ fitsB m.a m.b m.c (m.f.map (widOf m.ws)) = true := by
  simp only [Mach.ok, machOk, inB, Bool.and_eq_true, decide_eq_true_eq, List.all_eq_true] at h
  exact h
theorem ok_of {m : Mach} (h1 : magOk m.s m.ws m.so m.d = true) (h2 : 0 ≤ m.e ∧ m.e ≤ 60) (h3 : measOk m.a m.b m.c = true) (h4 : (m.g.length : Int) ≤ 240) (h5 : ∀ x ∈ m.f, goodB m.s m.so x = true) (h6 : ∀ x ∈ m.g, ofFont m.s m.so x = true) (h7 : fitsB m.a m.b m.c (m.f.map (widOf m.ws)) = true) : m.ok = true := by
  simp only [Mach.ok, machOk, inB, Bool.and_eq_true, decide_eq_true_eq, List.all_eq_true]
  exact ⟨h1, h2, h3, h4, h5, h6, h7⟩
theorem fits_len {a b c : Int} {l : List Int} (h : fitsB a b c l = true) : l.length ≤ 120 := by
  simp only [fitsB, Bool.and_eq_true] at h
  exact (lineOk_range h.1).1
theorem ok_sm {m : Mach} (h : m.ok = true) : m.Sm := by
  obtain ⟨h1, h2, h3, h4, h5, h6, h7⟩ := ok_parts h
  obtain ⟨hf, hl, hc⟩ := mag_parts h1
  obtain ⟨e1, e2, _⟩ := fontOk_len hf
  have hs := font_size hf
  have hi := fits_len h7
  rw [List.length_map] at hi
  exact ⟨by omega, by omega, by omega, by omega, fun x hx => by have := (hc x hx).1; omega, by omega, by omega⟩
theorem foldl_range {α β : Type} (l : List α) (d : α) (F : β → α → β) (a : β) : (List.range l.length).foldl (fun a i => F a (l.getD i d)) a = l.foldl F a := by
  have gen : ∀ (k : Nat), k ≤ l.length → (List.range k).foldl (fun a i => F a (l.getD i d)) a = (l.take k).foldl F a := by
    intro k
    induction k with
    | zero => intro _; rfl
    | succ k ih =>
      intro hk
      rw [List.range_succ, List.foldl_append, ih (by omega), List.take_succ_eq_append_getElem (by omega), List.foldl_append]
      simp only [List.foldl_cons, List.foldl_nil, getD_of_lt (show k < l.length by omega)]
  rw [gen l.length (Nat.le_refl _), List.take_length]
theorem good_kinds {m : Mach} (hok : m.ok = true) : ∀ x ∈ m.f ++ m.g, (bandB x = decide (x.1 < 0)) ∧ (¬ x.1 < 0 → x.1.toNat < m.d.length) := by
  obtain ⟨h1, h2, h3, h4, h5, h6, h7⟩ := ok_parts hok
  obtain ⟨hf, hl, hc⟩ := mag_parts h1
  intro x hx
  have key : bandB x = true ∨ ofFont m.s m.so x = true := by
    rcases List.mem_append.1 hx with hx | hx
    · have := h5 x hx
      unfold goodB at this
      exact Bool.or_eq_true _ _ ▸ this
    · exact .inr (h6 x hx)
  rcases key with hb | ho
  · have : x.1 = -1 := by
      simp only [bandB, Bool.and_eq_true, beq_iff_eq] at hb
      exact hb.1
    exact ⟨by rw [hb, decide_eq_true (by omega)], fun h => by omega⟩
  · obtain ⟨t1, t2, _, _⟩ := ofFont_teeth ho
    refine ⟨?_, fun _ => by omega⟩
    rw [decide_eq_false (by omega)]
    simp only [bandB, Bool.and_eq_false_iff, beq_eq_false_iff_ne]
    left; omega
end Go.Tree
namespace Go.Tree
set_option linter.unusedVariables false
set_option linter.unusedSimpArgs false
theorem cloneMat_eq {l : List (Int × Int)} (hl : l.length ≤ 1048576) : Clone_Matrix l = some (((), ()), (), (l, ())) := by
  simp only [Clone_Matrix, List.nil_append, List.length_nil, Nat.zero_add, br_ite]
  have e : ∀ {α : Type} (x : Option α), ck (l.length * 16 ≤ 140737488355328 ∧ l.length ≤ 9223372036854775807) x = x := fun x => ck_pos (by omega) x
  rw [e]
  split
  · rename_i h
    have : l = [] := by simpa using h
    subst this
    exact both_self _
  · rfl
theorem copyMag_eq {d : List (List (Int × Int))} (hd : d.length ≤ 1048576) (hd' : ∀ c ∈ d, c.length ≤ 1048576) : impl_copyMagazine d = some (((), ()), (), (d, ())) := by
  have h := loop_for (s := impl_copyMagazine_s0) (fun i => (((), d, (d.length : Int), (i : Int), ()), (), (d.take i, ()))) d.length (((), ()), (), (d, ())) (by
    intro i hi
    have hmem : d.getD i [] ∈ d := getD_mem hi
    have hc := hd' _ hmem
    have hlen : (d.take i).length = i := by simp; omega
    simp only [impl_copyMagazine_s0, Int.toNat_natCast, br_ite, cloneMat_eq hc, Option.bind_some, hlen]
    rw [if_pos (by simpa using hi), ck_pos (by omega), ck_pos hi, ck_pos (by omega), w64_succ hi (big_len hd), getD_of_lt hi, ← List.take_succ_eq_append_getElem hi]) (by
    simp only [impl_copyMagazine_s0, br_ite, List.take_length]
    rw [if_neg (by simp)])
  exact congrArg (fun o => Option.bind o fun r6 => some (((), ()), (), (r6.2.2.1, ()))) h
theorem cloneInt_eq {l : List Int} (hl : l.length ≤ 1048576) : Clone_int l = some (((), ()), (), (l, ())) := by
  simp only [Clone_int, List.nil_append, List.length_nil, Nat.zero_add, br_ite]
  have e : ∀ {α : Type} (x : Option α), ck (l.length * 8 ≤ 140737488355328 ∧ l.length ≤ 9223372036854775807) x = x := fun x => ck_pos (by omega) x
  rw [e]
  split
  · rename_i h
    have : l = [] := by simpa using h
    subst this
    exact both_self _
  · rfl
section
variable {m : Mach} (h : m.Sm)
include h
theorem copyM_eq : impl_copyMachine m.s m.ws m.so m.d m.e m.a m.b m.c m.f m.g = some ((m.top, ()), (), m.obs) := by
  simp only [impl_copyMachine, copyMag_eq h.d h.d', cloneInt_eq h.ws, cloneInt_eq h.so, cloneMat_eq h.f, cloneMat_eq h.g, Option.bind_some]
end
end Go.Tree
namespace Go.Tree
set_option linter.unusedVariables false
set_option linter.unusedSimpArgs false
def fillR (so : List Int) (n : Nat) (i : Nat) : List (Int × Int) := List.replicate n ((i : Int), so.getD i 0)
def fillD (so : List Int) (n k : Nat) : List (List (Int × Int)) := (List.range k).map (fillR so n)
/-- row number i is being filled: k are in -/
def gFill (so : List Int) (n i k j : Nat) : List (Int × Int) := if j < i then fillR so n j else if j = i then List.replicate k ((i : Int), so.getD i 0) else []
def mFill (so : List Int) (n i k L : Nat) : List (List (Int × Int)) := (List.range L).map (gFill so n i k)
theorem mFill_len (so : List Int) (n i k L : Nat) : (mFill so n i k L).length = L := by simp [mFill]
theorem mFill_get (so : List Int) (n : Nat) {i L : Nat} (k : Nat) (h : i < L) : (mFill so n i k L).getD i [] = List.replicate k ((i : Int), so.getD i 0) := by
  unfold mFill
  rw [List.getD_eq_getElem?_getD, List.getElem?_map, List.getElem?_range h]
  simp [gFill]
theorem mFill_set (so : List Int) (n i k L : Nat) : (mFill so n i k L).set i (List.replicate (k + 1) ((i : Int), so.getD i 0)) = mFill so n i (k + 1) L := by
  apply List.ext_getElem?
  intro j
  rw [List.getElem?_set]
  unfold mFill
  by_cases hj : j < L
  · simp only [List.getElem?_map, List.getElem?_range hj, Option.map_some, List.length_map, List.length_range]
    by_cases e : i = j
    · subst e
      rw [if_pos rfl, if_pos hj]
      simp [gFill]
    · rw [if_neg e]
      simp [gFill, Ne.symm e]
  · have : (List.range L)[j]? = none := by simp; omega
    simp only [List.getElem?_map, this, Option.map_none, List.length_map, List.length_range]
    split
    · rename_i e; rw [if_neg (by omega)]
    · rfl
theorem mFill_next (so : List Int) (n i L : Nat) : mFill so n i n L = mFill so n (i + 1) 0 L := by
  unfold mFill
  congr 1
  funext j
  unfold gFill
  by_cases h1 : j < i
  · rw [if_pos h1, if_pos (by omega)]
  · rw [if_neg h1]
    by_cases h2 : j = i
    · subst h2; rw [if_pos rfl, if_pos (by omega)]; rfl
    · rw [if_neg h2, if_neg (by omega)]
      split <;> rfl
theorem mFill_zero (so : List Int) (n L : Nat) : mFill so n 0 0 L = List.replicate L [] := by
  apply List.ext_getElem?
  intro j
  unfold mFill
  by_cases hj : j < L
  · simp only [List.getElem?_map, List.getElem?_range hj, Option.map_some]
    simp [gFill, hj]
  · have : (List.range L)[j]? = none := by simp; omega
    rw [List.getElem?_map, this]
    simp; omega
theorem mFill_all (so : List Int) (n L : Nat) : mFill so n L 0 L = fillD so n L := by
  unfold mFill fillD
  apply List.map_congr_left
  intro j hj
  simp only [List.mem_range] at hj
  simp [gFill, hj]
theorem specFill_in {so : List Int} {n : Int} (h0 : 0 ≤ n) (h1 : n ≤ 20) {i L : Nat} (hi : i < L) (u : Int) (v : Int) :
    loopC spec_FillMagazine_s2 ((n, (), (i : Int), so.getD i 0, (0 : Int), so, v, (i : Int), ()), (), (mFill so n.toNat i 0 L, ())) = some ((n, (), so, v, (i : Int), ()), (), (mFill so n.toNat i n.toNat L, ())) :=
  loop_for (s := spec_FillMagazine_s2) (fun k => ((n, (), (i : Int), so.getD i 0, (k : Int), so, v, (i : Int), ()), (), (mFill so n.toNat i k L, ()))) n.toNat ((n, (), so, v, (i : Int), ()), (), (mFill so n.toNat i n.toNat L, ())) (by
    intro k hk
    have e1 := mFill_get so n.toNat k hi
    have e2 := mFill_set so n.toNat i k L
    have hap : List.replicate k ((i : Int), so.getD i 0) ++ [((i : Int), so.getD i 0)] = List.replicate (k + 1) ((i : Int), so.getD i 0) := by
      rw [List.replicate_succ']
    simp only [spec_FillMagazine_s2, Int.toNat_natCast, br_ite, mFill_len, e1, hap, e2]
    rw [if_pos (by rw [decide_eq_true_eq]; omega), ck_pos (by omega), ck_pos hi, ck_pos hi, ck_pos hi, ck_pos (by simp; omega), ck_pos (by omega), ck_pos hi, ck_pos ⟨trivial, hi⟩, w64_succ (n := n.toNat) hk (by unfold maxLen; omega)]) (by
    simp only [spec_FillMagazine_s2, br_ite]
    rw [if_neg (by rw [decide_eq_true_eq]; omega)])
theorem specFill_loop {so : List Int} {n : Int} (h0 : 0 ≤ n) (h1 : n ≤ 20) (hl : so.length ≤ 1048576) :
    loopC spec_FillMagazine_s0 ((n, (), so, (so.length : Int), (0 : Int), ()), (), (List.replicate so.length [], ())) = some (((), ()), (), (fillD so n.toNat so.length, ())) := by
  have h := loop_for (s := spec_FillMagazine_s0) (fun i => ((n, (), so, (so.length : Int), (i : Int), ()), (), (mFill so n.toNat i 0 so.length, ()))) so.length (((), ()), (), (fillD so n.toNat so.length, ())) (by
    intro i hi
    simp only [spec_FillMagazine_s0, Int.toNat_natCast, br_ite, specFill_in h0 h1 hi 0, Option.bind_some, mFill_next]
    rw [if_pos (by simpa using hi), ck_pos (by omega), ck_pos hi, w64_succ hi (big_len hl)]) (by
    simp only [spec_FillMagazine_s0, br_ite, mFill_all]
    rw [if_neg (by simp)])
  rw [mFill_zero] at h
  exact h
def fillB (s : ByteArray) (ws so : List Int) (n : Int) : Bool := fontOk s ws so && inB n 0 20
section
variable {s : ByteArray} {ws so : List Int} (hs : s.size ≤ 1048576) (hw : ws.length ≤ 1048576) (ho : so.length ≤ 1048576)
include hs hw ho
theorem specFill_eq (n : Int) : spec_FillMagazine s ws so n = some (((), fillB s ws so n, ()), (), (if fillB s ws so n = true then fillD so n.toNat so.length else [], ())) := by
  simp only [spec_FillMagazine, specFontOk_eq hs hw ho, l1In_eq, Option.bind_some]
  by_cases hf : fontOk s ws so = true
  · by_cases hn : inB n 0 20 = true
    · obtain ⟨_, e, _⟩ := fontOk_len hf
      have hn' : 0 ≤ n ∧ n ≤ 20 := by simpa [inB] using hn
      have hb : fillB s ws so n = true := by unfold fillB; rw [hf, hn]; rfl
      rw [hb, hf, hn]
      simp only [Bool.not_true, br_false, Int.toNat_natCast, if_true]
      rw [ck_pos (by omega), ck_pos (by omega), ck_pos ⟨trivial, by omega, by omega⟩, ← e, specFill_loop hn'.1 hn'.2 ho]
      rfl
    · have hb : fillB s ws so n = false := by unfold fillB; rw [Bool.eq_false_iff.2 hn, Bool.and_false]
      rw [hb, hf, Bool.eq_false_iff.2 hn]; rfl
  · have hb : fillB s ws so n = false := by unfold fillB; rw [Bool.eq_false_iff.2 hf, Bool.false_and]
    rw [hb, Bool.eq_false_iff.2 hf]; rfl
end
theorem fillD_sm (so : List Int) (n : Int) (h1 : n ≤ 20) : (fillD so n.toNat so.length).length = so.length ∧ ∀ x ∈ fillD so n.toNat so.length, x.length ≤ 1048576 := by
  refine ⟨by simp [fillD], fun x hx => ?_⟩
  unfold fillD at hx
  obtain ⟨i, _, rfl⟩ := List.mem_map.1 hx
  simp [fillR]; omega
section
variable {s : ByteArray} {ws so : List Int} (hs : s.size ≤ 1048576) (hw : ws.length ≤ 1048576) (ho : so.length ≤ 1048576)
include hs hw ho
end
end Go.Tree
namespace Go.Tree
set_option linter.unusedVariables false
set_option linter.unusedSimpArgs false
def keyIdx (s : ByteArray) (l : Int) : Int := ((List.range s.size).findSome? fun i : Nat => if (byteAt s i == l) = true then some (i : Int) else none).getD (-1)
theorem find_sum (L : List Nat) (p : Nat → Bool) {X Y Z : Type} (mk : Int → X) (done : Y) (K1 : X → Z) (K2 : Y → Z) (k : Int → Z) (h1 : ∀ i, K1 (mk i) = k i) (h2 : K2 done = k (-1)) :
    sumK ((L.findSome? fun i : Nat => if p i = true then some (.inl (mk (i : Int)) : X ⊕ Y) else none).getD (.inr done)) K1 K2 = k ((L.findSome? fun i : Nat => if p i = true then some (i : Int) else none).getD (-1)) := by
  induction L with
  | nil => exact h2
  | cons a L ih =>
    rw [List.findSome?_cons, List.findSome?_cons]
    by_cases h : p a = true
    · simp only [h, if_true, Option.getD_some]; exact h1 a
    · simp only [h, if_false]; exact ih
theorem keyIdx_cases (s : ByteArray) (l : Int) : keyIdx s l = -1 ∨ (0 ≤ keyIdx s l ∧ (keyIdx s l).toNat < s.size ∧ byteAt s (keyIdx s l).toNat = l) := by
  unfold keyIdx
  cases h : (List.range s.size).findSome? fun i : Nat => if (byteAt s i == l) = true then some (i : Int) else none with
  | none => exact .inl rfl
  | some v =>
    obtain ⟨i, hi, hv⟩ := List.exists_of_findSome?_eq_some h
    split at hv
    · rename_i hb
      cases hv
      refine .inr ⟨by simp, by simpa using hi, by simpa using hb⟩
    · cases hv
theorem byte_w64 (s : ByteArray) (i : Nat) : w64 (byteAt s i) = byteAt s i := by
  have := byte_range s i
  exact w64_id (by omega) (by omega)
theorem implKey_eq {s : ByteArray} {ws so : List Int} (hs : s.size ≤ 1048576) (l : Int) : impl_key s ws so l = some ((keyIdx s l, ()), (), ()) := by
  have h := loop_find (s := impl_key_s0) (fun i => ((l, (), (s.size : Int), (i : Int), ()), ((s, ws, so, ()), ()), ())) s.size (fun i => if (byteAt s i == l) = true then some (.inl (((i : Int), ()), (), ())) else none) (.inr ((), (), ())) (by
    intro i hi
    simp only [impl_key_s0, Int.toNat_natCast, br_ite, byte_w64]
    rw [if_pos (by simpa using hi), ck_pos ⟨by omega, hi⟩, w64_succ hi (big_len hs)]
    split <;> rfl) (by
    simp only [impl_key_s0, br_ite]
    rw [if_neg (by simp)])
  refine (congrArg (fun o => Option.bind o fun r7 => sumK r7 (fun y10 => some ((y10.1.1, ()), (), ())) (fun y11 => some (((-1 : Int), ()), (), ()))) h).trans ?_
  rw [Option.bind_some]
  exact find_sum _ (fun i => byteAt s i == l) (fun i => ((i, ()), (), ())) _ _ _ (fun i => some ((i, ()), (), ())) (fun i => rfl) rfl

def takeB (s : ByteArray) (ws so : List Int) (d : List (List (Int × Int))) (k : Int) : Bool := magOk s ws so d && (inB k 0 ((d.length : Int) - 1) && !(((d.getD k.toNat []).length : Int) == 0))
def takeD (d : List (List (Int × Int))) (k : Nat) : List (List (Int × Int)) := d.set k (d.getD k []).tail
def headX (d : List (List (Int × Int))) (k : Nat) : Int × Int := (d.getD k []).getD 0 (0, 0)
theorem cut_one {α : Type} (l : List α) : cut l 1 l.length = l.tail := by cases l <;> simp [cut]
def keyBand (m : Mach) : Mach := { m with e := m.e - 1, f := m.f ++ [(-1, 0)] }
def keyTake (m : Mach) (k : Nat) : Mach := { m with d := takeD m.d k, f := m.f ++ [headX m.d k] }
/-- one byte is keyed -/
def keyStep (m : Mach) (l : Int) : Option Mach :=
  if (l == 32) = true then (if (keyBand m).ok = true then some (keyBand m) else none)
  else if (takeB m.s m.ws m.so m.d (keyIdx m.s l) && (keyTake m (keyIdx m.s l).toNat).ok) = true then some (keyTake m (keyIdx m.s l).toNat) else none
theorem keyStep_ok {m m' : Mach} {l : Int} (h : keyStep m l = some m') : m'.ok = true := by
  unfold keyStep at h
  split at h
  · split at h
    · rename_i hk; cases h; exact hk
    · cases h
  · split at h
    · rename_i hk; cases h; exact (Bool.and_eq_true _ _ ▸ hk).2
    · cases h
end Go.Tree
namespace Go.Tree
set_option linter.unusedVariables false
set_option linter.unusedSimpArgs false
theorem okBand {m : Mach} (h : m.ok = true) : (keyBand m).ok = (!(m.e == 0) && fitsB m.a m.b m.c ((m.f ++ [(-1, 0)]).map (widOf m.ws))) := by
  obtain ⟨h1, h2, h3, h4, h5, h6, h7⟩ := ok_parts h
  rw [Bool.eq_iff_iff]
  constructor
  · intro h'
    obtain ⟨g1, g2, g3, g4, g5, g6, g7⟩ := ok_parts h'
    have g2 : 0 ≤ m.e - 1 ∧ m.e - 1 ≤ 60 := g2
    have g7 : fitsB m.a m.b m.c ((m.f ++ [(-1, 0)]).map (widOf m.ws)) = true := g7
    rw [g7, Bool.and_true, Bool.not_eq_true', beq_eq_false_iff_ne]
    omega
  · intro h'
    rw [Bool.and_eq_true, Bool.not_eq_true', beq_eq_false_iff_ne] at h'
    refine ok_of h1 (show 0 ≤ m.e - 1 ∧ m.e - 1 ≤ 60 by omega) h3 h4 (fun x hx => ?_) h6 h'.2
    have hx : x ∈ m.f ++ [(-1, 0)] := hx
    rcases List.mem_append.1 hx with hx | hx
    · exact h5 x hx
    · simp at hx; subst hx; rfl
theorem takeD_mem {d : List (List (Int × Int))} {k : Nat} {c : List (Int × Int)} (hk : k < d.length) (h : c ∈ takeD d k) : ∃ c' ∈ d, c.length ≤ c'.length ∧ ∀ x ∈ c, x ∈ c' := by
  rcases List.mem_or_eq_of_mem_set h with h | h
  · exact ⟨c, h, Nat.le_refl _, fun x hx => hx⟩
  · exact ⟨_, getD_mem (d := []) hk, by rw [h, List.length_tail]; omega, fun x hx => List.mem_of_mem_tail (h ▸ hx)⟩
theorem headX_mem {d : List (List (Int × Int))} {k : Nat} (hp : 0 < (d.getD k []).length) : headX d k ∈ d.getD k [] := getD_mem hp
theorem okTake {m : Mach} (h : m.ok = true) {k : Nat} (hk : k < m.d.length) (hp : 0 < (m.d.getD k []).length) : (keyTake m k).ok = fitsB m.a m.b m.c ((m.f ++ [headX m.d k]).map (widOf m.ws)) := by
  obtain ⟨h1, h2, h3, h4, h5, h6, h7⟩ := ok_parts h
  rw [Bool.eq_iff_iff]
  constructor
  · intro h'
    exact (ok_parts h').2.2.2.2.2.2
  · intro h'
    obtain ⟨hf, hl, hc⟩ := mag_parts h1
    refine ok_of (m := keyTake m k) ?_ h2 h3 h4 (fun x hx => ?_) h6 h'
    · show magOk m.s m.ws m.so (takeD m.d k) = true
      simp only [magOk, hf, Bool.true_and, Bool.and_eq_true, beq_iff_eq, List.all_eq_true]
      refine ⟨by simp only [takeD, List.length_set]; exact hl, fun c hcm => ?_⟩
      obtain ⟨c', hc', l1, l2⟩ := takeD_mem hk hcm
      have := hc c' hc'
      simp only [colB, Bool.and_eq_true, decide_eq_true_eq, List.all_eq_true]
      exact ⟨by omega, fun x hx => this.2 x (l2 x hx)⟩
    · have hx : x ∈ m.f ++ [headX m.d k] := hx
      rcases List.mem_append.1 hx with hx | hx
      · exact h5 x hx
      · simp at hx
        subst hx
        show goodB m.s m.so (headX m.d k) = true
        unfold goodB
        rw [(hc _ (getD_mem (d := []) hk)).2 _ (headX_mem hp), Bool.or_true]
theorem takeB_ok {m : Mach} (h : m.ok = true) (l : Int) : takeB m.s m.ws m.so m.d (keyIdx m.s l) = (!decide (keyIdx m.s l < 0) && !(((m.d.getD (keyIdx m.s l).toNat []).length : Int) == 0)) := by
  obtain ⟨h1, _⟩ := ok_parts h
  obtain ⟨hf, hl, hc⟩ := mag_parts h1
  have hsz := font_size hf
  unfold takeB
  rw [h1, Bool.true_and]
  rcases keyIdx_cases m.s l with hk | ⟨k0, k1, k2⟩
  · rw [hk]; rfl
  · have e : inB (keyIdx m.s l) 0 ((m.d.length : Int) - 1) = true := by simp only [inB, decide_eq_true_eq]; omega
    rw [e, decide_eq_false (by omega)]; rfl
/-- bytes from n on are keyed -/
def keyR (text : ByteArray) : Nat → Nat → Mach → Mach × Int
  | 0, n, m => (m, n)
  | k + 1, n, m => match keyStep m (byteAt text n) with
    | some y => keyR text k (n + 1) y
    | none => (m, n)
theorem keyR_ok (text : ByteArray) : ∀ (k n : Nat) (m : Mach), m.ok = true → (keyR text k n m).1.ok = true
  | 0, _, _, h => h
  | k + 1, n, m, h => by
    simp only [keyR]
    cases hs : keyStep m (byteAt text n) with
    | none => exact h
    | some y => exact keyR_ok text k (n + 1) y (keyStep_ok hs)
section
variable {text : ByteArray} (ht : text.size ≤ 1048576) (zs : ByteArray) (ze za zb zc : Int)
abbrev keySt (text zs : ByteArray) (ze za zb zc : Int) (n : Nat) (m : Mach) : (ByteArray × Unit × Unit × Int × Int × Unit) × ((ByteArray × Unit × Unit × Unit × Int × Int × Int × Int × Unit × Unit × Unit) × (ByteArray × Unit × Unit × Unit × Int × Int × Int × Int × Unit × Unit × Unit) × Unit) × (List Int × List Int × List (List (Int × Int)) × List (Int × Int) × List (Int × Int) × Unit) :=
  ((text, (), (), (text.size : Int), (n : Int), ()), (m.top, (zs, (), (), (), ze, za, zb, zc, (), (), ()), ()), m.obs)
include ht in
theorem implKey_step {m : Mach} (hok : m.ok = true) {n : Nat} (hn : n < text.size) : impl_KeyText_s0 (keySt text zs ze za zb zc n m) =
    some (match keyStep m (byteAt text n) with | some y => .inl (keySt text zs ze za zb zc (n + 1) y) | none => .inr (.inl (((), (n : Int), ()), (m.top, ()), m.obs))) := by
  have h := ok_sm hok
  obtain ⟨h1, h2, h3, h4, h5, h6, h7⟩ := ok_parts hok
  obtain ⟨hf, hl, hc⟩ := mag_parts h1
  obtain ⟨e1, e2, _⟩ := fontOk_len hf
  have hfl := fits_len h7
  rw [List.length_map] at hfl
  have hsm : ∀ x : Int × Int, (m.f.length + [x].length) * 16 ≤ 140737488355328 ∧ (m.f.length + [x].length) ≤ 9223372036854775807 := fun x => by rw [List.length_singleton]; omega
  have hit : ∀ x : Int × Int, goodB m.s m.so x = true → impl_items m.s m.ws m.so (m.f ++ [x]) = some (((), ()), (), ((m.f ++ [x]).map (widOf m.ws), ())) := fun x hx => implItems_eq e1 (by rw [List.length_append, List.length_singleton]; omega) fun y hy => by
    rcases List.mem_append.1 hy with hy | hy
    · exact h5 y hy
    · simp at hy; subst hy; exact hx
  have hfi : ∀ x : Int × Int, impl_fits m.a m.b m.c ((m.f ++ [x]).map (widOf m.ws)) = some ((fitsB m.a m.b m.c ((m.f ++ [x]).map (widOf m.ws)), ()), (), ()) := fun x => by
    rw [fits_eq (by rw [List.length_map, List.length_append, List.length_singleton]; omega), h3, Bool.true_and]
  have hlt : (n : Int) < (text.size : Int) := by omega
  simp only [impl_KeyText_s0, Int.toNat_natCast, cloneMat_eq h.f, Option.bind_some, byte_w64]
  rw [decide_eq_true hlt, br_true, ck_pos ⟨by omega, hn⟩]
  simp only [keyStep]
  by_cases hb : (byteAt text n == 32) = true
  · rw [hb, br_true, if_pos rfl, okBand hok]
    cases he : (m.e == 0)
    · rw [br_false, both_self, ck_pos (hsm _), hit (-1, 0) rfl, Option.bind_some]
      simp only []
      rw [hfi, Option.bind_some]
      cases hfb : fitsB m.a m.b m.c ((m.f ++ [(-1, 0)]).map (widOf m.ws))
      · rfl
      · simp only [Bool.not_true, br_false, Bool.not_false, Bool.and_self, if_true]
        rw [w64_id (x := m.e - 1) (by omega) (by omega), w64_succ hn (big_len ht)]
        rfl
    · rw [br_true]; rfl
  · rw [Bool.eq_false_iff.2 hb, br_false, if_neg (by simp), ck_pos ⟨by omega, hn⟩, implKey_eq h.s, Option.bind_some, takeB_ok hok]
    rcases keyIdx_cases m.s (byteAt text n) with hk | ⟨k0, k1, k2⟩
    · rw [hk]; rfl
    · have hkd : (keyIdx m.s (byteAt text n)).toNat < m.d.length := by omega
      simp only []
      rw [decide_eq_false (by omega : ¬ keyIdx m.s (byteAt text n) < 0), br_false, ck_pos k0, ck_pos hkd, ck_pos hkd, ck_pos hkd]
      cases he : (((m.d.getD (keyIdx m.s (byteAt text n)).toNat []).length : Int) == 0)
      · have hp : 0 < (m.d.getD (keyIdx m.s (byteAt text n)).toNat []).length := by
          have := beq_eq_false_iff_ne.1 he; omega
        have hx : goodB m.s m.so (headX m.d (keyIdx m.s (byteAt text n)).toNat) = true := by
          unfold goodB
          rw [(hc _ (getD_mem (d := []) hkd)).2 _ (headX_mem hp), Bool.or_true]
        rw [okTake hok hkd hp]
        rw [br_false, ck_pos k0, ck_pos hkd, ck_pos hkd, ck_pos ⟨hkd, hp⟩, ck_pos ⟨hkd, hp⟩, both_self, ck_pos (hsm _)]
        have I := hit _ hx
        have F := hfi (headX m.d (keyIdx m.s (byteAt text n)).toNat)
        simp only [headX] at I F ⊢
        rw [I, Option.bind_some]
        simp only []
        rw [F, Option.bind_some]
        by_cases hq : fitsB m.a m.b m.c ((m.f ++ [(m.d.getD (keyIdx m.s (byteAt text n)).toNat []).getD 0 (0, 0)]).map (widOf m.ws)) = true
        rotate_left
        · simp only [Bool.eq_false_iff.2 hq]; rfl
        · simp only [hq, Bool.not_true, br_false, Bool.not_false, Bool.and_self, if_true]
          rw [ck_pos k0, ck_pos hkd, ck_pos hkd, ck_pos hkd, ck_pos ⟨hp, Nat.le_refl _⟩, ck_pos k0, ck_pos hkd, ck_pos ⟨trivial, hkd⟩, cut_one, w64_succ hn (big_len ht)]
          rfl
      · rfl
include ht in
theorem implKey_loop : ∀ (k n : Nat) (m : Mach), m.ok = true → n + k = text.size →
    (loopC impl_KeyText_s0 (keySt text zs ze za zb zc n m)).bind (fun r31 => sumK r31 (fun y34 =>
      some (((y34.2.1.1.1, (), (), (), y34.2.1.1.2.2.2.2.1, y34.2.1.1.2.2.2.2.2.1, y34.2.1.1.2.2.2.2.2.2.1, y34.2.1.1.2.2.2.2.2.2.2.1, (), (), ()), y34.1.2.1, ()), (), (y34.2.2.1, y34.2.2.2.1, y34.2.2.2.2.1, y34.2.2.2.2.2.1, y34.2.2.2.2.2.2.1, ()))) (fun y35 =>
      some (((y35.2.1.1.1, (), (), (), y35.2.1.1.2.2.2.2.1, y35.2.1.1.2.2.2.2.2.1, y35.2.1.1.2.2.2.2.2.2.1, y35.2.1.1.2.2.2.2.2.2.2.1, (), (), ()), (y35.1.1.size : Int), ()), (), (y35.2.2.1, y35.2.2.2.1, y35.2.2.2.2.1, y35.2.2.2.2.2.1, y35.2.2.2.2.2.2.1, ())))) =
      some (((keyR text k n m).1.top, (keyR text k n m).2, ()), (), (keyR text k n m).1.obs)
  | 0, n, m, hok, hn => by
    have e : n = text.size := by omega
    subst e
    rw [loop_out (z := .inr ((text, (), (), ()), (m.top, (zs, (), (), (), ze, za, zb, zc, (), (), ()), ()), m.obs))]
    · rfl
    · simp only [impl_KeyText_s0, br_ite]
      rw [if_neg (by simp)]
  | k + 1, n, m, hok, hn => by
    have hlt : n < text.size := by omega
    have S := implKey_step ht zs ze za zb zc hok hlt
    simp only [keyR]
    cases hs : keyStep m (byteAt text n) with
    | none =>
      rw [hs] at S
      rw [loop_out S]
      rfl
    | some y =>
      rw [hs] at S
      rw [loop_step S]
      exact implKey_loop k (n + 1) y (keyStep_ok hs) (by omega)
end
def keyM (m : Mach) (text : ByteArray) : Mach × Int := if m.ok = true then keyR text text.size 0 m else (Mach.no, -1)
theorem keyM_sm {m : Mach} (text : ByteArray) : (keyM m text).1.Sm := by
  unfold keyM
  split
  · rename_i h; exact ok_sm (keyR_ok text _ _ _ h)
  · exact Mach.no_sm
section
variable {m : Mach} (h : m.Sm) {text : ByteArray} (ht : text.size ≤ 1048576)
include h ht
theorem implKeyM_eq : impl_KeyText m.s m.ws m.so m.d m.e m.a m.b m.c m.f m.g text = some (((keyM m text).1.top, (keyM m text).2, ()), (), (keyM m text).1.obs) := by
  simp only [impl_KeyText, implOk_eq h, copyM_eq h, Option.bind_some, keyM]
  by_cases hm : m.ok = true
  · rw [if_pos hm, hm, Bool.not_true, br_false]
    exact implKey_loop ht ByteArray.empty 0 0 0 0 text.size 0 m hm (by omega)
  · rw [if_neg hm, Bool.eq_false_iff.2 hm]; rfl
end
end Go.Tree
namespace Go.Tree
set_option linter.unusedVariables false
set_option linter.unusedSimpArgs false
def freeOf (a b : Int) (l : List Int) : Int := a - (sumW l).1 - (sumW l).2 * b
def riseOf (a b c : Int) (l : List Int) : Int := if (sumW l).2 > 0 then (if freeOf a b l / (sumW l).2 < c - b then freeOf a b l / (sumW l).2 else c - b) else 0
def restOf (a b c : Int) (l : List Int) : Int := freeOf a b l - (sumW l).2 * riseOf a b c l
def fullB (a b c : Int) (l : List Int) : Bool := measOk a b c && (fitsB a b c l && (restOf a b c l == 0 || decide (restOf a b c l < (sumW l).2)))
structure Fit (a b c : Int) (l : List Int) : Prop where
  m : (1 ≤ a ∧ a ≤ 2000) ∧ (1 ≤ b ∧ b ≤ 100) ∧ (b ≤ c ∧ c ≤ 100)
  len : l.length ≤ 120
  el : ∀ x ∈ l, 0 ≤ x ∧ x ≤ 60
  sum : 0 ≤ (sumW l).1 ∧ (sumW l).1 ≤ 60 * l.length ∧ 0 ≤ (sumW l).2 ∧ (sumW l).2 ≤ l.length
  mul : 0 ≤ (sumW l).2 * b ∧ (sumW l).2 * b ≤ 12000
  free : 0 ≤ freeOf a b l ∧ freeOf a b l ≤ 2000
theorem fit_of {a b c : Int} {l : List Int} (hm : measOk a b c = true) (hf : fitsB a b c l = true) : Fit a b c l := by
  simp only [measOk, inB, Bool.and_eq_true, decide_eq_true_eq] at hm
  simp only [fitsB, Bool.and_eq_true, decide_eq_true_eq] at hf
  obtain ⟨h1, h2⟩ := lineOk_range hf.1
  have hs := sumW_range (by omega) h2
  have hmul := mul_range hs.2.2.1 (by omega) (y := b) (by omega) (by omega)
  exact ⟨hm, h1, h2, hs, hmul, by unfold freeOf; omega⟩
section
variable {a b c : Int} {l : List Int} (F : Fit a b c l)
include F
theorem rise_range : 0 ≤ riseOf a b c l ∧ riseOf a b c l ≤ c - b ∧ 0 ≤ (sumW l).2 * riseOf a b c l ∧ (sumW l).2 * riseOf a b c l ≤ freeOf a b l := by
  obtain ⟨⟨a1, a2⟩, ⟨b1, b2⟩, c1, c2⟩ := F.m
  obtain ⟨f1, f2⟩ := F.free
  obtain ⟨s1, s2, s3, s4⟩ := F.sum
  unfold riseOf
  by_cases hn : (sumW l).2 > 0
  · rw [if_pos hn]
    have hq : 0 ≤ freeOf a b l / (sumW l).2 := Int.ediv_nonneg f1 s3
    have hq2 : (sumW l).2 * (freeOf a b l / (sumW l).2) ≤ freeOf a b l := Int.mul_ediv_self_le (by omega)
    by_cases hc : freeOf a b l / (sumW l).2 < c - b
    · rw [if_pos hc]; exact ⟨hq, by omega, Int.mul_nonneg s3 hq, hq2⟩
    · rw [if_neg hc]
      refine ⟨by omega, by omega, Int.mul_nonneg s3 (by omega), ?_⟩
      have : (sumW l).2 * (c - b) ≤ (sumW l).2 * (freeOf a b l / (sumW l).2) := Int.mul_le_mul_of_nonneg_left (by omega) s3
      omega
  · rw [if_neg hn]; exact ⟨by omega, by omega, by simp, by simpa using f1⟩
theorem implSpread_eq : impl_spread a b c (sumW l).1 (sumW l).2 = some ((riseOf a b c l, restOf a b c l, true, ()), (), ()) := by
  obtain ⟨⟨a1, a2⟩, ⟨b1, b2⟩, c1, c2⟩ := F.m
  obtain ⟨f1, f2⟩ := F.free
  obtain ⟨s1, s2, s3, s4⟩ := F.sum
  obtain ⟨m1, m2⟩ := F.mul
  obtain ⟨r1, r2, r3, r4⟩ := rise_range F
  have hlen := F.len
  have e : w64 (w64 (a - (sumW l).1) - w64 ((sumW l).2 * b)) = freeOf a b l := by
    rw [w64_id (x := a - (sumW l).1) (by omega) (by omega), w64_id (x := (sumW l).2 * b) (by omega) (by omega)]
    exact w64_id (by unfold freeOf at f1; omega) (by unfold freeOf at f2; omega)
  simp only [impl_spread, e]
  rw [decide_eq_false (by omega), br_false]
  by_cases hn : (sumW l).2 > 0
  · have hq : 0 ≤ freeOf a b l / (sumW l).2 := Int.ediv_nonneg f1 s3
    have hq3 : freeOf a b l / (sumW l).2 ≤ freeOf a b l := Int.ediv_le_self _ f1
    have e2 : (if w64 ((freeOf a b l).tdiv (sumW l).2) < w64 (c - b) then w64 ((freeOf a b l).tdiv (sumW l).2) else w64 (c - b)) = riseOf a b c l := by
      rw [Int.tdiv_eq_ediv_of_nonneg f1, w64_id (x := freeOf a b l / (sumW l).2) (by omega) (by omega), w64_id (x := c - b) (by omega) (by omega)]
      unfold riseOf
      rw [if_pos hn]
    rw [decide_eq_true hn, br_true, ck_pos (by omega)]
    simp only [e2]
    rw [w64_id (x := (sumW l).2 * riseOf a b c l) (by omega) (by omega), w64_id (by omega) (by omega)]
    rfl
  · have hr : riseOf a b c l = 0 := by unfold riseOf; rw [if_neg hn]
    have hz : (sumW l).2 = 0 := by omega
    rw [decide_eq_false hn, br_false, hr]
    unfold restOf
    rw [hr, hz, Int.zero_mul]
    rw [show w64 0 = 0 from rfl, w64_id (by omega) (by omega)]
end
section
variable {a b c : Int} {l : List Int} (hl : l.length ≤ 1048576)
include hl
theorem implIsFull_eq : impl_IsFull a b c l = some ((fullB a b c l, ()), (), ()) := by
  simp only [impl_IsFull, impl_full, implMeasureOk_eq, lettersAndBands_eq hl, implLineOk_eq hl, Option.bind_some, fullB]
  by_cases hm : measOk a b c = true
  · by_cases hf : fitsB a b c l = true
    · have hlo : lineOk l = true := by simp only [fitsB, Bool.and_eq_true] at hf; exact hf.1
      simp only [implSpread_eq (fit_of hm hf), Option.bind_some, hm, hf, hlo, br_true, Bool.true_and]
      cases h : (restOf a b c l == 0) <;> rfl
    · rw [hm, Bool.eq_false_iff.2 hf, br_true]
      by_cases hlo : lineOk l = true
      · have hm' := hm
        simp only [measOk, inB, Bool.and_eq_true, decide_eq_true_eq] at hm'
        obtain ⟨h1, h2⟩ := lineOk_range hlo
        obtain ⟨s1, s2, s3, s4⟩ := sumW_range hl h2
        have hmul := mul_range s3 (by omega) (y := b) (by omega) (by omega)
        have hneg : a - (sumW l).1 - (sumW l).2 * b < 0 := by
          have : ¬ ((sumW l).1 + (sumW l).2 * b ≤ a) := fun h => hf (by simp only [fitsB, hlo, Bool.true_and]; exact decide_eq_true h)
          omega
        rw [hlo, br_true]
        simp only [impl_spread]
        rw [w64_id (x := a - (sumW l).1) (by omega) (by omega), w64_id (x := (sumW l).2 * b) (by omega) (by omega), w64_id (x := a - (sumW l).1 - (sumW l).2 * b) (by omega) (by omega), decide_eq_true hneg, br_true]
        rfl
      · rw [Bool.eq_false_iff.2 hlo]; rfl
  · rw [Bool.eq_false_iff.2 hm]; rfl
end
end Go.Tree
namespace Go.Tree
set_option linter.unusedVariables false
set_option linter.unusedSimpArgs false
def bandW (w0 wd : Int) (k : Nat) : Int := if (k : Int) < wd then w0 + 1 else w0
def wideL (w0 wd : Int) : Nat → List Int → List Int
  | _, [] => []
  | k, x :: t => if x = 0 then bandW w0 wd k :: wideL w0 wd (k + 1) t else x :: wideL w0 wd k t
def bandL (w0 wd : Int) : Nat → List Int → List Int
  | _, [] => []
  | k, x :: t => if x = 0 then bandW w0 wd k :: bandL w0 wd (k + 1) t else bandL w0 wd k t
def placeL : Int → List Int → List Int
  | _, [] => []
  | p, w :: t => p :: placeL (p + w) t
def widerOf (a b c : Int) (l : List Int) : Int := if fullB a b c l = true then restOf a b c l else 0
section
variable {a b c : Int} {l : List Int} (F : Fit a b c l)
include F
theorem rest_range : 0 ≤ restOf a b c l ∧ restOf a b c l ≤ 2000 := by
  obtain ⟨r1, r2, r3, r4⟩ := rise_range F
  obtain ⟨f1, f2⟩ := F.free
  unfold restOf
  omega
theorem implBand_loop {wd : Int} (h0 : 0 ≤ wd) (h1 : wd ≤ 2000) : ∀ (k i : Nat) (out : List Int), i + k = l.length → out.length ≤ i →
    loopC impl_BandWidths_s0 (((), riseOf a b c l, wd, (), l, (l.length : Int), (i : Int), ()), ((a, b, c, ()), ()), (out, ())) = some (((), ()), (), (out ++ bandL (b + riseOf a b c l) wd out.length (l.drop i), ()))
  | 0, i, out, hk, ho => by
    have e : i = l.length := by omega
    subst e
    refine loop_out ?_
    simp only [impl_BandWidths_s0, br_ite, List.drop_length, bandL, List.append_nil]
    rw [if_neg (by simp)]
  | k + 1, i, out, hk, ho => by
    have hi : i < l.length := by omega
    have hlen := F.len
    obtain ⟨⟨a1, a2⟩, ⟨b1, b2⟩, c1, c2⟩ := F.m
    obtain ⟨r1, r2, r3, r4⟩ := rise_range F
    have hlt : (i : Int) < (l.length : Int) := by omega
    have hdr : l.drop i = l[i] :: l.drop (i + 1) := List.drop_eq_getElem_cons hi
    have hge : l.getD i 0 = l[i] := getD_of_lt hi
    have hel := F.el _ (List.getElem_mem hi)
    have hsm : ∀ x : Int, (out.length + [x].length) * 8 ≤ 140737488355328 ∧ (out.length + [x].length) ≤ 9223372036854775807 := fun x => by rw [List.length_singleton]; omega
    rw [hdr]
    by_cases hx : l[i] = 0
    · have e1 : bandL (b + riseOf a b c l) wd out.length (l[i] :: l.drop (i + 1)) = bandW (b + riseOf a b c l) wd out.length :: bandL (b + riseOf a b c l) wd (out.length + 1) (l.drop (i + 1)) := by rw [bandL, if_pos hx]
      have ih := implBand_loop h0 h1 k (i + 1) (out ++ [bandW (b + riseOf a b c l) wd out.length]) (by omega) (by simp; omega)
      rw [List.length_append, List.length_singleton] at ih
      rw [e1, List.append_cons, ← ih]
      refine loop_step ?_
      simp only [impl_BandWidths_s0, Int.toNat_natCast, br_ite, hge]
      rw [if_pos (by simpa using hlt), ck_pos (by omega), ck_pos hi, if_neg (by simp [hx]), w64_id (x := b + riseOf a b c l) (by omega) (by omega), w64_succ hi (by unfold maxLen; omega)]
      unfold bandW
      by_cases hw : (out.length : Int) < wd
      · rw [if_pos (by simpa using hw), if_pos hw, ck_pos (hsm _), w64_id (x := b + riseOf a b c l + 1) (by omega) (by omega)]
      · rw [if_neg (by simpa using hw), if_neg hw, ck_pos (hsm _)]
    · have e1 : bandL (b + riseOf a b c l) wd out.length (l[i] :: l.drop (i + 1)) = bandL (b + riseOf a b c l) wd out.length (l.drop (i + 1)) := by rw [bandL, if_neg hx]
      rw [e1, ← implBand_loop h0 h1 k (i + 1) out (by omega) (by omega)]
      refine loop_step ?_
      simp only [impl_BandWidths_s0, Int.toNat_natCast, br_ite, hge]
      rw [if_pos (by simpa using hlt), ck_pos (by omega), ck_pos hi, if_pos (by simp; omega), w64_succ hi (by unfold maxLen; omega)]
theorem implPlace_loop {w0 wd : Int} (h0 : 0 ≤ w0) (h1 : w0 ≤ 100) (B0 : List Int) : ∀ (k i kk : Nat) (p : Int) (out : List Int), i + k = l.length → out.length = i → 0 ≤ p → p ≤ 101 * i →
    loopC impl_PlacesOf_s0 ((bandL w0 wd kk (l.drop i), (), p, l, (l.length : Int), (i : Int), ()), (), (B0, out, ())) = some (((), ()), (), (out ++ placeL p (wideL w0 wd kk (l.drop i)), ()))
  | 0, i, kk, p, out, hk, ho, hp, hp' => by
    have e : i = l.length := by omega
    subst e
    refine loop_out ?_
    simp only [impl_PlacesOf_s0, br_ite, List.drop_length, wideL, placeL, List.append_nil]
    rw [if_neg (by simp)]
  | k + 1, i, kk, p, out, hk, ho, hp, hp' => by
    have hi : i < l.length := by omega
    have hlen := F.len
    have hlt : (i : Int) < (l.length : Int) := by omega
    have hdr : l.drop i = l[i] :: l.drop (i + 1) := List.drop_eq_getElem_cons hi
    have hge : l.getD i 0 = l[i] := getD_of_lt hi
    have hel := F.el _ (List.getElem_mem hi)
    have hsm : (out.length + [p].length) * 8 ≤ 140737488355328 ∧ (out.length + [p].length) ≤ 9223372036854775807 := by rw [List.length_singleton]; omega
    rw [hdr]
    by_cases hx : l[i] = 0
    · have e1 : wideL w0 wd kk (l[i] :: l.drop (i + 1)) = bandW w0 wd kk :: wideL w0 wd (kk + 1) (l.drop (i + 1)) := by rw [wideL, if_pos hx]
      have e2 : bandL w0 wd kk (l[i] :: l.drop (i + 1)) = bandW w0 wd kk :: bandL w0 wd (kk + 1) (l.drop (i + 1)) := by rw [bandL, if_pos hx]
      have hb : 0 ≤ bandW w0 wd kk ∧ bandW w0 wd kk ≤ 101 := by unfold bandW; split <;> omega
      rw [e1, e2, placeL, List.append_cons, ← implPlace_loop h0 h1 B0 k (i + 1) (kk + 1) (p + bandW w0 wd kk) (out ++ [p]) (by omega) (by simp; omega) (by omega) (by omega)]
      refine loop_step ?_
      simp only [impl_PlacesOf_s0, Int.toNat_natCast, br_ite, hge]
      rw [if_pos (by simpa using hlt), ck_pos (by omega), ck_pos hi, ck_pos hsm, if_pos (by simp [hx]), ck_pos (by simp), ck_pos ⟨by simp, Nat.le_refl _⟩, w64_succ hi (by unfold maxLen; omega)]
      show some (Sum.inl ((cut (bandW w0 wd kk :: bandL w0 wd (kk + 1) (l.drop (i + 1))) 1 (bandW w0 wd kk :: bandL w0 wd (kk + 1) (l.drop (i + 1))).length, (), w64 (p + bandW w0 wd kk), l, (l.length : Int), ((i + 1 : Nat) : Int), ()), (), (B0, out ++ [p], ()))) = _
      rw [w64_id (x := p + bandW w0 wd kk) (by omega) (by omega)]
      simp [cut]
    · have e1 : wideL w0 wd kk (l[i] :: l.drop (i + 1)) = l[i] :: wideL w0 wd kk (l.drop (i + 1)) := by rw [wideL, if_neg hx]
      have e2 : bandL w0 wd kk (l[i] :: l.drop (i + 1)) = bandL w0 wd kk (l.drop (i + 1)) := by rw [bandL, if_neg hx]
      rw [e1, e2, placeL, List.append_cons, ← implPlace_loop h0 h1 B0 k (i + 1) kk (p + l[i]) (out ++ [p]) (by omega) (by simp; omega) (by omega) (by omega)]
      refine loop_step ?_
      simp only [impl_PlacesOf_s0, Int.toNat_natCast, br_ite, hge]
      rw [if_pos (by simpa using hlt), ck_pos (by omega), ck_pos hi, ck_pos hsm, if_neg (by simp [hx]), w64_succ hi (by unfold maxLen; omega), w64_id (x := p + l[i]) (by omega) (by omega)]
end
def placesA (a b c : Int) (l : List Int) : List Int := if (measOk a b c && fitsB a b c l) = true then placeL 0 (wideL (b + riseOf a b c l) (widerOf a b c l) 0 l) else []
section
variable {a b c : Int} {l : List Int} (hl : l.length ≤ 1048576)
include hl
theorem implPlaces_eq : impl_PlacesOf a b c l = some (((), ()), (), (placesA a b c l, ())) := by
  simp only [impl_PlacesOf, fits_eq hl, Option.bind_some, placesA]
  by_cases hmf : (measOk a b c && fitsB a b c l) = true
  · have hm := (Bool.and_eq_true _ _ ▸ hmf).1
    have hf := (Bool.and_eq_true _ _ ▸ hmf).2
    have F := fit_of hm hf
    obtain ⟨⟨a1, a2⟩, ⟨b1, b2⟩, c1, c2⟩ := F.m
    obtain ⟨r1, r2, r3, r4⟩ := rise_range F
    have hlo : lineOk l = true := by simp only [fitsB, Bool.and_eq_true] at hf; exact hf.1
    have B : impl_BandWidths a b c l = some (((), ()), (), (bandL (b + riseOf a b c l) (widerOf a b c l) 0 l, ())) := by
      simp only [impl_BandWidths, impl_SpreadLine, implMeasureOk_eq, implLineOk_eq hl, lettersAndBands_eq hl, hm, hlo, Bool.not_true, br_false, implSpread_eq F, implIsFull_eq hl, Option.bind_some, widerOf]
      by_cases hfu : fullB a b c l = true
      · have L := implBand_loop F (rest_range F).1 (rest_range F).2 l.length 0 [] (by omega) (Nat.le_refl _)
        simp only [Int.natCast_zero, List.drop_zero, List.nil_append, List.length_nil] at L
        rw [hfu, br_true, L, if_pos rfl]; rfl
      · have L := implBand_loop F (wd := 0) (Int.le_refl 0) (by omega) l.length 0 [] (by omega) (Nat.le_refl _)
        simp only [Int.natCast_zero, List.drop_zero, List.nil_append, List.length_nil] at L
        rw [Bool.eq_false_iff.2 hfu, br_false, L, if_neg (by simp)]; rfl
    have L := implPlace_loop F (w0 := b + riseOf a b c l) (wd := widerOf a b c l) (by omega) (by omega) (bandL (b + riseOf a b c l) (widerOf a b c l) 0 l) l.length 0 0 0 [] (by omega) rfl (Int.le_refl 0) (by omega)
    simp only [Int.natCast_zero, List.drop_zero, List.nil_append] at L
    rw [hmf, Bool.not_true, br_false, B, Option.bind_some, if_pos rfl]
    exact congrArg (fun o => Option.bind o fun r9 => some (((), ()), (), (r9.2.2.1, ()))) L
  · rw [Bool.eq_false_iff.2 hmf]; rfl
end
end Go.Tree
namespace Go.Tree
set_option linter.unusedVariables false
set_option linter.unusedSimpArgs false
def castS (p : Int × List (Int × Int)) (y : Int × Int) : Int × List (Int × Int) := if y.1 < 0 then (p.1 + 1, p.2) else (p.1, p.2 ++ [y])
def castP (m : Mach) : Int × List (Int × Int) := m.f.foldl castS (m.e, m.g)
def castM (m : Mach) : Mach := { m with e := (castP m).1, f := [], g := (castP m).2 }
theorem castS_range : ∀ (xs : List (Int × Int)) (p : Int × List (Int × Int)), p.1 ≤ (xs.foldl castS p).1 ∧ (xs.foldl castS p).1 ≤ p.1 + xs.length ∧ (xs.foldl castS p).2.length ≤ p.2.length + xs.length
  | [], p => by simp
  | x :: xs, p => by
    have ih := castS_range xs (castS p x)
    have h : p.1 ≤ (castS p x).1 ∧ (castS p x).1 ≤ p.1 + 1 ∧ (castS p x).2.length ≤ p.2.length + 1 := by
      unfold castS
      split
      · exact ⟨by omega, by omega, by simp⟩
      · exact ⟨by simp, by simp; omega, by simp⟩
    rw [List.foldl_cons, List.length_cons]
    omega
theorem castM_sm {m : Mach} (hok : m.ok = true) : (castM m).Sm := by
  have h := ok_sm hok
  obtain ⟨h1, h2, h3, h4, h5, h6, h7⟩ := ok_parts hok
  have hfl := fits_len h7
  rw [List.length_map] at hfl
  have hr := castS_range m.f (m.e, m.g)
  exact ⟨h.s, h.ws, h.so, h.d, h.d', by simp [castM], by show (castP m).2.length ≤ _; unfold castP; simp only at hr; omega⟩
section
variable {m : Mach} (hok : m.ok = true) (zs : ByteArray) (ze za zb zc : Int)
include hok
theorem implCast_loop (text : ByteArray) (pl : List Int) :
    loopC impl_CastLine_s0 (((), (), text, (), (), (m.f.length : Int), (0 : Int), ()), (m.top, (zs, (), (), (), ze, za, zb, zc, (), (), ()), ()), (pl, m.f, m.ws, m.so, m.d, m.g, ())) =
      some (((), (), text, (), ()), ((castM m).top, (zs, (), (), (), ze, za, zb, zc, (), (), ()), ()), (pl, m.ws, m.so, m.d, m.f, (castM m).g, ())) := by
  obtain ⟨h1, h2, h3, h4, h5, h6, h7⟩ := ok_parts hok
  have hfl := fits_len h7
  rw [List.length_map] at hfl
  have hg := good_kinds hok
  have L := (loop_acc (s := impl_CastLine_s0) (fun i (p : Int × List (Int × Int)) => (((), (), text, (), (), (m.f.length : Int), (i : Int), ()), ((m.s, (), (), (), p.1, m.a, m.b, m.c, (), (), ()), (zs, (), (), (), ze, za, zb, zc, (), (), ()), ()), (pl, m.f, m.ws, m.so, m.d, p.2, ()))) m.f.length
    (fun i p => castS p (m.f.getD i (0, 0))) (fun i p => 0 ≤ p.1 ∧ p.1 ≤ 60 + i ∧ p.2.length ≤ 240 + i)
    (fun p => (((), (), text, (), ()), ((m.s, (), (), (), p.1, m.a, m.b, m.c, (), (), ()), (zs, (), (), (), ze, za, zb, zc, (), (), ()), ()), (pl, m.ws, m.so, m.d, m.f, p.2, ()))) (by
    intro i p hi ⟨i1, i2, i3⟩
    have hb := (hg _ (List.mem_append_left _ (getD_mem (d := (0, 0)) hi))).1
    have hlt : (i : Int) < (m.f.length : Int) := by omega
    refine ⟨?_, ?_⟩
    · simp only [impl_CastLine_s0, Int.toNat_natCast, br_ite, isBand_eq, Option.bind_some]
      rw [if_pos (by simpa using hlt), ck_pos (by omega), ck_pos hi, ck_pos hi, w64_succ hi (by unfold maxLen; omega)]
      show (if bandB (m.f.getD i (0, 0)) = true then _ else _) = _
      rw [hb]
      unfold castS
      by_cases k : (m.f.getD i (0, 0)).1 < 0
      · rw [if_pos (by simpa using k), if_pos k, w64_id (x := p.1 + 1) (by omega) (by omega)]
      · rw [if_neg (by simpa using k), if_neg k, ck_pos (by rw [List.length_singleton]; omega)]
    · unfold castS
      split
      · exact ⟨by omega, by simp; omega, by simp; omega⟩
      · exact ⟨i1, by simp; omega, by simp; omega⟩) (by
    intro p hp
    simp only [impl_CastLine_s0, br_ite]
    rw [if_neg (by simp)]) (m.e, m.g) ⟨by omega, by simp; omega, by simp; omega⟩).1
  rw [foldl_range m.f (0, 0) castS] at L
  exact L
end
def castB (m : Mach) (ragged : Bool) : Bool := m.ok && (!((m.f.length : Int) == 0) && ((ragged || fullB m.a m.b m.c (m.f.map (widOf m.ws))) && (castM m).ok))
def castY (m : Mach) (ragged : Bool) : Mach := if castB m ragged = true then castM m else Mach.no
def castT (m : Mach) (ragged : Bool) : ByteArray := if castB m ragged = true then ofBytes (m.f.map (letOf m.s)) else ByteArray.empty
def castL (m : Mach) (ragged : Bool) : List Int := if castB m ragged = true then placesA m.a m.b m.c (m.f.map (widOf m.ws)) else []
theorem castY_f (m : Mach) (ragged : Bool) : (castY m ragged).f = [] := by unfold castY; split <;> rfl
theorem castY_sm (m : Mach) (ragged : Bool) : (castY m ragged).Sm := by
  unfold castY
  split
  · rename_i h
    simp only [castB, Bool.and_eq_true] at h
    exact castM_sm h.1
  · exact Mach.no_sm
section
variable {m : Mach} (h : m.Sm)
include h
theorem implCast_eq (r : Bool) : impl_CastLine m.s m.ws m.so m.d m.e m.a m.b m.c m.f m.g r = some (((castY m r).top, castT m r, (), castB m r, ()), (), ((castY m r).ws, (castY m r).so, (castY m r).d, (castY m r).g, castL m r, ())) := by
  simp only [impl_CastLine, implOk_eq h, copyM_eq h, Option.bind_some]
  by_cases hm : m.ok = true
  · obtain ⟨h1, h2, h3, h4, h5, h6, h7⟩ := ok_parts hm
    have hfl : (m.f.map (widOf m.ws)).length ≤ 1048576 := by rw [List.length_map]; exact h.f
    have I : impl_ItemsOf m.s m.ws m.so m.d m.e m.a m.b m.c m.f m.g = some (((), ()), (), (m.f.map (widOf m.ws), ())) := by
      rw [implItemsOf_eq h.s h.ws h.so h.d h.d' h.f h.g]
      unfold itemsOf
      rw [if_pos hm]
    have T : impl_LineText m.s m.ws m.so m.d m.e m.a m.b m.c m.f m.g = some ((ofBytes (m.f.map (letOf m.s)), ()), (), ()) := by
      rw [implLineText_eq h.s h.ws h.so h.d h.d' h.f h.g]
      unfold lineText
      rw [if_pos hm]
    have O : impl_MachineOk (castM m).s m.ws m.so m.d (castM m).e (castM m).a (castM m).b (castM m).c [] (castM m).g = some (((castM m).ok, ()), (), ()) := implOk_eq (castM_sm hm)
    have P := implPlaces_eq (a := m.a) (b := m.b) (c := m.c) hfl
    simp only [I, T, P, implIsFull_eq hfl, implCast_loop hm, Option.bind_some]
    rw [hm, Bool.not_true, br_false]
    unfold castY castT castL castB
    rw [hm, Bool.true_and]
    cases hz : ((m.f.length : Int) == 0)
    · rw [br_false, Bool.not_false, Bool.true_and]
      cases r
      · rw [Bool.not_false, br_true, Bool.false_or]
        cases hfu : fullB m.a m.b m.c (m.f.map (widOf m.ws))
        · rfl
        · simp only [Bool.not_true, br_false, Bool.true_and]
          rw [O, Option.bind_some]
          cases hco : (castM m).ok <;> rfl
      · rw [Bool.not_true, br_false, Bool.true_or, Bool.true_and, O, Option.bind_some]
        cases hco : (castM m).ok <;> rfl
    · rfl
  · unfold castY castT castL castB
    rw [Bool.eq_false_iff.2 hm]; rfl
end
end Go.Tree
namespace Go.Tree
set_option linter.unusedVariables false
set_option linter.unusedSimpArgs false
end Go.Tree
namespace Go.Tree
set_option linter.unusedVariables false
set_option linter.unusedSimpArgs false
def dropD (so : List Int) (d : List (List (Int × Int))) (x : Int × Int) : List (List (Int × Int)) := d.set (fallN so x.2) (d.getD (fallN so x.2) [] ++ [x])
def dropB (s : ByteArray) (ws so : List Int) (d : List (List (Int × Int))) (x : Int × Int) : Bool := magOk s ws so d && (ofFont s so x && !(((d.getD (fallN so x.2) []).length : Int) == 20))
theorem fall_in {s : ByteArray} {so : List Int} {x : Int × Int} (ho : so.length = s.size) (h : ofFont s so x = true) : fallN so x.2 < so.length := by
  simp only [ofFont, Bool.and_eq_true, decide_eq_true_eq] at h
  unfold fallN
  rw [List.findIdx_lt_length]
  exact ⟨so.getD x.1.toNat 0, getD_mem (by omega), h.2.2⟩
theorem dropB_parts {s : ByteArray} {ws so : List Int} {d : List (List (Int × Int))} {x : Int × Int} (h : dropB s ws so d x = true) : magOk s ws so d = true ∧ ofFont s so x = true ∧ fallN so x.2 < d.length ∧ (d.getD (fallN so x.2) []).length < 20 := by
  simp only [dropB, Bool.and_eq_true, Bool.not_eq_true', beq_eq_false_iff_ne, ne_eq] at h
  obtain ⟨h1, h2, h3⟩ := h
  obtain ⟨hf, hl, hc⟩ := mag_parts h1
  have hi : fallN so x.2 < d.length := by rw [hl, ← (fontOk_len hf).2.1]; exact fall_in (fontOk_len hf).2.1 h2
  have := (hc _ (getD_mem (d := []) hi)).1
  exact ⟨h1, h2, hi, by omega⟩
section
variable {s : ByteArray} {ws so : List Int} {d : List (List (Int × Int))} (hs : s.size ≤ 1048576) (hw : ws.length ≤ 1048576) (ho : so.length ≤ 1048576) (hd : d.length ≤ 1048576) (hd' : ∀ c ∈ d, c.length ≤ 1048576)
include hd hd' in
theorem dropD_small (x : Int × Int) (h : dropB s ws so d x = true) : (dropD so d x).length ≤ 1048576 ∧ ∀ c ∈ dropD so d x, c.length ≤ 1048576 := by
  obtain ⟨_, _, h3, h4⟩ := dropB_parts h
  unfold dropD
  refine ⟨by rw [List.length_set]; exact hd, fun c hc => ?_⟩
  rcases List.mem_or_eq_of_mem_set hc with hc | hc
  · exact hd' c hc
  · rw [hc, List.length_append, List.length_singleton]; omega
include hs hw ho hd hd'
theorem implDrop_eq (a b : Int) : impl_DropMatrix s ws so d a b = some (((), (if dropB s ws so d (a, b) = true then (fallN so b : Int) else 0), dropB s ws so d (a, b), ()), (), (if dropB s ws so d (a, b) = true then dropD so d (a, b) else [], ())) := by
  simp only [impl_DropMatrix, implMagazineOk_eq hs hw ho hd hd', Option.bind_some]
  by_cases h1 : magOk s ws so d = true
  · obtain ⟨hf, hl, hc⟩ := mag_parts h1
    have h1' := (fontOk_len hf).2.1
    simp only [ofFont_eq h1', Option.bind_some]
    by_cases h2 : ofFont s so (a, b) = true
    · have hi : fallN so b < d.length := by rw [hl, ← h1']; exact fall_in (x := (a, b)) h1' h2
      have hlen := (hc _ (getD_mem (d := []) hi)).1
      have hB : dropB s ws so d (a, b) = !(((d.getD (fallN so b) []).length : Int) == 20) := by simp only [dropB, h1, h2, Bool.true_and]
      have hD : dropD so d (a, b) = d.set (fallN so b) (d.getD (fallN so b) [] ++ [(a, b)]) := rfl
      rw [hB, hD]
      simp only [h1, h2, Bool.not_true, br_false, fall_eq ho, Option.bind_some, Int.toNat_natCast, copyMag_eq hd hd']
      have h0 : (0 : Int) ≤ (fallN so b : Int) := by omega
      have hs : ((d.getD (fallN so b) []).length + [(a, b)].length) * 16 ≤ 140737488355328 ∧ ((d.getD (fallN so b) []).length + [(a, b)].length) ≤ 9223372036854775807 := by rw [List.length_singleton]; omega
      generalize fallN so b = i at hi hlen h0 hs ⊢
      rw [ck_pos h0, ck_pos hi]
      cases h3 : (((d.getD i []).length : Int) == 20)
      · rw [br_false, ck_pos h0, ck_pos hi, ck_pos hi, ck_pos hi, ck_pos hi, ck_pos hs, ck_pos h0, ck_pos hi, ck_pos ⟨trivial, hi⟩]
        rfl
      · rw [br_true]; rfl
    · simp only [dropB, h1, Bool.eq_false_iff.2 h2, Bool.not_true, Bool.not_false, br_true, br_false, Bool.true_and, Bool.false_and, Bool.and_false, Bool.false_eq_true, if_false]
  · simp only [dropB, Bool.eq_false_iff.2 h1, Bool.not_true, Bool.not_false, br_true, br_false, Bool.true_and, Bool.false_and, Bool.and_false, Bool.false_eq_true, if_false]
end
/-- drops from the front, at most so many -/
def dropR (s : ByteArray) (ws so : List Int) (most : Int) : Int → List (List (Int × Int)) → List (Int × Int) → List (List (Int × Int)) × List (Int × Int) × Int
  | n, d, [] => (d, [], n)
  | n, d, x :: g => if n < most ∧ dropB s ws so d x = true then dropR s ws so most (n + 1) (dropD so d x) g else (d, x :: g, n)
section
variable {s : ByteArray} {ws so : List Int} (hs : s.size ≤ 1048576) (hw : ws.length ≤ 1048576) (ho : so.length ≤ 1048576) {most : Int} {e a b c : Int} {f : List (Int × Int)}
theorem dropR_small : ∀ (g : List (Int × Int)) (n : Int) (d : List (List (Int × Int))), d.length ≤ 1048576 → (∀ c ∈ d, c.length ≤ 1048576) →
    (dropR s ws so most n d g).1.length ≤ 1048576 ∧ (∀ c ∈ (dropR s ws so most n d g).1, c.length ≤ 1048576) ∧ (dropR s ws so most n d g).2.1.length ≤ g.length
  | [], n, d, hd, hd' => ⟨hd, hd', by simp [dropR]⟩
  | x :: g, n, d, hd, hd' => by
    unfold dropR
    split
    · rename_i h
      obtain ⟨k1, k2⟩ := dropD_small hd hd' x h.2
      obtain ⟨q1, q2, q3⟩ := dropR_small g (n + 1) _ k1 k2
      exact ⟨q1, q2, by simp only [List.length_cons]; omega⟩
    · exact ⟨hd, hd', Nat.le_refl _⟩
theorem cut_tail {α : Type} (x : α) (g : List α) : cut (x :: g) 1 (x :: g).length = g := by simp [cut]
include hs hw ho
theorem implDrop_loop (zs : ByteArray) (ze za zb zc : Int) : ∀ (g : List (Int × Int)) (n : Nat) (d : List (List (Int × Int))), d.length ≤ 1048576 → (∀ c ∈ d, c.length ≤ 1048576) → n + g.length ≤ 1048576 →
    loopC impl_DropWaiting_s0 ((most, (), (), (n : Int), ()), ((s, (), (), (), e, a, b, c, (), (), ()), (zs, (), (), (), ze, za, zb, zc, (), (), ()), ()), (ws, so, d, f, g, ())) =
      some (((), (), (dropR s ws so most n d g).2.2, ()), ((s, (), (), (), e, a, b, c, (), (), ()), (zs, (), (), (), ze, za, zb, zc, (), (), ()), ()), (ws, so, (dropR s ws so most n d g).1, f, (dropR s ws so most n d g).2.1, ()))
  | [], n, d, hd, hd', hn => by
    refine loop_out ?_
    simp only [impl_DropWaiting_s0, br_ite, dropR]
    split
    · rw [if_neg (by simp)]
    · rfl
  | x :: g, n, d, hd, hd', hn => by
    have I := implDrop_eq hs hw ho hd hd' x.1 x.2
    by_cases h : (n : Int) < most
    · by_cases hb : dropB s ws so d x = true
      · obtain ⟨k1, k2⟩ := dropD_small hd hd' x hb
        have e1 : dropR s ws so most n d (x :: g) = dropR s ws so most ((n + 1 : Nat) : Int) (dropD so d x) g := by
          rw [dropR, if_pos ⟨h, hb⟩]; rfl
        rw [e1, ← implDrop_loop zs ze za zb zc g (n + 1) _ k1 k2 (by simp at hn; omega)]
        refine loop_step ?_
        simp only [impl_DropWaiting_s0, br_ite, List.getD_cons_zero, I, Option.bind_some, hb, cut_tail]
        rw [if_pos (by simpa using h), if_pos (by simp), ck_pos (by simp), ck_pos (by simp), if_neg (by simp), ck_pos (by simp), w64_id (by simp at hn; omega) (by simp at hn; omega)]
        rfl
      · have e1 : dropR s ws so most n d (x :: g) = (d, x :: g, (n : Int)) := by rw [dropR, if_neg (fun h => hb h.2)]
        rw [e1]
        refine loop_out ?_
        simp only [impl_DropWaiting_s0, br_ite, List.getD_cons_zero, I, Option.bind_some, Bool.eq_false_iff.2 hb]
        rw [if_pos (by simpa using h), if_pos (by simp), ck_pos (by simp), ck_pos (by simp), if_pos (by simp)]
    · have e1 : dropR s ws so most n d (x :: g) = (d, x :: g, (n : Int)) := by rw [dropR, if_neg (fun h' => h h'.1)]
      rw [e1]
      refine loop_out ?_
      simp only [impl_DropWaiting_s0, br_ite]
      rw [if_neg (by simpa using h)]
end
def dropM (m : Mach) (most : Int) : Mach × Int := if (m.ok && !decide (most < 0)) = true then ({ m with d := (dropR m.s m.ws m.so most 0 m.d m.g).1, g := (dropR m.s m.ws m.so most 0 m.d m.g).2.1 }, (dropR m.s m.ws m.so most 0 m.d m.g).2.2) else (Mach.no, -1)
theorem dropM_sm {m : Mach} (h : m.Sm) (most : Int) : (dropM m most).1.Sm := by
  unfold dropM
  split
  · obtain ⟨q1, q2, q3⟩ := dropR_small (s := m.s) (ws := m.ws) (so := m.so) (most := most) m.g 0 m.d h.d h.d'
    exact ⟨h.s, h.ws, h.so, q1, q2, h.f, Nat.le_trans q3 h.g⟩
  · exact Mach.no_sm
theorem implDropM_eq {m : Mach} (h : m.Sm) (most : Int) : impl_DropWaiting m.s m.ws m.so m.d m.e m.a m.b m.c m.f m.g most = some (((dropM m most).1.top, (dropM m most).2, ()), (), (dropM m most).1.obs) := by
  simp only [impl_DropWaiting, implOk_eq h, copyM_eq h, Option.bind_some, dropM]
  cases hm : m.ok
  · rfl
  · by_cases k : most < 0
    · rw [decide_eq_true k]; rfl
    · rw [decide_eq_false k, Bool.not_true, br_false, br_false]
      have L := implDrop_loop h.s h.ws h.so (most := most) (e := m.e) (a := m.a) (b := m.b) (c := m.c) (f := m.f) ByteArray.empty 0 0 0 0 m.g 0 m.d h.d h.d' (by have := h.g; omega)
      simp only [Int.natCast_zero] at L
      rw [L]
      rfl
section
variable {s : ByteArray} {ws so : List Int} (hs : s.size ≤ 1048576) (hw : ws.length ≤ 1048576) (ho : so.length ≤ 1048576) {most : Int} {e a b c : Int} {f : List (Int × Int)}
include hs hw ho
end
end Go.Tree
namespace Go.Tree
set_option linter.unusedVariables false
set_option linter.unusedSimpArgs false
theorem keyR_le (text : ByteArray) : ∀ (k n : Nat) (m : Mach), n + k = text.size → (keyR text k n m).2 ≤ text.size
  | 0, n, m, h => by simp only [keyR]; omega
  | k + 1, n, m, h => by
    simp only [keyR]
    cases hs : keyStep m (byteAt text n) with
    | none => simp only; omega
    | some y => exact keyR_le text k (n + 1) y (by omega)
theorem keyM_le (m : Mach) (text : ByteArray) : (keyM m text).2 ≤ text.size := by
  unfold keyM
  split
  · exact keyR_le text _ _ _ (by omega)
  · show (-1 : Int) ≤ _; omega
/-- one line is keyed, cast and dropped -/
def setStep (m : Mach) (x : ByteArray) : Option (Mach × ByteArray) :=
  if (keyM m x).2 < x.size then none
  else if castB (keyM m x).1 true = true then some ((dropM (castY (keyM m x).1 true) 240).1, castT (keyM m x).1 true) else none
def setR : List ByteArray → Mach → List ByteArray → Option (Mach × List ByteArray)
  | [], m, out => some (m, out)
  | x :: l, m, out => match setStep m x with
    | some p => setR l p.1 (out ++ [p.2])
    | none => none
theorem setR_small : ∀ (l : List ByteArray) (m : Mach) (out : List ByteArray) (y : Mach) (t : List ByteArray), m.Sm → setR l m out = some (y, t) → y.Sm ∧ t.length = out.length + l.length
  | [], m, out, y, t, h, e => by cases e; exact ⟨h, by simp⟩
  | x :: l, m, out, y, t, h, e => by
    simp only [setR] at e
    split at e
    · rename_i p hp
      have hs : p.1.Sm := by
        unfold setStep at hp
        split at hp
        · cases hp
        · split at hp
          · cases hp; exact dropM_sm (castY_sm _ _) _
          · cases hp
      obtain ⟨k1, k2⟩ := setR_small l p.1 _ y t hs e
      exact ⟨k1, by rw [k2]; simp; omega⟩
    · cases e
section
variable {lines : List ByteArray} (hl : lines.length ≤ 1048576) (hx : ∀ x ∈ lines, x.size ≤ 1048576) (zs : ByteArray) (ze za zb zc : Int)
include hl hx
theorem implSet_loop : ∀ (k i : Nat) (m : Mach) (out : List ByteArray), m.Sm → i + k = lines.length → out.length = i →
    (loopC impl_SetLines_s0 (((), (), (), lines, (lines.length : Int), (i : Int), ()), (m.top, (zs, (), (), (), ze, za, zb, zc, (), (), ()), ()), (out, m.ws, m.so, m.d, m.f, m.g, ()))).bind (fun r11 =>
      sumK r11 (fun y14 =>
      some (((y14.2.1.1.1, (), (), (), y14.2.1.1.2.2.2.2.1, y14.2.1.1.2.2.2.2.2.1, y14.2.1.1.2.2.2.2.2.2.1, y14.2.1.1.2.2.2.2.2.2.2.1, (), (), ()), (), y14.1.2.2.1, ()), (), ([], [], [], [], [], [], ()))) (fun y15 =>
      some (((y15.2.1.1.1, (), (), (), y15.2.1.1.2.2.2.2.1, y15.2.1.1.2.2.2.2.2.1, y15.2.1.1.2.2.2.2.2.2.1, y15.2.1.1.2.2.2.2.2.2.2.1, (), (), ()), (), true, ()), (), (y15.2.2.2.1, y15.2.2.2.2.1, y15.2.2.2.2.2.1, y15.2.2.2.2.2.2.1, y15.2.2.2.2.2.2.2.1, y15.2.2.1, ())))) =
    some (match setR (lines.drop i) m out with
      | some (y, t) => ((y.top, (), true, ()), (), (y.ws, y.so, y.d, y.f, y.g, t, ()))
      | none => ((Mach.no.top, (), false, ()), (), ([], [], [], [], [], [], ())))
  | 0, i, m, out, h, hk, ho => by
    have e : i = lines.length := by omega
    subst e
    rw [loop_out (z := .inr (((), (), (), ()), (m.top, (zs, (), (), (), ze, za, zb, zc, (), (), ()), ()), (out, m.ws, m.so, m.d, m.f, m.g, ())))]
    · rw [List.drop_length]; rfl
    · simp only [impl_SetLines_s0, br_ite]
      rw [if_neg (by simp)]
  | k + 1, i, m, out, h, hk, ho => by
    have hi : i < lines.length := by omega
    have hlt : (i : Int) < (lines.length : Int) := by omega
    have hdr : lines.drop i = lines[i] :: lines.drop (i + 1) := List.drop_eq_getElem_cons hi
    have hge : lines.getD i ByteArray.empty = lines[i] := getD_of_lt hi
    have hsz := hx _ (List.getElem_mem hi)
    have hsm : ∀ x : ByteArray, (out.length + [x].length) * 16 ≤ 140737488355328 ∧ (out.length + [x].length) ≤ 9223372036854775807 := fun x => by rw [List.length_singleton]; omega
    have I1 := implKeyM_eq h hsz
    have s1 := keyM_sm (m := m) lines[i]
    have I2 := implCast_eq s1 true
    have s2 := castY_sm (keyM m lines[i]).1 true
    have I3 := implDropM_eq s2 240
    rw [castY_f] at I3
    have hle := keyM_le m lines[i]
    rw [hdr]
    simp only [setR, setStep]
    by_cases hn : (keyM m lines[i]).2 < lines[i].size
    · rw [if_pos hn, loop_out (z := .inl (((), (), false, ()), (Mach.no.top, ()), ()))]
      · rfl
      · simp only [impl_SetLines_s0, br_ite, Int.toNat_natCast, hge, I1, Option.bind_some]
        rw [if_pos (by simpa using hlt), ck_pos (by omega), ck_pos hi, if_pos (by simp; omega)]
        rfl
    · rw [if_neg hn]
      by_cases hb : castB (keyM m lines[i]).1 true = true
      · rw [if_pos hb]
        have ih := implSet_loop k (i + 1) (dropM (castY (keyM m lines[i]).1 true) 240).1 (out ++ [castT (keyM m lines[i]).1 true]) (dropM_sm s2 _) (by omega) (by simp; omega)
        simp only []
        rw [← ih, loop_step]
        simp only [impl_SetLines_s0, br_ite, Int.toNat_natCast, hge, I1, I2, I3, Option.bind_some, hb]
        rw [if_pos (by simpa using hlt), ck_pos (by omega), ck_pos hi, if_neg (by simp; omega), if_neg (by simp), ck_pos (hsm _), w64_succ hi (by unfold maxLen; omega)]
      · rw [if_neg hb, loop_out (z := .inl (((), (), false, ()), (Mach.no.top, ()), ()))]
        · rfl
        · simp only [impl_SetLines_s0, br_ite, Int.toNat_natCast, hge, I1, I2, Option.bind_some, Bool.eq_false_iff.2 hb]
          rw [if_pos (by simpa using hlt), ck_pos (by omega), ck_pos hi, if_neg (by simp; omega), if_pos (by simp)]
          rfl
end
def setQ (m : Mach) (lines : List ByteArray) : Option (Mach × List ByteArray) := if m.ok = true then setR lines m [] else none
def setY (m : Mach) (lines : List ByteArray) : Mach := match setQ m lines with | some p => p.1 | none => Mach.no
def setT (m : Mach) (lines : List ByteArray) : List ByteArray := match setQ m lines with | some p => p.2 | none => []
def setB2 (m : Mach) (lines : List ByteArray) : Bool := (setQ m lines).isSome
theorem setY_sm {m : Mach} (h : m.Sm) {lines : List ByteArray} : (setY m lines).Sm ∧ (setT m lines).length ≤ lines.length := by
  unfold setY setT
  cases hq : setQ m lines with
  | none => exact ⟨Mach.no_sm, by simp⟩
  | some p =>
    unfold setQ at hq
    split at hq
    · obtain ⟨k1, k2⟩ := setR_small lines m [] p.1 p.2 h hq
      exact ⟨k1, by simp at k2; simp only; omega⟩
    · cases hq
section
variable {m : Mach} (h : m.Sm) {lines : List ByteArray} (hl : lines.length ≤ 1048576) (hx : ∀ x ∈ lines, x.size ≤ 1048576)
include h hl hx
theorem implSet_eq : impl_SetLines m.s m.ws m.so m.d m.e m.a m.b m.c m.f m.g lines = some (((setY m lines).top, (), setB2 m lines, ()), (), ((setY m lines).ws, (setY m lines).so, (setY m lines).d, (setY m lines).f, (setY m lines).g, setT m lines, ())) := by
  simp only [impl_SetLines, implOk_eq h, copyM_eq h, Option.bind_some]
  unfold setY setT setB2 setQ
  by_cases hm : m.ok = true
  · have L := implSet_loop hl hx ByteArray.empty 0 0 0 0 lines.length 0 m [] h (by omega) rfl
    simp only [Int.natCast_zero, List.drop_zero] at L
    simp only [if_pos hm]
    rw [hm, Bool.not_true, br_false]
    refine L.trans ?_
    cases setR lines m [] <;> rfl
  · simp only [if_neg hm]
    rw [Bool.eq_false_iff.2 hm]; rfl
end
end Go.Tree
namespace Go.Tree
open Go
set_option linter.unusedVariables false
set_option linter.unusedSimpArgs false
def CurOk (h : List Int) (p : Int) : Prop := h.length ≤ 1048576 ∧ 0 ≤ p ∧ p ≤ h.length
theorem bAnd_255 (x : Int) : 0 ≤ bAnd .i64 x 255 ∧ bAnd .i64 x 255 ≤ 255 := by
  have h : (BitVec.ofInt 64 x &&& BitVec.ofInt 64 255).toNat ≤ 255 := by
    rw [BitVec.toNat_and]
    exact Nat.le_trans Nat.and_le_right (by decide)
  have e : bAnd .i64 x 255 = w64 (((BitVec.ofInt 64 x &&& BitVec.ofInt 64 255).toNat : Nat) : Int) := rfl
  rw [e, w64_id (by omega) (by omega)]
  omega
theorem byte_ex {h : List Int} {p : Int} (c : CurOk h p) (s : Int) : ∃ v p' s', spec_l01Byte h p s = some ((v, (), ()), ((h, p', s', ()), ()), ()) ∧ 0 ≤ v ∧ v ≤ 255 ∧ CurOk h p' := by
  obtain ⟨c1, c2, c3⟩ := c
  simp only [spec_l01Byte]
  by_cases hp : p < (h.length : Int)
  · rw [decide_eq_true hp, br_true, ck_pos c2, ck_pos (by omega)]
    exact ⟨_, _, _, rfl, (bAnd_255 _).1, (bAnd_255 _).2, c1, by rw [w64_id (by omega) (by omega)]; omega, by rw [w64_id (by omega) (by omega)]; omega⟩
  · rw [decide_eq_false hp, br_false]
    exact ⟨_, _, _, rfl, (bAnd_255 _).1, (bAnd_255 _).2, c1, c2, c3⟩
theorem tmod_pos {x n : Int} (h0 : 0 ≤ x) (hn : 0 < n) : 0 ≤ x.tmod n ∧ x.tmod n < n := ⟨Int.tmod_nonneg _ h0, Int.tmod_lt_of_pos _ hn⟩
theorem below_ex {h : List Int} {p : Int} (c : CurOk h p) (s n : Int) : ∃ v p' s', spec_l01Below n h p s = some ((v, (), ()), ((h, p', s', ()), ()), ()) ∧ CurOk h p' ∧ 0 ≤ v ∧ (0 < n → v < n) ∧ (n ≤ 0 → v = 0) := by
  simp only [spec_l01Below]
  by_cases h0 : n ≤ 0
  · rw [decide_eq_true h0, br_true]
    exact ⟨_, _, _, rfl, c, Int.le_refl _, fun h => by omega, fun _ => rfl⟩
  · rw [decide_eq_false h0, br_false]
    by_cases h1 : n ≤ 256
    · rw [decide_eq_true h1, br_true]
      obtain ⟨v, p', s', e, v0, v1, c'⟩ := byte_ex c s
      rw [e, Option.bind_some, ck_pos (by omega)]
      obtain ⟨m0, m1⟩ := tmod_pos v0 (show 0 < n by omega)
      exact ⟨_, _, _, rfl, c', m0, fun _ => m1, fun h => by omega⟩
    · rw [decide_eq_false h1, br_false]
      obtain ⟨v1, p1, s1, e1, a1, b1, c1⟩ := byte_ex c s
      rw [e1, Option.bind_some]
      obtain ⟨v2, p2, s2, e2, a2, b2, c2⟩ := byte_ex c1 s1
      simp only [e2, Option.bind_some]
      obtain ⟨v3, p3, s3, e3, a3, b3, c3⟩ := byte_ex c2 s2
      simp only [e3, Option.bind_some]
      obtain ⟨v4, p4, s4, e4, a4, b4, c4⟩ := byte_ex c3 s3
      simp only [e4, Option.bind_some]
      rw [ck_pos (by omega), w64_id (x := v1 * 16777216) (by omega) (by omega), w64_id (x := v2 * 65536) (by omega) (by omega), w64_id (x := v1 * 16777216 + v2 * 65536) (by omega) (by omega), w64_id (x := v3 * 256) (by omega) (by omega),
        w64_id (x := v1 * 16777216 + v2 * 65536 + v3 * 256) (by omega) (by omega), w64_id (x := v1 * 16777216 + v2 * 65536 + v3 * 256 + v4) (by omega) (by omega)]
      obtain ⟨m0, m1⟩ := tmod_pos (show 0 ≤ v1 * 16777216 + v2 * 65536 + v3 * 256 + v4 by omega) (show 0 < n by omega)
      exact ⟨_, _, _, rfl, c4, m0, fun _ => m1, fun h => by omega⟩
theorem new_ex {code : List Int} (hl : code.length ≤ 1048576) : ∃ s, spec_l01New code = some (((), ()), ((code, 0, s, ()), ()), ()) ∧ CurOk code 0 := by
  obtain ⟨z, hz, hs, rfl⟩ := loopC_rule (step := spec_l01New_s0) (fun x => ∃ (c : Int) (i : Nat), x = ((code, c, (i : Int), ()), (), ()) ∧ i ≤ code.length) (fun x => code.length - x.1.2.2.1.toNat) (fun z => ∃ s, z = ((code, s, ()), (), ())) (by
    rintro _ ⟨c, i, rfl, hi⟩
    simp only [spec_l01New_s0, Int.toNat_natCast]
    by_cases h1 : i < code.length
    · rw [decide_eq_true (by omega), br_true]
      by_cases h2 : (i : Int) < 4000
      · rw [decide_eq_true h2, br_true, ck_pos (by omega), ck_pos h1, w64_succ h1 (by unfold maxLen; omega)]
        exact .inl ⟨_, rfl, ⟨_, i + 1, rfl, by omega⟩, by simp only [Int.toNat_natCast]; omega⟩
      · rw [decide_eq_false h2, br_false]
        exact .inr ⟨_, rfl, _, rfl⟩
    · rw [decide_eq_false (by omega), br_false]
      exact .inr ⟨_, rfl, _, rfl⟩) code.length ((code, w64 (3230 + (code.length : Int)), (0 : Int), ()), (), ()) (by simp) ⟨_, 0, rfl, by omega⟩
  refine ⟨hs, ?_, hl, Int.le_refl _, by omega⟩
  simp only [spec_l01New, hz, Option.bind_some]
theorem pick_ex {h : List Int} {p : Int} (c : CurOk h p) (s : Int) {l : List ByteArray} (h1 : 1 ≤ l.length) : ∃ v p' s', spec_l01Pick l h p s = some ((v, (), ()), ((h, p', s', ()), ()), ()) ∧ CurOk h p' ∧ v ∈ l := by
  obtain ⟨v, p', s', e, c', v0, v1, _⟩ := below_ex c s (l.length : Int)
  simp only [spec_l01Pick, e, Option.bind_some]
  have hlt : v.toNat < l.length := by have := v1 (by omega); omega
  rw [ck_pos v0, ck_pos hlt]
  refine ⟨_, _, _, rfl, c', ?_⟩
  rw [List.getD_eq_getElem?_getD, List.getElem?_eq_getElem hlt]
  exact List.getElem_mem hlt
theorem once_ex {h : List Int} {p : Int} (c : CurOk h p) (s n : Int) : ∃ v p' s', spec_l01Once n h p s = some ((v, (), ()), ((h, p', s', ()), ()), ()) ∧ CurOk h p' := by
  obtain ⟨v, p', s', e, c', _⟩ := below_ex c s n
  exact ⟨v == 0, p', s', by simp only [spec_l01Once, e, Option.bind_some], c'⟩
end Go.Tree
namespace Go.Tree
set_option linter.unusedVariables false
set_option linter.unusedSimpArgs false
theorem int_ex {h : List Int} {p : Int} (c : CurOk h p) (s : Int) {l : List Int} (h1 : 1 ≤ l.length) : ∃ v p' s', spec_l01Int l h p s = some ((v, (), ()), ((h, p', s', ()), ()), ()) ∧ CurOk h p' := by
  obtain ⟨v, p', s', e, c', v0, v1, _⟩ := below_ex c s (l.length : Int)
  have hlt : v.toNat < l.length := by have := v1 (by omega); omega
  refine ⟨l.getD v.toNat 0, p', s', ?_, c'⟩
  simp only [spec_l01Int, e, Option.bind_some]
  rw [ck_pos v0, ck_pos hlt]
theorem l3Measure_ex {h : List Int} {p : Int} (c : CurOk h p) (s : Int) : ∃ x y z p' s', spec_l3Measure h p s = some (((x, y, z, ()), (), ()), ((h, p', s', ()), ()), ()) ∧ CurOk h p' := by
  obtain ⟨v1, p1, s1, e1, c1, _⟩ := below_ex c s 200
  obtain ⟨v2, p2, s2, e2, c2, _⟩ := below_ex c1 s1 6
  obtain ⟨v3, p3, s3, e3, c3, _⟩ := below_ex c2 s2 12
  exact ⟨_, _, _, _, _, by simp only [spec_l3Measure, e1, e2, e3, Option.bind_some]; rfl, c3⟩
end Go.Tree
namespace Go.Tree
set_option linter.unusedVariables false
set_option linter.unusedSimpArgs false
theorem andNot_le {a b : Int} (a0 : 0 ≤ a) (a1 : a ≤ 127) (b0 : 0 ≤ b) (b1 : b ≤ 127) (h : bAndNot .i64 a b = 0) : a ≤ b := by
  obtain ⟨x, rfl⟩ := Int.eq_ofNat_of_zero_le a0
  obtain ⟨y, rfl⟩ := Int.eq_ofNat_of_zero_le b0
  have e : bAndNot .i64 (x : Int) (y : Int) = IntKind.i64.wrap (((BitVec.ofInt 64 (x : Int) &&& ~~~BitVec.ofInt 64 (y : Int)).toNat : Nat) : Int) := rfl
  rw [e, Go.IntKind.wrap_i64] at h
  have hlt := (BitVec.ofInt 64 (x : Int) &&& ~~~BitVec.ofInt 64 (y : Int)).isLt
  have hz : BitVec.ofInt 64 (x : Int) &&& ~~~BitVec.ofInt 64 (y : Int) = 0#64 := by
    apply BitVec.eq_of_toNat_eq
    rw [BitVec.toNat_ofNat]
    omega
  have hx : BitVec.ofInt 64 (x : Int) = BitVec.ofInt 64 (x : Int) &&& BitVec.ofInt 64 (y : Int) := by
    apply BitVec.eq_of_getLsbD_eq
    intro i hi
    have := congrArg (fun v => v.getLsbD i) hz
    simp only [BitVec.getLsbD_and, BitVec.getLsbD_not, decide_eq_true hi, Bool.true_and, BitVec.getLsbD_zero] at this
    rw [BitVec.getLsbD_and]
    cases h1 : (BitVec.ofInt 64 (x : Int)).getLsbD i <;> cases h2 : (BitVec.ofInt 64 (y : Int)).getLsbD i <;> simp_all
  have ht := congrArg BitVec.toNat hx
  rw [BitVec.toNat_and, BitVec.ofInt_natCast, BitVec.ofInt_natCast, BitVec.toNat_ofNat, BitVec.toNat_ofNat, Nat.mod_eq_of_lt (show x < 2 ^ 64 by omega), Nat.mod_eq_of_lt (show y < 2 ^ 64 by omega)] at ht
  have : x &&& y ≤ y := Nat.and_le_right
  omega
/-- What the sets of a bar are like: sets of teeth, each one once, not too many. -/
def SetsOk (S : List Int) : Prop := (∀ j : Nat, j < S.length → 0 ≤ S.getD j 0 ∧ S.getD j 0 ≤ 127) ∧ (∀ i j : Nat, i < j → j < S.length → S.getD j 0 ≠ S.getD i 0) ∧ S.length ≤ 40
theorem cut_getD (S : List Int) (i j : Nat) (h : j < i) : (cut S 0 i).getD j 0 = S.getD j 0 := by
  show ((S.take i).drop 0).getD j 0 = _
  rw [List.drop_zero, List.getD_eq_getElem?_getD, List.getElem?_take, if_pos h, ← List.getD_eq_getElem?_getD]
theorem sets_in {S : List Int} (hl : S.length ≤ 1048576) {i : Nat} (hi : i < S.length) : ∃ z, loopC spec_l1Sets_s2 ((S, S.getD i 0, S, (S.length : Int), (i : Int), cut S 0 i, ((cut S 0 i).length : Int), (0 : Int), ()), (), ()) = some z ∧
    ((z = .inl ((false, ()), (), ()) ∧ ∃ q, q < i ∧ S.getD i 0 = S.getD q 0) ∨ (z = .inr ((S, S, (S.length : Int), (i : Int), ()), (), ()) ∧ ∀ q, q < i → S.getD i 0 ≠ S.getD q 0)) := by
  have hc : (cut S 0 i).length = i := by rw [cut_len (by omega) (by omega)]; omega
  exact loopC_rule (step := spec_l1Sets_s2) (fun x => ∃ j : Nat, x = ((S, S.getD i 0, S, (S.length : Int), (i : Int), cut S 0 i, ((cut S 0 i).length : Int), (j : Int), ()), (), ()) ∧ j ≤ i ∧ ∀ q, q < j → S.getD i 0 ≠ S.getD q 0)
    (fun x => i - x.1.2.2.2.2.2.2.2.1.toNat) (fun z => (z = .inl ((false, ()), (), ()) ∧ ∃ q, q < i ∧ S.getD i 0 = S.getD q 0) ∨ (z = .inr ((S, S, (S.length : Int), (i : Int), ()), (), ()) ∧ ∀ q, q < i → S.getD i 0 ≠ S.getD q 0)) (by
    rintro _ ⟨j, rfl, hj, hq⟩
    simp only [spec_l1Sets_s2, Int.toNat_natCast, hc]
    by_cases h1 : j < i
    · rw [decide_eq_true (by omega), br_true, ck_pos (by omega), ck_pos h1, cut_getD S i j h1]
      by_cases h2 : S.getD i 0 = S.getD j 0
      · rw [beq_iff_eq.2 h2, br_true]
        exact .inr ⟨_, rfl, .inl ⟨rfl, j, h1, h2⟩⟩
      · rw [beq_eq_false_iff_ne.2 h2, br_false, w64_succ h1 (by unfold maxLen; omega)]
        refine .inl ⟨_, rfl, ⟨j + 1, rfl, by omega, fun q h => ?_⟩, by simp only [Int.toNat_natCast]; omega⟩
        rcases Nat.lt_or_ge q j with h | h
        · exact hq q h
        · obtain rfl : q = j := by omega
          exact h2
    · rw [decide_eq_false (by omega), br_false]
      exact .inr ⟨_, rfl, .inr ⟨rfl, fun q h => hq q (by omega)⟩⟩) i _ (by simp) ⟨0, rfl, by omega, fun q h => by omega⟩
theorem sets_ex {S : List Int} (hl : S.length ≤ 1048576) : ∃ t, spec_l1Sets S = some ((t, ()), (), ()) ∧ (t = true → SetsOk S) ∧ ((∀ a b, a < b → b < S.length → S.getD b 0 ≠ S.getD a 0) → isBar S = true → t = true) := by
  obtain ⟨z, hz, hq⟩ := loopC_rule (step := spec_l1Sets_s0) (fun x => ∃ i : Nat, x = ((S, S, (S.length : Int), (i : Int), ()), (), ()) ∧ i ≤ S.length ∧ ∀ a b, a < b → b < i → S.getD b 0 ≠ S.getD a 0)
    (fun x => S.length - x.1.2.2.2.1.toNat) (fun z => (z = .inl ((false, ()), (), ()) ∧ ∃ a b, a < b ∧ b < S.length ∧ S.getD b 0 = S.getD a 0) ∨ (z = .inr ((S, ()), (), ()) ∧ ∀ a b, a < b → b < S.length → S.getD b 0 ≠ S.getD a 0)) (by
    rintro _ ⟨i, rfl, hi, hq⟩
    simp only [spec_l1Sets_s0, Int.toNat_natCast]
    by_cases h1 : i < S.length
    · obtain ⟨z, hz, h2⟩ := sets_in hl h1
      rw [decide_eq_true (by omega), br_true, ck_pos (by omega), ck_pos h1, ck_pos (by omega), ck_pos ⟨by omega, by omega⟩, hz, Option.bind_some]
      rcases h2 with ⟨rfl, q, hq1, hq2⟩ | ⟨rfl, h2⟩
      · exact .inr ⟨_, rfl, .inl ⟨rfl, q, i, hq1, h1, hq2⟩⟩
      · simp only [sumK_inr]
        rw [w64_succ h1 (by unfold maxLen; omega)]
        refine .inl ⟨_, rfl, ⟨i + 1, rfl, by omega, fun a b h3 h4 => ?_⟩, by simp only [Int.toNat_natCast]; omega⟩
        rcases Nat.lt_or_ge b i with h | h
        · exact hq a b h3 h
        · obtain rfl : b = i := by omega
          exact h2 a h3
    · rw [decide_eq_false (by omega), br_false]
      exact .inr ⟨_, rfl, .inr ⟨rfl, fun a b h3 h4 => hq a b h3 (by omega)⟩⟩) S.length ((S, S, (S.length : Int), (0 : Int), ()), (), ()) (by simp) ⟨0, rfl, by omega, fun a b h3 h4 => by omega⟩
  simp only [spec_l1Sets, hz, Option.bind_some]
  rcases hq with ⟨rfl, a, b, h1, h2, h3⟩ | ⟨rfl, hq⟩
  · exact ⟨false, rfl, (fun h => by cases h), fun h _ => absurd h3 (h a b h1 h2)⟩
  · refine ⟨isBar S, by simp only [sumK_inr, specIsBar_eq hl, Option.bind_some], (fun h => ?_), fun _ h => h⟩
    simp only [isBar, Bool.and_eq_true, List.all_eq_true] at h
    refine ⟨fun j hj => ?_, fun i j h1 h2 => hq i j h1 h2, ?_⟩
    · have := h.1 _ (getD_mem (d := 0) hj)
      unfold setB inB at this
      have := of_decide_eq_true this
      omega
    · have := of_decide_eq_true (show decide _ = true from h.2)
      omega
def lf (L : List Bool) (j : Nat) : Bool := L.getD j false
theorem lf_set (L : List Bool) (i j : Nat) (v : Bool) (h : i < L.length) : lf (L.set i v) j = if i = j then v else lf L j := by
  unfold lf
  rw [List.getD_eq_getElem?_getD, List.getElem?_set, List.getD_eq_getElem?_getD]
  by_cases h1 : i = j
  · subst h1; simp [h]
  · simp [h1]
def cntB : List Bool → Nat
  | [] => 0
  | b :: t => (if b = true then 1 else 0) + cntB t
theorem cntB_set : ∀ (L : List Bool) (j : Nat), lf L j = true → cntB (L.set j false) + 1 = cntB L
  | [], j, h => by simp [lf] at h
  | b :: t, 0, h => by simp only [lf, List.getD_cons_zero] at h; subst h; simp [cntB]; omega
  | b :: t, j + 1, h => by
    have := cntB_set t j (by simpa [lf] using h)
    simp only [List.set_cons_succ, cntB]; omega
theorem cntB_pos : ∀ (L : List Bool), 0 < cntB L → ∃ j, j < L.length ∧ lf L j = true
  | [], h => by simp [cntB] at h
  | true :: t, h => ⟨0, by simp, rfl⟩
  | false :: t, h => by
    obtain ⟨j, h1, h2⟩ := cntB_pos t (by simpa [cntB] using h)
    exact ⟨j + 1, by simp; omega, by simpa [lf] using h2⟩
theorem cntB_rep : ∀ n, cntB (List.replicate n true) = n
  | 0 => rfl
  | n + 1 => by rw [List.replicate_succ, cntB, cntB_rep n]; simp; omega
def Hit (S : List Int) (L : List Bool) (i : Nat) : Prop := ∃ j, j < S.length ∧ j ≠ i ∧ lf L j = true ∧ bAndNot .i64 (S.getD j 0) (S.getD i 0) = 0
theorem free_ex {S : List Int} {L : List Bool} (hS : S.length ≤ 40) (hL : L.length = S.length) {i : Nat} (hi : i < S.length) : ∃ t, spec_l1Free S L (i : Int) = some ((t, ()), (), ()) ∧ (t = false → Hit S L i) ∧ (t = true → ¬ Hit S L i) := by
  obtain ⟨z, hz, hq⟩ := loopC_rule (step := spec_l1Free_s0) (fun x => ∃ p : Nat, x = ((S, L, (i : Int), S, (S.length : Int), (p : Int), ()), (), ()) ∧ p ≤ S.length ∧ ∀ j, j < p → j ≠ i → lf L j = true → bAndNot .i64 (S.getD j 0) (S.getD i 0) ≠ 0)
    (fun x => S.length - x.1.2.2.2.2.2.1.toNat) (fun z => (z = .inl ((false, ()), (), ()) ∧ Hit S L i) ∨ (z = .inr ((), (), ()) ∧ ¬ Hit S L i)) (by
    rintro _ ⟨p, rfl, hp, hall⟩
    have ext : (p = i ∨ lf L p = false ∨ bAndNot .i64 (S.getD p 0) (S.getD i 0) ≠ 0) → ∀ j, j < p + 1 → j ≠ i → lf L j = true → bAndNot .i64 (S.getD j 0) (S.getD i 0) ≠ 0 := by
      intro hx j hj hn hl
      rcases Nat.lt_or_ge j p with h | h
      · exact hall j h hn hl
      · obtain rfl : j = p := by omega
        rcases hx with hx | hx | hx
        · exact absurd hx hn
        · rw [hl] at hx; cases hx
        · exact hx
    simp only [spec_l1Free_s0, Int.toNat_natCast]
    by_cases h1 : p < S.length
    · rw [decide_eq_true (by omega), br_true, ck_pos (by omega), ck_pos h1]
      have next : w64 ((p : Int) + 1) = ((p + 1 : Nat) : Int) := w64_succ h1 (by unfold maxLen; omega)
      rw [next]
      by_cases h2 : p = i
      · rw [show ((p : Int) != (i : Int)) = false from by rw [h2]; simp, br_false]
        exact .inl ⟨_, rfl, ⟨p + 1, rfl, by omega, ext (.inl h2)⟩, by simp only [Int.toNat_natCast]; omega⟩
      · rw [bne_iff_ne.2 (show (p : Int) ≠ (i : Int) by omega), br_true, ck_pos (by omega), ck_pos (by omega)]
        cases h3 : L.getD p false with
        | false => rw [br_false]; exact .inl ⟨_, rfl, ⟨p + 1, rfl, by omega, ext (.inr (.inl h3))⟩, by simp only [Int.toNat_natCast]; omega⟩
        | true =>
          rw [br_true, ck_pos (by omega), ck_pos hi, l1Part_eq, Option.bind_some]
          cases h4 : part (S.getD p 0) (S.getD i 0) with
          | true => rw [br_true]; exact .inr ⟨_, rfl, .inl ⟨rfl, p, h1, h2, h3, by unfold part at h4; exact beq_iff_eq.1 h4⟩⟩
          | false => rw [br_false]; exact .inl ⟨_, rfl, ⟨p + 1, rfl, by omega, ext (.inr (.inr (by unfold part at h4; exact beq_eq_false_iff_ne.1 h4)))⟩, by simp only [Int.toNat_natCast]; omega⟩
    · rw [decide_eq_false (by omega), br_false]
      exact .inr ⟨_, rfl, .inr ⟨rfl, fun ⟨j, g1, g2, g3, g4⟩ => hall j (by omega) g2 g3 g4⟩⟩) S.length ((S, L, (i : Int), S, (S.length : Int), (0 : Int), ()), (), ()) (by simp) ⟨0, rfl, by omega, fun j h => by omega⟩
  simp only [spec_l1Free, hz, Option.bind_some]
  rcases hq with ⟨rfl, hq⟩ | ⟨rfl, hq⟩
  · exact ⟨false, rfl, (fun _ => hq), fun h => by cases h⟩
  · exact ⟨true, rfl, (fun h => by cases h), fun _ => hq⟩
/-- Of the sets that are left one is free: no other one that is left is part of it. -/
theorem some_free {S : List Int} (hS : SetsOk S) (L : List Bool) (hL : L.length = S.length) : ∀ (v j : Nat), j < S.length → lf L j = true → S.getD j 0 = (v : Int) → ∃ i, i < S.length ∧ lf L i = true ∧ ¬ Hit S L i := by
  intro v
  induction v using Nat.strongRecOn with
  | ind v ih =>
    intro j hj hlf hv
    by_cases h : Hit S L j
    · obtain ⟨q, h2, h3, h4, h5⟩ := h
      have hq := hS.1 q h2
      have hjj := hS.1 j hj
      have hle := andNot_le hq.1 hq.2 hjj.1 hjj.2 h5
      have hne : S.getD q 0 ≠ S.getD j 0 := by
        rcases Nat.lt_or_ge q j with h | h
        · exact fun e => hS.2.1 q j h hj e.symm
        · exact hS.2.1 j q (by omega) h2
      obtain ⟨w, hw⟩ := Int.eq_ofNat_of_zero_le hq.1
      exact ih w (by omega) q h2 h4 hw
    · exact ⟨j, hj, hlf, h⟩
end Go.Tree
namespace Go.Tree
set_option linter.unusedVariables false
set_option linter.unusedSimpArgs false
theorem order_in {S : List Int} (hS : SetsOk S) {L : List Bool} (hL : L.length = S.length) {out : List Int} (ho : out.length ≤ 40) {i : Nat} (hi : i < S.length) (hlf : lf L i = true) (hf : ¬ Hit S L i) :
    ∃ p, p < S.length ∧ lf L p = true ∧ ¬ Hit S L p ∧ loopC spec_OrderBar_s4 ((S, (), (), S, (S.length : Int), (0 : Int), ()), (), (L, out, ())) = some (.inl ((S, (), (), S, (), (p : Int), true, ()), (), (L.set p false, out ++ [S.getD p 0], ()))) := by
  have h40 := hS.2.2
  obtain ⟨z, hz, p, h1, h2, h3, rfl⟩ := loopC_rule (step := spec_OrderBar_s4) (fun x => ∃ p : Nat, x = ((S, (), (), S, (S.length : Int), (p : Int), ()), (), (L, out, ())) ∧ p ≤ i)
    (fun x => S.length - x.1.2.2.2.2.2.1.toNat) (fun z => ∃ p, p < S.length ∧ lf L p = true ∧ ¬ Hit S L p ∧ z = .inl ((S, (), (), S, (), (p : Int), true, ()), (), (L.set p false, out ++ [S.getD p 0], ()))) (by
    rintro _ ⟨p, rfl, hp⟩
    have hps : p < S.length := by omega
    simp only [spec_OrderBar_s4, Int.toNat_natCast]
    rw [decide_eq_true (by omega), br_true, ck_pos (by omega), ck_pos hps, ck_pos (by omega), ck_pos (by omega), ck_pos (by omega), w64_succ hps (by unfold maxLen; omega)]
    have skip : (p = i → False) → ∃ y, (some (.inl ((S, (), (), S, (S.length : Int), ((p + 1 : Nat) : Int), ()), (), (L, out, ()))) : Option (((List Int × Unit × Unit × List Int × Int × Int × Unit) × Unit × (List Bool × List Int × Unit)) ⊕ (((List Int × Unit × Unit × List Int × Unit × Int × Bool × Unit) × Unit × (List Bool × List Int × Unit)) ⊕ ((List Int × Unit × Unit × Unit) × Unit × (List Bool × List Int × Unit))))) = some (.inl y) ∧ (∃ p : Nat, y = ((S, (), (), S, (S.length : Int), (p : Int), ()), (), (L, out, ())) ∧ p ≤ i) ∧ S.length - y.1.2.2.2.2.2.1.toNat < S.length - p :=
      fun hn => ⟨_, rfl, ⟨p + 1, rfl, by rcases Nat.lt_or_ge p i with h | h; exact h; exact (hn (by omega)).elim⟩, by simp only [Int.toNat_natCast]; omega⟩
    cases h3 : L.getD p false with
    | false =>
      rw [br_false]
      exact .inl (skip (by rintro rfl; unfold lf at hlf; rw [h3] at hlf; cases hlf))
    | true =>
      obtain ⟨t, e, ht, ht2⟩ := free_ex h40 hL hps
      rw [br_true, e, Option.bind_some]
      cases t with
      | true =>
        rw [br_true, ck_pos (by simp; omega), ck_pos (by omega), ck_pos (by omega), ck_pos (by omega)]
        exact .inr ⟨_, rfl, p, hps, h3, ht2 rfl, rfl⟩
      | false =>
        rw [br_false]
        exact .inl (skip (by rintro rfl; exact hf (ht rfl)))) S.length ((S, (), (), S, (S.length : Int), (0 : Int), ()), (), (L, out, ())) (by simp) ⟨0, rfl, by omega⟩
  exact ⟨p, h1, h2, h3, hz⟩
theorem order_ex {S : List Int} (hl : S.length ≤ 1048576) (hb : spec_l1Sets S = some ((true, ()), (), ())) : ∃ out, spec_OrderBar S = some (((), true, ()), (), (out, ())) ∧ out.length = S.length ∧ S.length ≤ 40 ∧ (∀ x ∈ out, 0 ≤ x ∧ x ≤ 127) ∧ ∀ i j, i < j → j < out.length → bAndNot .i64 (out.getD j 0) (out.getD i 0) ≠ 0 := by
  obtain ⟨t, e, ht, _⟩ := sets_ex hl
  obtain rfl : t = true := by rw [hb] at e; injection e with e; injection e with e; injection e with e; exact e.symm
  simp only [spec_OrderBar, e, Option.bind_some]
  have hS := ht rfl
  have h40 := hS.2.2
  rw [Bool.not_true, br_false, ck_pos (by omega), ck_pos (by omega), ck_pos ⟨trivial, by omega, by omega⟩, Int.toNat_natCast]
  obtain ⟨z, hz, L, rfl, hL, hc⟩ := loopC_rule (step := spec_OrderBar_s0) (fun x => ∃ (i : Nat) (L : List Bool), x = ((S, (), (S.length : Int), (i : Int), ()), (), (L, ())) ∧ L.length = S.length ∧ i ≤ S.length ∧ ∀ j, j < i → lf L j = true)
    (fun x => S.length - x.1.2.2.2.1.toNat) (fun z => ∃ L : List Bool, z = ((S, (), ()), (), (L, ())) ∧ L.length = S.length ∧ cntB L = S.length) (by
    rintro _ ⟨i, L, rfl, hL, hi, hj⟩
    simp only [spec_OrderBar_s0, Int.toNat_natCast]
    by_cases h1 : i < S.length
    · rw [decide_eq_true (by omega), br_true, ck_pos (by omega), ck_pos (by omega), ck_pos (by omega), w64_succ h1 (by unfold maxLen; omega)]
      refine .inl ⟨_, rfl, ⟨i + 1, _, rfl, by simpa using hL, by omega, fun j h => ?_⟩, by simp only [Int.toNat_natCast]; omega⟩
      rw [lf_set L i j true (by omega)]
      by_cases h2 : i = j
      · rw [if_pos h2]
      · rw [if_neg h2]; exact hj j (by omega)
    · rw [decide_eq_false (by omega), br_false]
      refine .inr ⟨_, rfl, L, rfl, hL, ?_⟩
      have e : L = List.replicate S.length true := by
        refine List.ext_getElem (by simp [hL]) (fun j h1 h2 => ?_)
        have := hj j (by omega)
        unfold lf at this
        rw [List.getD_eq_getElem?_getD, List.getElem?_eq_getElem h1] at this
        simpa using this
      rw [e, cntB_rep]) S.length ((S, (), ((List.replicate S.length false).length : Int), (0 : Int), ()), (), (List.replicate S.length false, ())) (by simp) ⟨0, List.replicate S.length false, by simp, by simp, by omega, fun j h => by omega⟩
  rw [hz, Option.bind_some]
  obtain ⟨z, hz2, out, rfl, ho, ho2, ho3⟩ := loopC_rule (step := spec_OrderBar_s2) (fun x => ∃ (L : List Bool) (out : List Int), x = ((S, (), (), ()), (), (L, out, ())) ∧ L.length = S.length ∧ cntB L + out.length = S.length ∧ (∀ x ∈ out, 0 ≤ x ∧ x ≤ 127) ∧ (∀ i j, i < j → j < out.length → bAndNot .i64 (out.getD j 0) (out.getD i 0) ≠ 0) ∧ ∀ q, q < S.length → lf L q = true → ∀ x ∈ out, bAndNot .i64 (S.getD q 0) x ≠ 0)
    (fun x => S.length - x.2.2.2.1.length) (fun z => ∃ out : List Int, z = (((), ()), (), (out, ())) ∧ out.length = S.length ∧ (∀ x ∈ out, 0 ≤ x ∧ x ≤ 127) ∧ ∀ i j, i < j → j < out.length → bAndNot .i64 (out.getD j 0) (out.getD i 0) ≠ 0) (by
    rintro _ ⟨L, out, rfl, hL, hc, hr, hp3, hq⟩
    simp only [spec_OrderBar_s2]
    by_cases h1 : out.length < S.length
    · obtain ⟨j, g1, g2⟩ := cntB_pos L (by omega)
      obtain ⟨v, hv⟩ := Int.eq_ofNat_of_zero_le (hS.1 j (by omega)).1
      obtain ⟨i, hi, hlf, hf⟩ := some_free hS L hL v j (by omega) g2 hv
      obtain ⟨p, hp, hlp, hfree, hz⟩ := order_in hS hL (out := out) (by omega) hi hlf hf
      rw [decide_eq_true (by omega), br_true, hz, Option.bind_some]
      simp only [sumK_inl]
      have := cntB_set L p hlp
      refine .inl ⟨_, rfl, ⟨_, _, rfl, by simpa using hL, by simp; omega, fun x hx => ?_, fun i j hij hj => ?_, fun q hqs hlq x hx => ?_⟩, by simp; omega⟩
      · rcases List.mem_append.1 hx with hx | hx
        · exact hr x hx
        · rw [List.mem_singleton] at hx; subst hx; exact hS.1 p hp
      · rw [List.length_append, List.length_singleton] at hj
        have hi' : (out ++ [S.getD p 0]).getD i 0 = out.getD i 0 := by
          rw [List.getD_eq_getElem?_getD, List.getElem?_append_left (by omega), ← List.getD_eq_getElem?_getD]
        rw [hi']
        rcases Nat.lt_or_ge j out.length with h | h
        · rw [List.getD_eq_getElem?_getD, List.getElem?_append_left h, ← List.getD_eq_getElem?_getD]; exact hp3 i j hij h
        · obtain rfl : j = out.length := by omega
          rw [List.getD_eq_getElem?_getD, List.getElem?_append_right (Nat.le_refl _), Nat.sub_self]
          exact hq p hp hlp _ (getD_mem hij)
      · rw [lf_set L p q false (by omega)] at hlq
        by_cases hpq : p = q
        · rw [if_pos hpq] at hlq; cases hlq
        · rw [if_neg hpq] at hlq
          rcases List.mem_append.1 hx with hx | hx
          · exact hq q hqs hlq x hx
          · rw [List.mem_singleton] at hx; subst hx
            exact fun e => hfree ⟨q, hqs, fun e => hpq e.symm, hlq, e⟩
    · rw [decide_eq_false (by omega), br_false]
      exact .inr ⟨_, rfl, out, rfl, by omega, hr, hp3⟩) S.length ((S, (), (), ()), (), (L, [], ())) (by simp) ⟨L, [], rfl, hL, by simpa using hc, (fun x hx => by cases hx), (fun i j _ h => by simp at h), fun q _ _ x hx => by cases hx⟩
  simp only [hz2, Option.bind_some]
  exact ⟨out, rfl, ho, h40, ho2, ho3⟩
theorem extract_le (s : ByteArray) (i j : Nat) : (s.extract i j).size ≤ j - i := by rw [ByteArray.size_extract]; omega
def fontA : ByteArray := ByteArray.mk #[97, 101, 110, 111, 114, 116, 105, 46, 44, 104, 115, 100, 108, 117, 99, 109, 102, 119, 45, 103, 121, 112, 98, 118, 107, 113, 120, 106, 122, 33, 40, 41, 48, 49, 50, 51, 52, 53, 54, 55]
theorem fontA_size : fontA.size = 40 := rfl
theorem i64_max2 : IntKind.i64.max = 9223372036854775807 := rfl
theorem font_s2 {h : List Int} {p s : Int} (c : CurOk h p) {C : List Int} (hC : C.length ≤ 40) : ∃ a w p' s', loopC spec_l2Font_s2 (((), (), (), (C.length : Int), (0 : Int), ()), ((h, p, s, ()), (ByteArray.empty, (), (), ()), (ByteArray.empty, (), (), ()), ()), ([], C, ())) =
    some (((), (), (), ()), ((h, p', s', ()), (ByteArray.empty, (), (), ()), (a, (), (), ()), ()), (w, C, ())) ∧ CurOk h p' ∧ a = fontA.extract 0 C.length ∧ w.length = C.length ∧ (∀ x ∈ w, 1 ≤ x ∧ x ≤ 60) := by
  obtain ⟨z, hz, a, w, p', s', rfl, c', ha, hw, hwr⟩ := loopC_rule (step := spec_l2Font_s2) (fun x => ∃ (i : Nat) (a : ByteArray) (w : List Int) (p s : Int), x = (((), (), (), (C.length : Int), (i : Int), ()), ((h, p, s, ()), (ByteArray.empty, (), (), ()), (a, (), (), ()), ()), (w, C, ())) ∧ CurOk h p ∧ i ≤ C.length ∧ a = fontA.extract 0 i ∧ w.length = i ∧ (∀ x ∈ w, 1 ≤ x ∧ x ≤ 60))
    (fun x => C.length - x.1.2.2.2.2.1.toNat) (fun z => ∃ a w p' s', z = (((), (), (), ()), ((h, p', s', ()), (ByteArray.empty, (), (), ()), (a, (), (), ()), ()), (w, C, ())) ∧ CurOk h p' ∧ a = fontA.extract 0 C.length ∧ w.length = C.length ∧ (∀ x ∈ w, 1 ≤ x ∧ x ≤ 60)) (by
    rintro _ ⟨i, a, w, p, s, rfl, c, hi, ha, hw, hwr⟩
    simp only [spec_l2Font_s2]
    have hA : (ByteArray.mk #[97, 101, 110, 111, 114, 116, 105, 46, 44, 104, 115, 100, 108, 117, 99, 109, 102, 119, 45, 103, 121, 112, 98, 118, 107, 113, 120, 106, 122, 33, 40, 41, 48, 49, 50, 51, 52, 53, 54, 55]) = fontA := rfl
    rw [hA]
    by_cases h1 : i < C.length
    · obtain ⟨v, p1, s1, e1, c1, v0, v1, _⟩ := below_ex c s 20
      have v1 := v1 (by omega)
      have ev : w64 (1 + v) = 1 + v := w64_id (by omega) (by omega)
      have ew : w64 ((i : Int) + 1) = ((i + 1 : Nat) : Int) := w64_succ h1 (by unfold maxLen; omega)
      have hx : (fontA.extract i (i + 1)).size = 1 := by rw [ByteArray.size_extract, fontA_size]; omega
      have hs : a ++ fontA.extract i (i + 1) = fontA.extract 0 (i + 1) := by rw [ha, ByteArray.extract_append_extract, Nat.min_eq_left (by omega), Nat.max_eq_right (by omega)]
      have hsz : a.size ≤ 40 := by rw [ha, ByteArray.size_extract, fontA_size]; omega
      rw [decide_eq_true (by omega), br_true, ew]
      simp only [Int.toNat_natCast, e1, Option.bind_some]
      rw [ck_pos (by omega), ck_pos (by omega), ck_pos ⟨by omega, by rw [fontA_size]; omega⟩, ck_pos (by rw [i64_max2, hx]; omega), ck_pos (by simp; omega), ev]
      refine .inl ⟨_, rfl, ⟨i + 1, _, _, _, _, rfl, c1, by omega, hs, by simp; omega, fun x hx => ?_⟩, by simp only [Int.toNat_natCast]; omega⟩
      rcases List.mem_append.1 hx with hx | hx
      · exact hwr x hx
      · rw [List.mem_singleton] at hx; omega
    · rw [decide_eq_false (by omega), br_false]
      have hiC : i = C.length := by omega
      exact .inr ⟨_, rfl, a, w, p, s, rfl, c, by rw [ha, hiC], by omega, hwr⟩) C.length (((), (), (), (C.length : Int), (0 : Int), ()), ((h, p, s, ()), (ByteArray.empty, (), (), ()), (ByteArray.empty, (), (), ()), ()), ([], C, ())) (by simp) ⟨0, ByteArray.empty, [], p, s, rfl, c, by omega, rfl, rfl, fun x hx => by cases hx⟩
  exact ⟨a, w, p', s', hz, c', ha, hw, hwr⟩
theorem teeth {a b c : Int} (a0 : 0 ≤ a) (a1 : a < 5) (b0 : 0 ≤ b) (b1 : b < 5) (c0 : 0 ≤ c) (c1 : c < 7) :
    isBar [bOr .i64 (bOr .i64 (w64 (1 * 2 ^ min a.toNat 64)) (w64 (1 * 2 ^ min b.toNat 64))) (w64 (1 * 2 ^ min c.toNat 64))] = true := by
  have ha : a = 0 ∨ a = 1 ∨ a = 2 ∨ a = 3 ∨ a = 4 := by omega
  have hb : b = 0 ∨ b = 1 ∨ b = 2 ∨ b = 3 ∨ b = 4 := by omega
  have hc : c = 0 ∨ c = 1 ∨ c = 2 ∨ c = 3 ∨ c = 4 ∨ c = 5 ∨ c = 6 := by omega
  rcases ha with rfl | rfl | rfl | rfl | rfl <;> rcases hb with rfl | rfl | rfl | rfl | rfl <;> rcases hc with rfl | rfl | rfl | rfl | rfl | rfl | rfl <;> decide
theorem font_s0 {h : List Int} {p s : Int} (c : CurOk h p) {n : Nat} (hn0 : 0 < n) (hn : n ≤ 100) : ∃ C p' s', loopC spec_l2Font_s0 (((), (), (), (), (n : Int), ()), ((h, p, s, ()), (ByteArray.empty, (), (), ()), (ByteArray.empty, (), (), ()), ()), ([], ())) =
    some (((), (), (), (), ()), ((h, p', s', ()), (ByteArray.empty, (), (), ()), (ByteArray.empty, (), (), ()), ()), (C, ())) ∧ CurOk h p' ∧ C.length ≤ 200 ∧ 1 ≤ C.length ∧ spec_l1Sets C = some ((true, ()), (), ()) := by
  obtain ⟨z, hz, C, p', s', rfl, c', hC, hC1, hC2⟩ := loopC_rule (step := spec_l2Font_s0) (fun x => ∃ (n : Nat) (C : List Int) (p s : Int), x = (((), (), (), (), (n : Int), ()), ((h, p, s, ()), (ByteArray.empty, (), (), ()), (ByteArray.empty, (), (), ()), ()), (C, ())) ∧ CurOk h p ∧ n ≤ 100 ∧ C.length + n ≤ 200 ∧ ((C = [] ∧ 0 < n) ∨ (1 ≤ C.length ∧ spec_l1Sets C = some ((true, ()), (), ()))))
    (fun x => x.1.2.2.2.2.1.toNat) (fun z => ∃ C p' s', z = (((), (), (), (), ()), ((h, p', s', ()), (ByteArray.empty, (), (), ()), (ByteArray.empty, (), (), ()), ()), (C, ())) ∧ CurOk h p' ∧ C.length ≤ 200 ∧ 1 ≤ C.length ∧ spec_l1Sets C = some ((true, ()), (), ())) (by
    rintro _ ⟨n, C, p, s, rfl, c, hn, hC, hor⟩
    simp only [spec_l2Font_s0]
    by_cases h1 : 0 < n
    · obtain ⟨v1, p1, s1, e1, c1, a1, b1, _⟩ := below_ex c s 5
      have b1 := b1 (by omega)
      obtain ⟨v2, p2, s2, e2, c2, a2, b2, _⟩ := below_ex c1 s1 5
      obtain ⟨v3, p3, s3, e3, c3, a3, b3, _⟩ := below_ex c2 s2 7
      obtain ⟨n', rfl⟩ : ∃ n', n = n' + 1 := ⟨n - 1, by omega⟩
      have ew : w64 (((n' + 1 : Nat) : Int) - 1) = (n' : Int) := by rw [w64_id (by omega) (by omega)]; omega
      rw [decide_eq_true (by omega), br_true, e1, Option.bind_some, ck_pos a1]
      simp only [e2, Option.bind_some]
      rw [ck_pos a2]
      simp only [e3, Option.bind_some]
      rw [ck_pos a3, ck_pos (by simp; omega), ck_pos (by simp; omega), ew]
      have hbar := teeth a1 b1 a2 (b2 (by omega)) a3 (b3 (by omega))
      generalize bOr .i64 (bOr .i64 (w64 (1 * 2 ^ min v1.toNat 64)) (w64 (1 * 2 ^ min v2.toNat 64))) (w64 (1 * 2 ^ min v3.toNat 64)) = v at hbar ⊢
      obtain ⟨t, e, _, ht⟩ := sets_ex (S := [] ++ C ++ [v]) (by simp; omega)
      rw [e, Option.bind_some]
      cases t
      · rw [br_false]
        refine .inl ⟨_, rfl, ⟨n', _, _, _, rfl, c3, by omega, by omega, ?_⟩, by simp⟩
        rcases hor with ⟨rfl, _⟩ | h
        · exact absurd (ht (fun a b h1 h2 => by simp at h2; omega) hbar) (by simp)
        · exact .inr h
      · rw [br_true]
        exact .inl ⟨_, rfl, ⟨n', _, _, _, rfl, c3, by omega, by simp; omega, .inr ⟨by simp, e⟩⟩, by simp⟩
    · rw [decide_eq_false (by omega), br_false]
      exact .inr ⟨_, rfl, C, p, s, rfl, c, by omega, by rcases hor with ⟨_, h⟩ | h; omega; exact h.1, by rcases hor with ⟨_, h⟩ | h; omega; exact h.2⟩) n (((), (), (), (), (n : Int), ()), ((h, p, s, ()), (ByteArray.empty, (), (), ()), (ByteArray.empty, (), (), ()), ()), ([], ())) (by simp) ⟨n, [], p, s, rfl, c, hn, by simp; omega, .inl ⟨rfl, hn0⟩⟩
  exact ⟨C, p', s', hz, c', hC, hC1, hC2⟩
theorem part_self (x : Int) : part x x = true := by
  unfold part
  have e : bAndNot .i64 x x = IntKind.i64.wrap (((BitVec.ofInt 64 x &&& ~~~BitVec.ofInt 64 x).toNat : Nat) : Int) := rfl
  rw [e, BitVec.and_not_self]
  rfl
theorem order_sorts {C : List Int} (h1 : 1 ≤ C.length) (h40 : C.length ≤ 40) (hr : ∀ x ∈ C, 0 ≤ x ∧ x ≤ 127) (hp : ∀ i j, i < j → j < C.length → bAndNot .i64 (C.getD j 0) (C.getD i 0) ≠ 0) : sortsAll C = true := by
  unfold sortsAll
  rw [Bool.and_eq_true, List.all_eq_true]
  refine ⟨fun i hi => ?_, ?_⟩
  · rw [List.mem_range] at hi
    have : fallN C (C.getD i 0) = i := by
      unfold fallN
      rw [List.findIdx_eq hi]
      refine ⟨?_, fun j hj => ?_⟩
      · have e : C[i] = C.getD i 0 := by rw [List.getD_eq_getElem?_getD, List.getElem?_eq_getElem hi]; rfl
        rw [e]; exact part_self _
      · have e : C[j]'(Nat.lt_trans hj hi) = C.getD j 0 := by rw [List.getD_eq_getElem?_getD, List.getElem?_eq_getElem (Nat.lt_trans hj hi)]; rfl
        rw [e]
        unfold part
        exact beq_eq_false_iff_ne.2 (hp j i hj hi)
    rw [this]; simp
  · unfold isBar
    rw [Bool.and_eq_true, List.all_eq_true]
    refine ⟨fun x hx => ?_, ?_⟩
    · unfold setB inB; exact decide_eq_true (hr x hx)
    · unfold inB; exact decide_eq_true ⟨by omega, by omega⟩
theorem byte_extract (s : ByteArray) {n i : Nat} (h : i < n) : byteAt (s.extract 0 n) i = byteAt s i := by
  unfold byteAt
  rw [Lib.extract_data, List.drop_zero, Nat.sub_zero, List.getD_eq_getElem?_getD, List.getElem?_take, if_pos h, ← List.getD_eq_getElem?_getD]
theorem letters_fontA : (List.range 40).all (fun i => letterB fontA i) = true := by decide
theorem font_letters {n : Nat} (h : n ≤ 40) : (List.range n).all (fun i => letterB (fontA.extract 0 n) i) = true := by
  rw [List.all_eq_true]
  intro i hi
  rw [List.mem_range] at hi
  have hA := List.all_eq_true.1 letters_fontA i (List.mem_range.2 (by omega))
  unfold letterB at hA ⊢
  rw [byte_extract fontA hi]
  simp only [Bool.and_eq_true, List.all_eq_true, List.mem_range] at hA ⊢
  exact ⟨hA.1, hA.2.1, fun j hj => by rw [byte_extract fontA (by omega)]; exact hA.2.2 j hj⟩
theorem font_ex {h : List Int} {p : Int} (c : CurOk h p) (s : Int) {m : Int} (h0 : 0 < m) (h1 : m ≤ 50) : ∃ a w C p' s', spec_l2Font m h p s = some (((a, (), (), ()), (), ()), ((h, p', s', ()), ()), (w, C, ())) ∧ CurOk h p' ∧ a.size = C.length ∧ w.length = C.length ∧ 1 ≤ C.length ∧ C.length ≤ 40 ∧ fontOk a w C = true := by
  obtain ⟨v, p1, s1, e1, c1, a0, a1, _⟩ := below_ex c s m
  have a1 := a1 h0
  obtain ⟨n, rfl⟩ := Int.eq_ofNat_of_zero_le a0
  have ew : w64 (1 + (n : Int)) = ((1 + n : Nat) : Int) := by rw [w64_id (by omega) (by omega)]; omega
  obtain ⟨S, p2, s2, e2, c2, hS, hS1, hS2⟩ := font_s0 (s := s1) c1 (n := 1 + n) (by omega) (by omega)
  obtain ⟨C, e3, hC, hC40, hC2, hC3⟩ := order_ex (S := S) (by omega) hS2
  obtain ⟨a, w, p4, s4, e4, c4, ha, hw, hwr⟩ := font_s2 (s := s2) c2 (C := C) (by omega)
  have hsz : a.size = C.length := by rw [ha, ByteArray.size_extract, fontA_size]; omega
  refine ⟨a, w, C, p4, s4, by simp only [spec_l2Font, e1, Option.bind_some, ew, e2, e3, e4], c4, hsz, hw, by omega, by omega, ?_⟩
  unfold fontOk
  have g1 : inB a.size 1 40 = true := by unfold inB; exact decide_eq_true ⟨by omega, by omega⟩
  have g2 : (w.all fun x => inB x 1 60) = true := by rw [List.all_eq_true]; intro x hx; unfold inB; exact decide_eq_true (hwr x hx)
  have g3 : (List.range a.size).all (fun i => letterB a i) = true := by
    have := font_letters (n := C.length) (by omega)
    rw [← ha, ← hsz] at this
    exact this
  rw [g1, g2, g3, order_sorts (by omega) (by omega) hC2 hC3, hw, hsz]
  simp
end Go.Tree
namespace Go.Tree
set_option linter.unusedVariables false
set_option linter.unusedSimpArgs false
theorem stock_in {h : List Int} {p s : Int} (c : CurOk h p) {a : ByteArray} {ws so : List Int} {K m u v : Int} {i M : Nat} {n : Nat} {d : List (List (Int × Int))} (hi : i < d.length) (hM : M ≤ 100000) (hd : ∀ x ∈ d, x.length + n ≤ M) :
    ∃ p' s' d', loopC spec_l2Stock_s2 (((), (), K, (), m, (i : Int), (n : Int), u, v, ()), ((h, p, s, ()), (a, ws, so, ()), ()), (d, ())) = some (((), (), K, (), m, u, v, ()), ((h, p', s', ()), (a, ws, so, ()), ()), (d', ())) ∧ CurOk h p' ∧ d'.length = d.length ∧ ∀ x ∈ d', x.length ≤ M := by
  obtain ⟨z, hz, p', s', d', rfl, c', hl', hd'⟩ := loopC_rule (step := spec_l2Stock_s2) (fun x => ∃ (n : Nat) (p s : Int) (d1 : List (List (Int × Int))), x = (((), (), K, (), m, (i : Int), (n : Int), u, v, ()), ((h, p, s, ()), (a, ws, so, ()), ()), (d1, ())) ∧ CurOk h p ∧ d1.length = d.length ∧ ∀ x ∈ d1, x.length + n ≤ M)
    (fun x => x.1.2.2.2.2.2.2.1.toNat) (fun z => ∃ p' s' d', z = (((), (), K, (), m, u, v, ()), ((h, p', s', ()), (a, ws, so, ()), ()), (d', ())) ∧ CurOk h p' ∧ d'.length = d.length ∧ ∀ x ∈ d', x.length ≤ M) (by
    rintro _ ⟨n, p, s, d1, rfl, c, hdl, hdn⟩
    simp only [spec_l2Stock_s2, Int.toNat_natCast]
    by_cases h1 : 0 < n
    · obtain ⟨n', rfl⟩ : ∃ n', n = n' + 1 := ⟨n - 1, by omega⟩
      have hid : i < d1.length := by omega
      have ew : w64 (((n' + 1 : Nat) : Int) - 1) = (n' : Int) := by
        have := hdn _ (getD_mem (d := []) hid)
        rw [w64_id (by omega) (by omega)]; omega
      have hcol : (d1.getD i []).length + (n' + 1) ≤ M := hdn _ (getD_mem (d := []) hid)
      have push : ∀ y : Int × Int, ∀ x ∈ d1.set i (d1.getD i [] ++ [y]), x.length + n' ≤ M := by
        intro y x hx
        rcases List.mem_or_eq_of_mem_set hx with hx | rfl
        · have := hdn x hx; omega
        · rw [List.length_append, List.length_singleton]; omega
      rw [decide_eq_true (by omega), br_true]
      by_cases hm : m > 0
      · rw [decide_eq_true hm, br_true]
        obtain ⟨o1, p1, s1, e1, c1⟩ := once_ex c s 4
        simp only [e1, Option.bind_some]
        cases o1
        · rw [br_false]
          by_cases hk : (i : Int) < (so.length : Int)
          · rw [decide_eq_true hk, br_true, ck_pos (by omega), ck_pos (by omega)]
            by_cases hm1 : m > 1
            · rw [decide_eq_true hm1, br_true]
              obtain ⟨o2, p2, s2, e2, c2⟩ := once_ex c1 s1 3
              simp only [e2, Option.bind_some]
              cases o2
              · rw [br_false]
                rw [ck_pos (by omega), ck_pos hid, ck_pos hid, ck_pos hid, ck_pos hid, ck_pos (by rw [List.length_singleton]; omega), ck_pos (by omega), ck_pos hid, ck_pos ⟨trivial, hid⟩, ew]
                exact .inl ⟨_, rfl, ⟨n', _, _, _, rfl, by assumption, by rw [List.length_set]; exact hdl, push _⟩, by simp⟩
              · rw [br_true]
                obtain ⟨v3, p3, s3, e3, c3, v30, _⟩ := below_ex c2 s2 7
                simp only [e3, Option.bind_some]
                rw [ck_pos v30]
                rw [ck_pos (by omega), ck_pos hid, ck_pos hid, ck_pos hid, ck_pos hid, ck_pos (by rw [List.length_singleton]; omega), ck_pos (by omega), ck_pos hid, ck_pos ⟨trivial, hid⟩, ew]
                exact .inl ⟨_, rfl, ⟨n', _, _, _, rfl, by assumption, by rw [List.length_set]; exact hdl, push _⟩, by simp⟩
            · rw [decide_eq_false hm1, br_false]
              rw [ck_pos (by omega), ck_pos hid, ck_pos hid, ck_pos hid, ck_pos hid, ck_pos (by rw [List.length_singleton]; omega), ck_pos (by omega), ck_pos hid, ck_pos ⟨trivial, hid⟩, ew]
              exact .inl ⟨_, rfl, ⟨n', _, _, _, rfl, by assumption, by rw [List.length_set]; exact hdl, push _⟩, by simp⟩
          · rw [decide_eq_false hk, br_false]
            by_cases hm1 : m > 1
            · rw [decide_eq_true hm1, br_true]
              obtain ⟨o2, p2, s2, e2, c2⟩ := once_ex c1 s1 3
              simp only [e2, Option.bind_some]
              cases o2
              · rw [br_false]
                rw [ck_pos (by omega), ck_pos hid, ck_pos hid, ck_pos hid, ck_pos hid, ck_pos (by rw [List.length_singleton]; omega), ck_pos (by omega), ck_pos hid, ck_pos ⟨trivial, hid⟩, ew]
                exact .inl ⟨_, rfl, ⟨n', _, _, _, rfl, by assumption, by rw [List.length_set]; exact hdl, push _⟩, by simp⟩
              · rw [br_true]
                obtain ⟨v3, p3, s3, e3, c3, v30, _⟩ := below_ex c2 s2 7
                simp only [e3, Option.bind_some]
                rw [ck_pos v30]
                rw [ck_pos (by omega), ck_pos hid, ck_pos hid, ck_pos hid, ck_pos hid, ck_pos (by rw [List.length_singleton]; omega), ck_pos (by omega), ck_pos hid, ck_pos ⟨trivial, hid⟩, ew]
                exact .inl ⟨_, rfl, ⟨n', _, _, _, rfl, by assumption, by rw [List.length_set]; exact hdl, push _⟩, by simp⟩
            · rw [decide_eq_false hm1, br_false]
              rw [ck_pos (by omega), ck_pos hid, ck_pos hid, ck_pos hid, ck_pos hid, ck_pos (by rw [List.length_singleton]; omega), ck_pos (by omega), ck_pos hid, ck_pos ⟨trivial, hid⟩, ew]
              exact .inl ⟨_, rfl, ⟨n', _, _, _, rfl, by assumption, by rw [List.length_set]; exact hdl, push _⟩, by simp⟩
        · rw [br_true]
          obtain ⟨k, pk, sk, ek, ck', k0, _⟩ := below_ex c1 s1 K
          simp only [ek, Option.bind_some]
          by_cases hk : k < (so.length : Int)
          · rw [decide_eq_true hk, br_true, ck_pos (by omega), ck_pos (by omega)]
            by_cases hm1 : m > 1
            · rw [decide_eq_true hm1, br_true]
              obtain ⟨o2, p2, s2, e2, c2⟩ := once_ex ck' sk 3
              simp only [e2, Option.bind_some]
              cases o2
              · rw [br_false]
                rw [ck_pos (by omega), ck_pos hid, ck_pos hid, ck_pos hid, ck_pos hid, ck_pos (by rw [List.length_singleton]; omega), ck_pos (by omega), ck_pos hid, ck_pos ⟨trivial, hid⟩, ew]
                exact .inl ⟨_, rfl, ⟨n', _, _, _, rfl, by assumption, by rw [List.length_set]; exact hdl, push _⟩, by simp⟩
              · rw [br_true]
                obtain ⟨v3, p3, s3, e3, c3, v30, _⟩ := below_ex c2 s2 7
                simp only [e3, Option.bind_some]
                rw [ck_pos v30]
                rw [ck_pos (by omega), ck_pos hid, ck_pos hid, ck_pos hid, ck_pos hid, ck_pos (by rw [List.length_singleton]; omega), ck_pos (by omega), ck_pos hid, ck_pos ⟨trivial, hid⟩, ew]
                exact .inl ⟨_, rfl, ⟨n', _, _, _, rfl, by assumption, by rw [List.length_set]; exact hdl, push _⟩, by simp⟩
            · rw [decide_eq_false hm1, br_false]
              rw [ck_pos (by omega), ck_pos hid, ck_pos hid, ck_pos hid, ck_pos hid, ck_pos (by rw [List.length_singleton]; omega), ck_pos (by omega), ck_pos hid, ck_pos ⟨trivial, hid⟩, ew]
              exact .inl ⟨_, rfl, ⟨n', _, _, _, rfl, by assumption, by rw [List.length_set]; exact hdl, push _⟩, by simp⟩
          · rw [decide_eq_false hk, br_false]
            by_cases hm1 : m > 1
            · rw [decide_eq_true hm1, br_true]
              obtain ⟨o2, p2, s2, e2, c2⟩ := once_ex ck' sk 3
              simp only [e2, Option.bind_some]
              cases o2
              · rw [br_false]
                rw [ck_pos (by omega), ck_pos hid, ck_pos hid, ck_pos hid, ck_pos hid, ck_pos (by rw [List.length_singleton]; omega), ck_pos (by omega), ck_pos hid, ck_pos ⟨trivial, hid⟩, ew]
                exact .inl ⟨_, rfl, ⟨n', _, _, _, rfl, by assumption, by rw [List.length_set]; exact hdl, push _⟩, by simp⟩
              · rw [br_true]
                obtain ⟨v3, p3, s3, e3, c3, v30, _⟩ := below_ex c2 s2 7
                simp only [e3, Option.bind_some]
                rw [ck_pos v30]
                rw [ck_pos (by omega), ck_pos hid, ck_pos hid, ck_pos hid, ck_pos hid, ck_pos (by rw [List.length_singleton]; omega), ck_pos (by omega), ck_pos hid, ck_pos ⟨trivial, hid⟩, ew]
                exact .inl ⟨_, rfl, ⟨n', _, _, _, rfl, by assumption, by rw [List.length_set]; exact hdl, push _⟩, by simp⟩
            · rw [decide_eq_false hm1, br_false]
              rw [ck_pos (by omega), ck_pos hid, ck_pos hid, ck_pos hid, ck_pos hid, ck_pos (by rw [List.length_singleton]; omega), ck_pos (by omega), ck_pos hid, ck_pos ⟨trivial, hid⟩, ew]
              exact .inl ⟨_, rfl, ⟨n', _, _, _, rfl, by assumption, by rw [List.length_set]; exact hdl, push _⟩, by simp⟩
      · rw [decide_eq_false hm, br_false]
        by_cases hk : (i : Int) < (so.length : Int)
        · rw [decide_eq_true hk, br_true, ck_pos (by omega), ck_pos (by omega)]
          by_cases hm1 : m > 1
          · rw [decide_eq_true hm1, br_true]
            obtain ⟨o2, p2, s2, e2, c2⟩ := once_ex c s 3
            simp only [e2, Option.bind_some]
            cases o2
            · rw [br_false]
              rw [ck_pos (by omega), ck_pos hid, ck_pos hid, ck_pos hid, ck_pos hid, ck_pos (by rw [List.length_singleton]; omega), ck_pos (by omega), ck_pos hid, ck_pos ⟨trivial, hid⟩, ew]
              exact .inl ⟨_, rfl, ⟨n', _, _, _, rfl, by assumption, by rw [List.length_set]; exact hdl, push _⟩, by simp⟩
            · rw [br_true]
              obtain ⟨v3, p3, s3, e3, c3, v30, _⟩ := below_ex c2 s2 7
              simp only [e3, Option.bind_some]
              rw [ck_pos v30]
              rw [ck_pos (by omega), ck_pos hid, ck_pos hid, ck_pos hid, ck_pos hid, ck_pos (by rw [List.length_singleton]; omega), ck_pos (by omega), ck_pos hid, ck_pos ⟨trivial, hid⟩, ew]
              exact .inl ⟨_, rfl, ⟨n', _, _, _, rfl, by assumption, by rw [List.length_set]; exact hdl, push _⟩, by simp⟩
          · rw [decide_eq_false hm1, br_false]
            rw [ck_pos (by omega), ck_pos hid, ck_pos hid, ck_pos hid, ck_pos hid, ck_pos (by rw [List.length_singleton]; omega), ck_pos (by omega), ck_pos hid, ck_pos ⟨trivial, hid⟩, ew]
            exact .inl ⟨_, rfl, ⟨n', _, _, _, rfl, by assumption, by rw [List.length_set]; exact hdl, push _⟩, by simp⟩
        · rw [decide_eq_false hk, br_false]
          by_cases hm1 : m > 1
          · rw [decide_eq_true hm1, br_true]
            obtain ⟨o2, p2, s2, e2, c2⟩ := once_ex c s 3
            simp only [e2, Option.bind_some]
            cases o2
            · rw [br_false]
              rw [ck_pos (by omega), ck_pos hid, ck_pos hid, ck_pos hid, ck_pos hid, ck_pos (by rw [List.length_singleton]; omega), ck_pos (by omega), ck_pos hid, ck_pos ⟨trivial, hid⟩, ew]
              exact .inl ⟨_, rfl, ⟨n', _, _, _, rfl, by assumption, by rw [List.length_set]; exact hdl, push _⟩, by simp⟩
            · rw [br_true]
              obtain ⟨v3, p3, s3, e3, c3, v30, _⟩ := below_ex c2 s2 7
              simp only [e3, Option.bind_some]
              rw [ck_pos v30]
              rw [ck_pos (by omega), ck_pos hid, ck_pos hid, ck_pos hid, ck_pos hid, ck_pos (by rw [List.length_singleton]; omega), ck_pos (by omega), ck_pos hid, ck_pos ⟨trivial, hid⟩, ew]
              exact .inl ⟨_, rfl, ⟨n', _, _, _, rfl, by assumption, by rw [List.length_set]; exact hdl, push _⟩, by simp⟩
          · rw [decide_eq_false hm1, br_false]
            rw [ck_pos (by omega), ck_pos hid, ck_pos hid, ck_pos hid, ck_pos hid, ck_pos (by rw [List.length_singleton]; omega), ck_pos (by omega), ck_pos hid, ck_pos ⟨trivial, hid⟩, ew]
            exact .inl ⟨_, rfl, ⟨n', _, _, _, rfl, by assumption, by rw [List.length_set]; exact hdl, push _⟩, by simp⟩
    · rw [decide_eq_false (by omega), br_false]
      exact .inr ⟨_, rfl, p, s, d1, rfl, c, hdl, fun x hx => by have := hdn x hx; omega⟩) n (((), (), K, (), m, (i : Int), (n : Int), u, v, ()), ((h, p, s, ()), (a, ws, so, ()), ()), (d, ())) (by simp) ⟨n, p, s, d, rfl, c, rfl, hd⟩
  exact ⟨p', s', d', hz, c', hl', hd'⟩
theorem stock_ex {h : List Int} {p : Int} (c : CurOk h p) (s : Int) {a : ByteArray} (ws so : List Int) (ha : a.size ≤ 40) : ∃ d p' s', spec_l2Stock a ws so h p s = some (((), (), ()), ((h, p', s', ()), ()), (d, ())) ∧ CurOk h p' ∧ d.length = a.size ∧ ∀ x ∈ d, x.length ≤ 1000 := by
  obtain ⟨m, p1, s1, e1, c1, _⟩ := below_ex c s 3
  obtain ⟨z, hz, p', s', d', rfl, c', hl', hd'⟩ := loopC_rule (step := spec_l2Stock_s0) (fun x => ∃ (i : Nat) (p s : Int) (d : List (List (Int × Int))), x = (((), (), (a.size : Int), (), m, (a.size : Int), (i : Int), ()), ((h, p, s, ()), (a, ws, so, ()), ()), (d, ())) ∧ CurOk h p ∧ i ≤ a.size ∧ d.length = a.size ∧ ∀ x ∈ d, x.length ≤ 21 * i)
    (fun x => a.size - x.1.2.2.2.2.2.2.1.toNat) (fun z => ∃ p' s' d', z = (((), (), ()), ((h, p', s', ()), ()), (d', ())) ∧ CurOk h p' ∧ d'.length = a.size ∧ ∀ x ∈ d', x.length ≤ 1000) (by
    rintro _ ⟨i, p, s, d, rfl, c, hi, hdl, hd⟩
    simp only [spec_l2Stock_s0]
    by_cases h1 : i < a.size
    · have ew : w64 ((i : Int) + 1) = ((i + 1 : Nat) : Int) := w64_succ h1 (by unfold maxLen; omega)
      obtain ⟨v, p2, s2, e2, c2, v0, v1, _⟩ := below_ex c s 5
      have v1 := v1 (by omega)
      obtain ⟨n, rfl⟩ := Int.eq_ofNat_of_zero_le v0
      obtain ⟨o, p3, s3, e3, c3⟩ := once_ex c2 s2 10
      rw [decide_eq_true (by omega), br_true]
      simp only [e2, e3, Option.bind_some]
      cases o
      · obtain ⟨p4, s4, d4, e4, c4, hl4, hd4⟩ := stock_in (s := s3) c3 (a := a) (ws := ws) (so := so) (K := (a.size : Int)) (m := m) (u := (a.size : Int)) (v := (i : Int)) (i := i) (M := 21 * (i + 1)) (n := n) (d := d) (by omega) (by omega) (fun x hx => by have := hd x hx; omega)
        rw [br_false, e4, Option.bind_some]
        simp only [ew]
        exact .inl ⟨_, rfl, ⟨i + 1, _, _, _, rfl, c4, by omega, by omega, hd4⟩, by simp only [Int.toNat_natCast]; omega⟩
      · obtain ⟨q, p5, s5, e5, c5, q0, q1, _⟩ := below_ex c3 s3 2
        have q1 := q1 (by omega)
        obtain ⟨n', hn'⟩ : ∃ n' : Nat, w64 (19 + q) = (n' : Int) ∧ n' ≤ 20 := ⟨(19 + q).toNat, by rw [w64_id (by omega) (by omega)]; omega, by omega⟩
        obtain ⟨p4, s4, d4, e4, c4, hl4, hd4⟩ := stock_in (s := s5) c5 (a := a) (ws := ws) (so := so) (K := (a.size : Int)) (m := m) (u := (a.size : Int)) (v := (i : Int)) (i := i) (M := 21 * (i + 1)) (n := n') (d := d) (by omega) (by omega) (fun x hx => by have := hd x hx; omega)
        rw [br_true]
        simp only [e5, Option.bind_some, hn'.1, e4, ew]
        exact .inl ⟨_, rfl, ⟨i + 1, _, _, _, rfl, c4, by omega, by omega, hd4⟩, by simp only [Int.toNat_natCast]; omega⟩
    · rw [decide_eq_false (by omega), br_false]
      exact .inr ⟨_, rfl, p, s, d, rfl, c, hdl, fun x hx => by have := hd x hx; omega⟩) a.size (((), (), (a.size : Int), (), m, (a.size : Int), (0 : Int), ()), ((h, p1, s1, ()), (a, ws, so, ()), ()), (List.replicate a.size [], ())) (by simp) ⟨0, p1, s1, _, rfl, c1, by omega, by simp, fun x hx => by rw [List.eq_of_mem_replicate hx]; simp⟩
  refine ⟨d', p', s', ?_, c', hl', hd'⟩
  simp only [spec_l2Stock, Int.toNat_natCast]
  rw [ck_pos (by omega), ck_pos (by omega), ck_pos ⟨trivial, by omega, by omega⟩]
  simp only [e1, Option.bind_some, List.length_replicate, hz]
end Go.Tree
namespace Go.Tree
set_option linter.unusedVariables false
set_option linter.unusedSimpArgs false
abbrev zM : ByteArray × Unit × Unit × Unit × Int × Int × Int × Int × Unit × Unit × Unit := (ByteArray.empty, (), (), (), (0 : Int), (0 : Int), (0 : Int), (0 : Int), (), (), ())
section
variable {h : List Int} {a : ByteArray} {ws so : List Int} {e x y z : Int} {d : List (List (Int × Int))} (ha : a.size = so.length) (h1 : 1 ≤ so.length) (h40 : so.length ≤ 40)
include ha h1 h40
theorem draw_s0 {p s : Int} (c : CurOk h p) {n : Nat} (hn : n ≤ 100) : ∃ w p' s', loopC spec_l5Draw_s0 (((), (), (), (), (n : Int), ()), ((h, p, s, ()), zM, (a, ws, so, ()), (a, ws, so, (), e, x, y, z, (), (), ()), ()), (d, [], ())) =
    some (((), (), (), (), ()), ((h, p', s', ()), zM, (a, ws, so, ()), (a, ws, so, (), e, x, y, z, (), (), ()), ()), (d, w, ())) ∧ CurOk h p' ∧ w.length ≤ 100 := by
  obtain ⟨q, hq, w, p', s', rfl, c', hw⟩ := loopC_rule (step := spec_l5Draw_s0) (fun X => ∃ (n : Nat) (p s : Int) (w : List (Int × Int)), X = (((), (), (), (), (n : Int), ()), ((h, p, s, ()), zM, (a, ws, so, ()), (a, ws, so, (), e, x, y, z, (), (), ()), ()), (d, w, ())) ∧ CurOk h p ∧ w.length + n ≤ 100)
    (fun X => X.1.2.2.2.2.1.toNat) (fun Z => ∃ w p' s', Z = (((), (), (), (), ()), ((h, p', s', ()), zM, (a, ws, so, ()), (a, ws, so, (), e, x, y, z, (), (), ()), ()), (d, w, ())) ∧ CurOk h p' ∧ w.length ≤ 100) (by
    rintro _ ⟨n, p, s, w, rfl, c, hw⟩
    simp only [spec_l5Draw_s0]
    by_cases h0 : 0 < n
    · obtain ⟨n', rfl⟩ : ∃ n', n = n' + 1 := ⟨n - 1, by omega⟩
      have ew : w64 (((n' + 1 : Nat) : Int) - 1) = (n' : Int) := by rw [w64_id (by omega) (by omega)]; omega
      obtain ⟨v, p1, s1, e1, c1, v0, v1, _⟩ := below_ex c s (a.size : Int)
      have v1 := v1 (by omega)
      obtain ⟨o, p2, s2, e2, c2⟩ := once_ex c1 s1 4
      rw [decide_eq_true (by omega), br_true]
      simp only [e1, Option.bind_some]
      rw [ck_pos v0, ck_pos (by omega)]
      simp only [e2, Option.bind_some]
      cases o
      · rw [br_false, ck_pos (by rw [List.length_singleton]; omega), ew]
        exact .inl ⟨_, rfl, ⟨n', _, _, _, rfl, c2, by rw [List.length_append, List.length_singleton]; omega⟩, by simp⟩
      · obtain ⟨u, p3, s3, e3, c3, u0, _⟩ := below_ex c2 s2 7
        rw [br_true]
        simp only [e3, Option.bind_some]
        rw [ck_pos u0, ck_pos (by rw [List.length_singleton]; omega), ew]
        exact .inl ⟨_, rfl, ⟨n', _, _, _, rfl, c3, by rw [List.length_append, List.length_singleton]; omega⟩, by simp⟩
    · rw [decide_eq_false (by omega), br_false]
      exact .inr ⟨_, rfl, w, p, s, rfl, c, by omega⟩) n (((), (), (), (), (n : Int), ()), ((h, p, s, ()), zM, (a, ws, so, ()), (a, ws, so, (), e, x, y, z, (), (), ()), ()), (d, [], ())) (by simp) ⟨n, p, s, [], rfl, c, by simpa using hn⟩
  exact ⟨w, p', s', hq, c', hw⟩
theorem draw_s2 (hws : ws.length ≤ 1048576) (hd : d.length ≤ 1048576) (hd' : ∀ c ∈ d, c.length ≤ 1048576) {g : List (Int × Int)} (hg : g.length ≤ 1048576) {p s : Int} (c : CurOk h p) {n : Nat} (hn : n ≤ 100) : ∃ w p' s', loopC spec_l5Draw_s2 (((), (), (), (), (n : Int), ()), ((h, p, s, ()), zM, (a, ws, so, ()), (a, ws, so, (), e, x, y, z, (), (), ()), ()), (d, [], g, ())) =
    some (((), (), (), ()), ((h, p', s', ()), zM, (a, ws, so, (), e, x, y, z, (), (), ()), ()), (d, w, g, ())) ∧ CurOk h p' ∧ w.length ≤ 100 := by
  obtain ⟨q, hq, w, p', s', rfl, c', hw⟩ := loopC_rule (step := spec_l5Draw_s2) (fun X => ∃ (n : Nat) (p s : Int) (w : List (Int × Int)), X = (((), (), (), (), (n : Int), ()), ((h, p, s, ()), zM, (a, ws, so, ()), (a, ws, so, (), e, x, y, z, (), (), ()), ()), (d, w, g, ())) ∧ CurOk h p ∧ w.length + n ≤ 100)
    (fun X => X.1.2.2.2.2.1.toNat) (fun Z => ∃ w p' s', Z = (((), (), (), ()), ((h, p', s', ()), zM, (a, ws, so, (), e, x, y, z, (), (), ()), ()), (d, w, g, ())) ∧ CurOk h p' ∧ w.length ≤ 100) (by
    rintro _ ⟨n, p, s, w, rfl, c, hw⟩
    simp only [spec_l5Draw_s2, both_self, List.nil_append, List.length_nil, List.length_singleton]
    by_cases h0 : 0 < n
    · obtain ⟨n', rfl⟩ : ∃ n', n = n' + 1 := ⟨n - 1, by omega⟩
      have ew : w64 (((n' + 1 : Nat) : Int) - 1) = (n' : Int) := by rw [w64_id (by omega) (by omega)]; omega
      have es : w64 ((a.size : Int) + 1) = (a.size : Int) + 1 := w64_id (by omega) (by omega)
      obtain ⟨v, p1, s1, e1, c1, v0, v1, _⟩ := below_ex c s ((a.size : Int) + 1)
      have v1 := v1 (by omega)
      have ev : w64 (v - 1) = v - 1 := w64_id (by omega) (by omega)
      have ok : ∀ w : List (Int × Int), w.length ≤ 101 → spec_MachineOk a ws so d e x y z w g = some ((machOk a ws so d e x y z w g, ()), (), ()) := fun w hw => specMachineOk_eq (by omega) hws (by omega) hd hd' (by omega) hg
      rw [decide_eq_true (by omega), br_true]
      simp only [es, e1, Option.bind_some, ev, ew]
      by_cases hv : v - 1 ≥ 0
      · rw [decide_eq_true hv, br_true, ck_pos hv, ck_pos (by omega), ck_pos (by omega), ck_pos (by omega), ck_pos (by omega), ok _ (by rw [List.length_append, List.length_singleton]; omega), Option.bind_some]
        cases machOk a ws so d e x y z (w ++ [(v - 1, so.getD (v - 1).toNat 0)]) g
        · rw [br_false]; exact .inl ⟨_, rfl, ⟨n', _, _, _, rfl, c1, by omega⟩, by simp⟩
        · rw [br_true]; exact .inl ⟨_, rfl, ⟨n', _, _, _, rfl, c1, by rw [List.length_append, List.length_singleton]; omega⟩, by simp⟩
      · rw [decide_eq_false hv, br_false, ck_pos (by omega), ck_pos (by omega), ck_pos (by omega), ok _ (by rw [List.length_append, List.length_singleton]; omega), Option.bind_some]
        cases machOk a ws so d e x y z (w ++ [(v - 1, 0)]) g
        · rw [br_false]; exact .inl ⟨_, rfl, ⟨n', _, _, _, rfl, c1, by omega⟩, by simp⟩
        · rw [br_true]; exact .inl ⟨_, rfl, ⟨n', _, _, _, rfl, c1, by rw [List.length_append, List.length_singleton]; omega⟩, by simp⟩
    · rw [decide_eq_false (by omega), br_false]
      exact .inr ⟨_, rfl, w, p, s, rfl, c, by omega⟩) n (((), (), (), (), (n : Int), ()), ((h, p, s, ()), zM, (a, ws, so, ()), (a, ws, so, (), e, x, y, z, (), (), ()), ()), (d, [], g, ())) (by simp) ⟨n, p, s, [], rfl, c, by simpa using hn⟩
  exact ⟨w, p', s', hq, c', hw⟩
end
end Go.Tree
namespace Go.Tree
set_option linter.unusedVariables false
set_option linter.unusedSimpArgs false
abbrev Mach.ltop (m : Mach) : ByteArray × List Int × List Int × Unit × Int × Int × Int × Int × Unit × Unit × Unit := (m.s, m.ws, m.so, (), m.e, m.a, m.b, m.c, (), (), ())
structure Mach.Dr (m : Mach) : Prop where
  sm : m.Sm
  so : 1 ≤ m.so.length
  so40 : m.so.length ≤ 40
  d : 1 ≤ m.d.length
  f : m.f.length ≤ 2000
  g : m.g.length ≤ 2000
theorem draw_ex {h : List Int} {p : Int} (c : CurOk h p) (s : Int) : ∃ (m : Mach) (p' s' : Int), spec_l5Draw h p s = some ((m.ltop, (), ()), ((h, p', s', ()), ()), (m.d, m.f, m.g, ())) ∧ CurOk h p' ∧ m.Dr := by
  obtain ⟨a, ws, so, p1, s1, e1, c1, ha, hws, h1, h40, hok⟩ := font_ex c s (m := 8) (by omega) (by omega)
  obtain ⟨d, p2, s2, e2, c2, hd, hd'⟩ := stock_ex c1 s1 ws so (a := a) (by omega)
  obtain ⟨e, p3, s3, e3, c3⟩ := int_ex c2 s2 (l := [(9 : Int), (3 : Int), (20 : Int), (1 : Int), (0 : Int), (60 : Int)]) (by simp)
  obtain ⟨x, y, z, p4, s4, e4, c4⟩ := l3Measure_ex c3 s3
  obtain ⟨o, p5, s5, e5, c5⟩ := once_ex c4 s4 3
  have fin : ∀ (d : List (List (Int × Int))), 1 ≤ d.length → d.length ≤ 40 → (∀ x ∈ d, x.length ≤ 1048576) → ∀ {p s : Int}, CurOk h p → ∃ v p6 s6 w p7 s7 n p8 s8 f p9 s9, spec_l01Below 8 h p s = some ((v, (), ()), ((h, p6, s6, ()), ()), ()) ∧
      loopC spec_l5Draw_s0 (((), (), (), (), v, ()), ((h, p6, s6, ()), zM, (a, ws, so, ()), (a, ws, so, (), e, x, y, z, (), (), ()), ()), (d, [], ())) = some (((), (), (), (), ()), ((h, p7, s7, ()), zM, (a, ws, so, ()), (a, ws, so, (), e, x, y, z, (), (), ()), ()), (d, w, ())) ∧
      spec_l01Below 9 h p7 s7 = some ((n, (), ()), ((h, p8, s8, ()), ()), ()) ∧
      loopC spec_l5Draw_s2 (((), (), (), (), n, ()), ((h, p8, s8, ()), zM, (a, ws, so, ()), (a, ws, so, (), e, x, y, z, (), (), ()), ()), (d, [], w, ())) = some (((), (), (), ()), ((h, p9, s9, ()), zM, (a, ws, so, (), e, x, y, z, (), (), ()), ()), (d, f, w, ())) ∧ CurOk h p9 ∧
      (⟨a, ws, so, d, e, x, y, z, f, w⟩ : Mach).Dr := by
    intro d g1 g2 g3 p s c
    obtain ⟨v, p6, s6, f1, c6, v0, v1, _⟩ := below_ex c s 8
    have v1 := v1 (by omega)
    obtain ⟨v', rfl⟩ := Int.eq_ofNat_of_zero_le v0
    obtain ⟨w, p7, s7, f2, c7, hw⟩ := draw_s0 (e := e) (x := x) (y := y) (z := z) (d := d) ha h1 h40 (s := s6) c6 (n := v') (by omega)
    obtain ⟨n, p8, s8, f3, c8, n0, n1, _⟩ := below_ex c7 s7 9
    have n1 := n1 (by omega)
    obtain ⟨n', rfl⟩ := Int.eq_ofNat_of_zero_le n0
    obtain ⟨f, p9, s9, f4, c9, hf⟩ := draw_s2 (e := e) (x := x) (y := y) (z := z) (d := d) (ws := ws) ha h1 h40 (by omega) (by omega) g3 (g := w) (by omega) (s := s8) c8 (n := n') (by omega)
    exact ⟨_, p6, s6, w, p7, s7, _, p8, s8, f, p9, s9, f1, f2, f3, f4, c9, ⟨by show a.size ≤ _; omega, by show ws.length ≤ _; omega, by show so.length ≤ _; omega, by show d.length ≤ _; omega, g3, by show f.length ≤ _; omega, by show w.length ≤ _; omega⟩, h1, h40, g1, by show f.length ≤ _; omega, by show w.length ≤ _; omega⟩
  simp only [spec_l5Draw, both_self]
  cases o with
  | true =>
    obtain ⟨q, p6, s6, e6, c6, q0, q1, _⟩ := below_ex c5 s5 4
    have q1 := q1 (by omega)
    have eq1 : w64 (1 + q) = 1 + q := w64_id (by omega) (by omega)
    have hb : fillB a ws so (1 + q) = true := by unfold fillB; rw [hok]; unfold inB; rw [decide_eq_true (by omega)]; rfl
    have ef := specFill_eq (s := a) (ws := ws) (so := so) (by omega) (by omega) (by omega) (1 + q)
    rw [hb, if_pos rfl] at ef
    obtain ⟨l1, l2⟩ := fillD_sm so (1 + q) (by omega)
    obtain ⟨v, p7, s7, w, p8, s8, n, p9, s9, f, p10, s10, f1, f2, f3, f4, c10, hm⟩ := fin (fillD so (1 + q).toNat so.length) (by omega) (by omega) l2 (s := s6) c6
    exact ⟨_, p10, s10, by simp only [e1, e2, e3, e4, e5, Option.bind_some, br_true, e6, eq1, ef, f1, f2, f3, f4], c10, hm⟩
  | false =>
    obtain ⟨v, p7, s7, w, p8, s8, n, p9, s9, f, p10, s10, f1, f2, f3, f4, c10, hm⟩ := fin d (by omega) (by omega) (fun x hx => by have := hd' x hx; omega) (s := s5) c5
    exact ⟨_, p10, s10, by simp only [e1, e2, e3, e4, e5, Option.bind_some, br_false, f1, f2, f3, f4], c10, hm⟩
end Go.Tree
namespace Go.Tree
set_option linter.unusedVariables false
set_option linter.unusedSimpArgs false
theorem any_s1 {h : List Int} {p s : Int} {m : Mach} (hm : m.Dr) {N : Int} (hN : N ≤ 1000) : ∃ g, loopC spec_l5Any_s1 (((), (), (), N, ()), ((h, p, s, ()), zM, m.ltop, ()), (m.d, m.f, m.g, ())) = some (((), (), (), ()), ((h, p, s, ()), zM, m.ltop, ()), (m.d, m.f, g, ())) ∧ g.length ≤ 2000 := by
  obtain ⟨q, hq, g, rfl, hg⟩ := loopC_rule (step := spec_l5Any_s1) (fun X => ∃ g : List (Int × Int), X = (((), (), (), N, ()), ((h, p, s, ()), zM, m.ltop, ()), (m.d, m.f, g, ())) ∧ g.length ≤ 2000)
    (fun X => 3000 - X.2.2.2.2.1.length) (fun Z => ∃ g : List (Int × Int), Z = (((), (), (), ()), ((h, p, s, ()), zM, m.ltop, ()), (m.d, m.f, g, ())) ∧ g.length ≤ 2000) (by
    rintro _ ⟨g, rfl, hg⟩
    have := hm.so
    simp only [spec_l5Any_s1]
    by_cases h0 : (g.length : Int) < N
    · rw [decide_eq_true h0, br_true, ck_pos (by omega), ck_pos (by rw [List.length_singleton]; omega)]
      exact .inl ⟨_, rfl, ⟨_, rfl, by rw [List.length_append, List.length_singleton]; omega⟩, by rw [List.length_append, List.length_singleton]; omega⟩
    · rw [decide_eq_false h0, br_false]
      exact .inr ⟨_, rfl, g, rfl, hg⟩) 3000 (((), (), (), N, ()), ((h, p, s, ()), zM, m.ltop, ()), (m.d, m.f, m.g, ())) (by simp) ⟨m.g, rfl, hm.g⟩
  exact ⟨g, hq, hg⟩
structure Mach.Dr2 (m : Mach) : Prop where
  sm : m.Sm
  f : m.f.length ≤ 3000
  g : m.g.length ≤ 3000
  s : m.s.size ≤ 40
theorem any_ex {h : List Int} {p : Int} (c : CurOk h p) (s : Int) : ∃ (m : Mach) (p' s' : Int), spec_l5Any h p s = some ((m.ltop, (), ()), ((h, p', s', ()), ()), (m.d, m.f, m.g, ())) ∧ CurOk h p' ∧ m.Sm ∧ m.f.length ≤ 3000 ∧ m.g.length ≤ 3000 := by
  obtain ⟨m, p1, s1, e1, c1, hm⟩ := draw_ex c s
  obtain ⟨v, p2, s2, e2, c2, _⟩ := below_ex c1 s1 24
  have hf := hm.f
  have hg := hm.g
  have sm := hm.sm
  simp only [spec_l5Any, e1, e2, Option.bind_some]
  by_cases v0 : v = 0
  · obtain ⟨e, p3, s3, e3, c3⟩ := int_ex c2 s2 (l := [(-1 : Int), (61 : Int), (60 : Int)]) (by simp)
    rw [beq_iff_eq.2 v0, br_true]
    simp only [e3, Option.bind_some]
    exact ⟨⟨m.s, m.ws, m.so, m.d, e, m.a, m.b, m.c, m.f, m.g⟩, _, _, rfl, c3, ⟨sm.s, sm.ws, sm.so, sm.d, sm.d', sm.f, sm.g⟩, by show m.f.length ≤ _; omega, by show m.g.length ≤ _; omega⟩
  rw [beq_eq_false_iff_ne.2 v0, br_false]
  by_cases v1 : v = 1
  · obtain ⟨e, p3, s3, e3, c3⟩ := int_ex c2 s2 (l := [(-2 : Int), (-1 : Int), (40 : Int)]) (by simp)
    obtain ⟨u, p4, s4, e4, c4, _⟩ := below_ex c3 s3 2
    rw [beq_iff_eq.2 v1, br_true]
    simp only [e3, e4, Option.bind_some]
    rw [ck_pos (by rw [List.length_singleton]; omega)]
    exact ⟨⟨m.s, m.ws, m.so, m.d, m.e, m.a, m.b, m.c, m.f ++ [(e, u)], m.g⟩, _, _, rfl, c4, ⟨sm.s, sm.ws, sm.so, sm.d, sm.d', by show (m.f ++ [(e, u)]).length ≤ _; rw [List.length_append, List.length_singleton]; omega, sm.g⟩, by show (m.f ++ [(e, u)]).length ≤ _; rw [List.length_append, List.length_singleton]; omega, by show m.g.length ≤ _; omega⟩
  rw [beq_eq_false_iff_ne.2 v1, br_false]
  by_cases v2 : v = 2
  · obtain ⟨e, p3, s3, e3, c3⟩ := int_ex c2 s2 (l := [(0 : Int), (1 : Int), (5 : Int), (2001 : Int)]) (by simp)
    rw [beq_iff_eq.2 v2, br_true]
    simp only [e3, Option.bind_some]
    exact ⟨⟨m.s, m.ws, m.so, m.d, m.e, e, m.b, m.c, m.f, m.g⟩, _, _, rfl, c3, ⟨sm.s, sm.ws, sm.so, sm.d, sm.d', sm.f, sm.g⟩, by show m.f.length ≤ _; omega, by show m.g.length ≤ _; omega⟩
  rw [beq_eq_false_iff_ne.2 v2, br_false]
  by_cases v3 : v = 3
  · obtain ⟨u, p3, s3, e3, c3, u0, u1, _⟩ := below_ex c2 s2 3
    have u1 := u1 (by omega)
    have eu : w64 (239 + u) = 239 + u := w64_id (by omega) (by omega)
    obtain ⟨g, e4, hgl⟩ := any_s1 (h := h) (p := p3) (s := s3) hm (N := 239 + u) (by omega)
    rw [beq_iff_eq.2 v3, br_true]
    simp only [e3, Option.bind_some, eu, e4]
    exact ⟨⟨m.s, m.ws, m.so, m.d, m.e, m.a, m.b, m.c, m.f, g⟩, _, _, rfl, c3, ⟨sm.s, sm.ws, sm.so, sm.d, sm.d', sm.f, by show g.length ≤ _; omega⟩, by show m.f.length ≤ _; omega, by show g.length ≤ _; omega⟩
  rw [beq_eq_false_iff_ne.2 v3, br_false]
  by_cases v4 : v = 4
  · have := hm.d
    rw [beq_iff_eq.2 v4, br_true, ck_pos ⟨by omega, Nat.le_refl _⟩]
    have hc : cut m.d 1 m.d.length = m.d.drop 1 := by show (m.d.take m.d.length).drop 1 = _; rw [List.take_length]
    rw [hc]
    exact ⟨⟨m.s, m.ws, m.so, m.d.drop 1, m.e, m.a, m.b, m.c, m.f, m.g⟩, _, _, rfl, c2, ⟨sm.s, sm.ws, sm.so, by show (m.d.drop 1).length ≤ _; rw [List.length_drop]; have := sm.d; omega, (fun x hx => sm.d' x (List.mem_of_mem_drop hx)), sm.f, sm.g⟩, by show m.f.length ≤ _; omega, by show m.g.length ≤ _; omega⟩
  rw [beq_eq_false_iff_ne.2 v4, br_false]
  exact ⟨m, _, _, rfl, c2, sm, by omega, by omega⟩
end Go.Tree
namespace Go.Tree
set_option linter.unusedVariables false
set_option linter.unusedSimpArgs false
theorem blank_size : (ByteArray.mk #[32]).size = 1 := rfl
theorem words5_ex {h : List Int} {p : Int} (c : CurOk h p) (s : Int) (a : ByteArray) (ws so : List Int) (ha : a.size ≤ 1048576) : ∃ t p' s', spec_l5Words a ws so h p s = some ((t, (), ()), ((h, p', s', ()), ()), ()) ∧ CurOk h p' ∧ t.size ≤ 40 := by
  obtain ⟨v, p1, s1, e1, c1, v0, v1, _⟩ := below_ex c s 14
  have v1 := v1 (by omega)
  obtain ⟨n, rfl⟩ := Int.eq_ofNat_of_zero_le v0
  obtain ⟨q, hq, t, p2, s2, rfl, c2, ht⟩ := loopC_rule (step := spec_l5Words_s0) (fun X => ∃ (n : Nat) (t : ByteArray) (p s : Int), X = (((), (), t, (n : Int), ()), ((h, p, s, ()), (a, ws, so, ()), ()), ()) ∧ CurOk h p ∧ t.size + n ≤ 20)
    (fun X => X.1.2.2.2.1.toNat) (fun Z => ∃ t p' s', Z = (((), t, ()), ((h, p', s', ()), ()), ()) ∧ CurOk h p' ∧ t.size ≤ 20) (by
    rintro _ ⟨n, t, p, s, rfl, c, ht⟩
    simp only [spec_l5Words_s0]
    by_cases h0 : 0 < n
    · obtain ⟨n', rfl⟩ : ∃ n', n = n' + 1 := ⟨n - 1, by omega⟩
      have ew : w64 (((n' + 1 : Nat) : Int) - 1) = (n' : Int) := by rw [w64_id (by omega) (by omega)]; omega
      obtain ⟨o, p1, s1, e1, c1⟩ := once_ex c s 4
      have hs1 : (t ++ ByteArray.mk #[32]).size = t.size + 1 := by rw [ByteArray.size_append, blank_size]
      rw [decide_eq_true (by omega), br_true]
      simp only [e1, Option.bind_some]
      cases o
      · rw [br_false]
        by_cases hz : (a.size : Int) = 0
        · rw [beq_iff_eq.2 hz, br_true, ck_pos (by rw [i64_max2, blank_size]; omega), ew]
          exact .inl ⟨_, rfl, ⟨n', _, _, _, rfl, c1, by omega⟩, by simp⟩
        · obtain ⟨v, p2, s2, e2, c2, v0, v1, _⟩ := below_ex c1 s1 (a.size : Int)
          have v1 := v1 (by omega)
          have ev : w64 (v + 1) = v + 1 := w64_id (by omega) (by omega)
          have hx := extract_le a v.toNat (v + 1).toNat
          have hs2 : (t ++ a.extract v.toNat (v + 1).toNat).size ≤ t.size + 1 := by rw [ByteArray.size_append]; omega
          rw [beq_eq_false_iff_ne.2 hz, br_false]
          simp only [e2, Option.bind_some, ev]
          rw [ck_pos v0, ck_pos (by omega), ck_pos ⟨by omega, by omega⟩, ck_pos (by rw [i64_max2]; omega), ew]
          exact .inl ⟨_, rfl, ⟨n', _, _, _, rfl, c2, by omega⟩, by simp⟩
      · rw [br_true, ck_pos (by rw [i64_max2, blank_size]; omega), ew]
        exact .inl ⟨_, rfl, ⟨n', _, _, _, rfl, c1, by omega⟩, by simp⟩
    · rw [decide_eq_false (by omega), br_false]
      exact .inr ⟨_, rfl, t, p, s, rfl, c, by omega⟩) n (((), (), ByteArray.empty, (n : Int), ()), ((h, p1, s1, ()), (a, ws, so, ()), ()), ()) (by simp) ⟨n, ByteArray.empty, p1, s1, rfl, c1, by show 0 + n ≤ 20; omega⟩
  obtain ⟨o, p3, s3, e3, c3⟩ := once_ex c2 s2 10
  simp only [spec_l5Words, e1, Option.bind_some, hq, e3]
  cases o
  · exact ⟨t, _, _, by rw [br_false], c3, by omega⟩
  · obtain ⟨u, p4, s4, e4, c4, hu⟩ := pick_ex c3 s3 (l := [(ByteArray.mk #[63]), (ByteArray.mk #[255]), (ByteArray.mk #[97, 97]), (ByteArray.mk #[32, 32]), (ByteArray.mk #[81])]) (by simp)
    have hs : u.size ≤ 2 := by
      simp only [List.mem_cons, List.not_mem_nil, or_false] at hu
      rcases hu with rfl | rfl | rfl | rfl | rfl <;> decide
    rw [br_true]
    simp only [e4, Option.bind_some]
    rw [ck_pos (by rw [i64_max2]; omega)]
    exact ⟨_, _, _, rfl, c4, by rw [ByteArray.size_append]; omega⟩
end Go.Tree
namespace Go.Tree
set_option linter.unusedVariables false
set_option linter.unusedSimpArgs false
theorem at_ex {c : List Int} (hl : c.length ≤ 1048576) (hb : ∀ x ∈ c, 0 ≤ x ∧ x ≤ 255) {k : Int} (h0 : 0 ≤ k) (h1 : k ≤ 20) : ∃ v, laws_at c k = some ((v, ()), (), ()) ∧ 0 ≤ v := by
  simp only [laws_at]
  by_cases h : k < (c.length : Int)
  · have hx := hb _ (getD_mem (d := 0) (show k.toNat < c.length by omega))
    rw [decide_eq_true h, br_true, ck_pos h0, ck_pos (by omega), w64_id (by omega) (by omega)]
    exact ⟨_, rfl, hx.1⟩
  · rw [decide_eq_false h, br_false, w64_id (x := k * 37) (by omega) (by omega), w64_id (x := (c.length : Int) * 11) (by omega) (by omega), w64_id (x := k * 37 + (c.length : Int) * 11) (by omega) (by omega)]
    exact ⟨_, rfl, Int.tmod_nonneg _ (by omega)⟩
theorem ints_refl {l : List Int} (hl : l.length ≤ 1048576) : laws_ints l l = some ((true, ()), (), ()) := by
  have h := loop_for (s := laws_ints_s0) (fun i => ((l, l, (l.length : Int), (i : Int), ()), (), ())) l.length (.inr ((), (), ())) (by
    intro i hi
    simp only [laws_ints_s0, Int.toNat_natCast]
    rw [decide_eq_true (by omega), br_true, ck_pos (by omega), ck_pos hi, ck_pos (by omega), ck_pos hi, bne_self_eq_false, br_false, w64_succ hi (big_len hl)]) (by
    simp only [laws_ints_s0]
    rw [decide_eq_false (by omega), br_false])
  simp only [laws_ints, bne_self_eq_false, br_false]
  exact congrArg (fun o => Option.bind o _) h
theorem pieces_refl {l : List (Int × Int)} (hl : l.length ≤ 1048576) : laws_pieces l l = some ((true, ()), (), ()) := by
  have h := loop_for (s := laws_pieces_s0) (fun i => ((l, l, (l.length : Int), (i : Int), ()), (), ())) l.length (.inr ((), (), ())) (by
    intro i hi
    have e : ∀ a b : Int, eqInts [a, b] [a, b] = true := fun a b => by simp [eqInts]
    simp only [laws_pieces_s0, Int.toNat_natCast, e]
    rw [decide_eq_true (by omega), br_true, ck_pos (by omega), ck_pos hi, ck_pos (by omega), ck_pos hi, Bool.not_true, br_false, w64_succ hi (big_len hl)]) (by
    simp only [laws_pieces_s0]
    rw [decide_eq_false (by omega), br_false])
  simp only [laws_pieces, bne_self_eq_false, br_false]
  exact congrArg (fun o => Option.bind o _) h
theorem stocks_refl {l : List (List (Int × Int))} (hl : l.length ≤ 1048576) (hl' : ∀ c ∈ l, c.length ≤ 1048576) : laws_stocks l l = some ((true, ()), (), ()) := by
  have h := loop_for (s := laws_stocks_s0) (fun i => ((l, l, (l.length : Int), (i : Int), ()), (), ())) l.length (.inr ((), (), ())) (by
    intro i hi
    simp only [laws_stocks_s0, Int.toNat_natCast, pieces_refl (hl' _ (getD_mem hi)), Option.bind_some]
    rw [decide_eq_true (by omega), br_true, ck_pos (by omega), ck_pos hi, ck_pos (by omega), ck_pos hi, Bool.not_true, br_false, w64_succ hi (big_len hl)]) (by
    simp only [laws_stocks_s0]
    rw [decide_eq_false (by omega), br_false])
  simp only [laws_stocks, bne_self_eq_false, br_false]
  exact congrArg (fun o => Option.bind o _) h
theorem same_refl {m : Mach} (h : m.Sm) : laws_same m.s m.ws m.so m.d m.e m.a m.b m.c m.f m.g m.s m.ws m.so m.d m.e m.a m.b m.c m.f m.g = some ((true, ()), (), ()) := by
  have e : ∀ a b c : Int, eqInts [a, b, c] [a, b, c] = true := fun a b c => by simp [eqInts]
  simp only [laws_same, strEq_refl, br_true, ints_refl h.ws, ints_refl h.so, stocks_refl h.d h.d', beq_self_eq_true, e, pieces_refl h.f, pieces_refl h.g, Option.bind_some]
section
variable {s : ByteArray} {ws so : List Int}
theorem dropD_mag {d : List (List (Int × Int))} {x : Int × Int} (h : dropB s ws so d x = true) : magOk s ws so (dropD so d x) = true := by
  obtain ⟨h1, h2, h3, h4⟩ := dropB_parts h
  unfold magOk at h1 ⊢
  simp only [Bool.and_eq_true, beq_iff_eq, List.all_eq_true] at h1 ⊢
  refine ⟨h1.1, by unfold dropD; rw [List.length_set]; exact h1.2.1, fun c hc => ?_⟩
  unfold dropD at hc
  rcases List.mem_or_eq_of_mem_set hc with hc | rfl
  · exact h1.2.2 c hc
  · have := h1.2.2 _ (getD_mem (d := []) h3)
    unfold colB at this ⊢
    simp only [Bool.and_eq_true, decide_eq_true_eq, List.all_eq_true] at this ⊢
    refine ⟨by rw [List.length_append, List.length_singleton]; omega, fun y hy => ?_⟩
    rcases List.mem_append.1 hy with hy | hy
    · exact this.2 y hy
    · rw [List.mem_singleton] at hy; subst hy; exact h2
/-- what a drop leaves: the stock right, the rest a tail, and why it stopped -/
theorem dropR_facts (most : Int) : ∀ (g : List (Int × Int)) (n : Int) (d : List (List (Int × Int))), n ≤ most → magOk s ws so d = true →
    ∃ k : Nat, (dropR s ws so most n d g).2.2 = n + k ∧ k ≤ g.length ∧ n + k ≤ most ∧ (dropR s ws so most n d g).2.1 = g.drop k ∧ magOk s ws so (dropR s ws so most n d g).1 = true ∧
      (n + k < most → ∀ x t, g.drop k = x :: t → dropB s ws so (dropR s ws so most n d g).1 x = false)
  | [], n, d, hn, hm => ⟨0, by simp [dropR], by simp, by simpa using hn, by simp [dropR], by simpa [dropR] using hm, fun _ x t h => by simp at h⟩
  | x :: g, n, d, hn, hm => by
    by_cases hc : n < most ∧ dropB s ws so d x = true
    · obtain ⟨k, h1, h2, h3, h4, h5, h6⟩ := dropR_facts most g (n + 1) (dropD so d x) (by omega) (dropD_mag hc.2)
      simp only [dropR, if_pos hc]
      refine ⟨k + 1, by rw [h1]; omega, by simp; omega, by omega, by rw [h4]; rfl, h5, fun h y t e => h6 (by omega) y t (by simpa using e)⟩
    · simp only [dropR, if_neg hc]
      refine ⟨0, by simp, by simp, by simpa using hn, rfl, hm, fun h y t e => ?_⟩
      injection e with e1 e2
      subst e1
      cases hb : dropB s ws so d x
      · rfl
      · exact absurd ⟨by omega, hb⟩ hc
end
end Go.Tree
namespace Go.Tree
set_option linter.unusedVariables false
set_option linter.unusedSimpArgs false
theorem dropM_pos {m : Mach} (h : m.ok = true) {n : Int} (hn : 0 ≤ n) : dropM m n = ({ m with d := (dropR m.s m.ws m.so n 0 m.d m.g).1, g := (dropR m.s m.ws m.so n 0 m.d m.g).2.1 }, (dropR m.s m.ws m.so n 0 m.d m.g).2.2) := by
  unfold dropM
  rw [h, decide_eq_false (by omega), if_pos (show (true && !false) = true from rfl)]
theorem mach_mag {m : Mach} (h : m.ok = true) : magOk m.s m.ws m.so m.d = true := by
  simp only [Mach.ok, machOk, Bool.and_eq_true] at h
  exact h.1
theorem dropM_ok {m : Mach} (h : m.ok = true) {n : Int} (hn : 0 ≤ n) : (dropM m n).1.ok = true := by
  rw [dropM_pos h hn]
  obtain ⟨k, h1, h2, h3, h4, h5, _⟩ := dropR_facts (s := m.s) (ws := m.ws) (so := m.so) n m.g 0 m.d hn (mach_mag h)
  simp only [Mach.ok, machOk, Bool.and_eq_true, List.all_eq_true, decide_eq_true_eq] at h ⊢
  rw [h4]
  exact ⟨h5, h.2.1, h.2.2.1, by rw [List.length_drop]; omega, h.2.2.2.2.1, fun x hx => h.2.2.2.2.2.1 x (List.mem_of_mem_drop hx), h.2.2.2.2.2.2⟩
end Go.Tree
namespace Go.Tree
set_option linter.unusedVariables false
set_option linter.unusedSimpArgs false
theorem drawSet_ex {code : List Int} (hl : code.length ≤ 1048576) : ∃ (m : Mach) (L : List ByteArray), spec_DrawSetLines code = some ((m.ltop, (), ()), (), (m.d, m.f, m.g, L, ())) ∧ m.Sm ∧ L.length ≤ 10 ∧ ∀ x ∈ L, x.size ≤ 40 := by
  obtain ⟨s, e, c⟩ := new_ex (code := code) hl
  obtain ⟨m, p1, s1, e1, c1, sm, hf, hg⟩ := any_ex c s
  obtain ⟨v, p2, s2, e2, c2, v0, v1, _⟩ := below_ex c1 s1 4
  have v1 := v1 (by omega)
  obtain ⟨n, rfl⟩ := Int.eq_ofNat_of_zero_le v0
  obtain ⟨z, hz, L, rfl, hL, hx⟩ := loopC_rule (step := spec_DrawSetLines_s0) (fun X => ∃ (n : Nat) (p s : Int) (L : List ByteArray), X = (((), (), (), (), (n : Int), ()), (zM, (code, p, s, ()), m.ltop, ()), (L, m.d, m.f, m.g, ())) ∧ CurOk code p ∧ L.length + n ≤ 10 ∧ ∀ x ∈ L, x.size ≤ 40)
    (fun X => X.1.2.2.2.2.1.toNat) (fun Z => ∃ L : List ByteArray, Z = (((), (), (), ()), (zM, m.ltop, ()), (L, m.d, m.f, m.g, ())) ∧ L.length ≤ 10 ∧ ∀ x ∈ L, x.size ≤ 40) (by
    rintro _ ⟨n, p, s, L, rfl, c, hn, hx⟩
    simp only [spec_DrawSetLines_s0]
    by_cases h0 : 0 < n
    · obtain ⟨n', rfl⟩ : ∃ n', n = n' + 1 := ⟨n - 1, by omega⟩
      have ew : w64 (((n' + 1 : Nat) : Int) - 1) = (n' : Int) := by rw [w64_id (by omega) (by omega)]; omega
      obtain ⟨t, p1, s1, e1, c1, ht⟩ := words5_ex c s m.s m.ws m.so sm.s
      obtain ⟨o, p2, s2, e2, c2⟩ := once_ex c1 s1 3
      have push : ∀ u : ByteArray, u.size ≤ 40 → ∀ x ∈ L ++ [u], x.size ≤ 40 := fun u hu x h => by
        rcases List.mem_append.1 h with h | h
        · exact hx x h
        · rw [List.mem_singleton] at h; rw [h]; exact hu
      rw [decide_eq_true (by omega), br_true]
      simp only [e1, e2, Option.bind_some]
      cases o
      · rw [Bool.not_false, br_true]
        by_cases h3 : (t.size : Int) > 3
        · rw [decide_eq_true h3, br_true, ck_pos ⟨by omega, by omega⟩, ck_pos (by rw [List.length_singleton]; omega), ew]
          exact .inl ⟨_, rfl, ⟨n', _, _, _, rfl, c2, by rw [List.length_append, List.length_singleton]; omega, push _ (by have := extract_le t 0 3; omega)⟩, by simp⟩
        · rw [decide_eq_false h3, br_false, ck_pos (by rw [List.length_singleton]; omega), ew]
          exact .inl ⟨_, rfl, ⟨n', _, _, _, rfl, c2, by rw [List.length_append, List.length_singleton]; omega, push _ ht⟩, by simp⟩
      · rw [Bool.not_true, br_false, ck_pos (by rw [List.length_singleton]; omega), ew]
        exact .inl ⟨_, rfl, ⟨n', _, _, _, rfl, c2, by rw [List.length_append, List.length_singleton]; omega, push _ ht⟩, by simp⟩
    · rw [decide_eq_false (by omega), br_false]
      exact .inr ⟨_, rfl, L, rfl, by omega, hx⟩) n (((), (), (), (), (n : Int), ()), (zM, (code, p2, s2, ()), m.ltop, ()), ([], m.d, m.f, m.g, ())) (by simp) ⟨n, p2, s2, [], rfl, c2, by simp; omega, fun x h => by cases h⟩
  exact ⟨m, L, by simp only [spec_DrawSetLines, e, e1, e2, Option.bind_some, hz], sm, hL, hx⟩
theorem setStep_ok {m y : Mach} {x u : ByteArray} (h : setStep m x = some (y, u)) : y.ok = true := by
  unfold setStep at h
  split at h
  · cases h
  · split at h
    · rename_i hc
      cases h
      have hk : (castY (keyM m x).1 true).ok = true := by
        unfold castY
        rw [if_pos hc]
        unfold castB at hc
        simp only [Bool.and_eq_true] at hc
        exact hc.2.2.2
      exact dropM_ok hk (by omega)
    · cases h
theorem setR_ok : ∀ (l : List ByteArray) (m : Mach) (out : List ByteArray) (y : Mach) (t : List ByteArray), m.ok = true → setR l m out = some (y, t) → y.ok = true
  | [], m, out, y, t, h, e => by cases e; exact h
  | x :: l, m, out, y, t, h, e => by
    simp only [setR] at e
    split at e
    · rename_i p hp; exact setR_ok l p.1 _ y t (setStep_ok (y := p.1) (u := p.2) hp) e
    · cases e
theorem setR_append : ∀ (a b : List ByteArray) (m : Mach) (out : List ByteArray), setR (a ++ b) m out = (setR a m out).bind fun p => setR b p.1 p.2
  | [], b, m, out => rfl
  | x :: a, b, m, out => by
    simp only [List.cons_append, setR]
    cases setStep m x with
    | none => rfl
    | some p => exact setR_append a b p.1 _
theorem setR_out : ∀ (b : List ByteArray) (m : Mach) (out : List ByteArray), setR b m out = (setR b m []).map fun p => (p.1, out ++ p.2)
  | [], m, out => by simp [setR]
  | x :: b, m, out => by
    simp only [setR]
    cases setStep m x with
    | none => rfl
    | some p =>
      simp only []
      rw [setR_out b p.1 (out ++ [p.2]), setR_out b p.1 ([] ++ [p.2])]
      cases setR b p.1 [] <;> simp
end Go.Tree
namespace Go.Tree
set_option linter.unusedVariables false
set_option linter.unusedSimpArgs false
theorem strings_refl {l : List ByteArray} (hl : l.length ≤ 1048576) : laws_strings l l = some ((true, ()), (), ()) := by
  have h := loop_for (s := laws_strings_s0) (fun i => ((l, l, (l.length : Int), (i : Int), ()), (), ())) l.length (.inr ((), (), ())) (by
    intro i hi
    simp only [laws_strings_s0, Int.toNat_natCast, strEq_refl]
    rw [decide_eq_true (by omega), br_true, ck_pos (by omega), ck_pos hi, ck_pos (by omega), ck_pos hi, Bool.not_true, br_false, w64_succ hi (big_len hl)]) (by
    simp only [laws_strings_s0]
    rw [decide_eq_false (by omega), br_false])
  simp only [laws_strings, bne_self_eq_false, br_false]
  exact congrArg (fun o => Option.bind o _) h
theorem law_FnLines {code : List Int} (hb : ∀ x ∈ code, 0 ≤ x ∧ x ≤ 255) : laws_FnLines code = some ((true, ()), (), ()) := by
  simp only [laws_FnLines]
  by_cases h0 : (code.length : Int) > 1048576
  · rw [decide_eq_true h0]; rfl
  rw [decide_eq_false h0, br_false]
  have hl : code.length ≤ 1048576 := by omega
  obtain ⟨m, L, e, sm, hL, hx⟩ := drawSet_ex hl
  obtain ⟨v0, e0, p0⟩ := at_ex hl hb (k := 0) (by omega) (by omega)
  have hxL : ∀ x ∈ L, x.size ≤ 1048576 := fun x h => by have := hx x h; omega
  have S := implSet_eq sm (lines := L) (by omega) hxL
  have esz : w64 ((L.length : Int) + 1) = (L.length : Int) + 1 := w64_id (by omega) (by omega)
  obtain ⟨a0, a1⟩ := tmod_pos p0 (show (0 : Int) < (L.length : Int) + 1 by omega)
  simp only [e, S, e0, esz, Option.bind_some]
  obtain ⟨k, hk⟩ := Int.eq_ofNat_of_zero_le a0
  rw [hk] at a1 ⊢
  have hkL : k ≤ L.length := by omega
  have hA : cut L 0 k = L.take k := by show (L.take k).drop 0 = _; rw [List.drop_zero]
  have hB : cut L k L.length = L.drop k := by show (L.take L.length).drop k = _; rw [List.take_length]
  rw [ck_pos (by omega), ck_pos (by omega), ck_pos ⟨by omega, by rw [Int.toNat_natCast]; exact hkL⟩]
  simp only [Int.toNat_natCast, hA, hB]
  have hAB : L.take k ++ L.drop k = L := List.take_append_drop k L
  have hlA : (L.take k).length = k := by rw [List.length_take]; omega
  have hlB : (L.drop k).length = L.length - k := List.length_drop
  have hxA : ∀ x ∈ L.take k, x.size ≤ 1048576 := fun x h => hxL x (List.mem_of_mem_take h)
  have hxB : ∀ x ∈ L.drop k, x.size ≤ 1048576 := fun x h => hxL x (List.mem_of_mem_drop h)
  have SA := implSet_eq sm (lines := L.take k) (by omega) hxA
  obtain ⟨smA, _⟩ := setY_sm sm (lines := L.take k)
  have SB := implSet_eq smA (lines := L.drop k) (by omega) hxB
  have O := specOk_eq sm
  simp only [SA, Option.bind_some]
  have full : setR L m [] = (setR (L.take k) m []).bind fun p => (setR (L.drop k) p.1 []).map fun q => (q.1, p.2 ++ q.2) := by
    conv => lhs; rw [← hAB]
    rw [setR_append]
    congr 1
    funext p
    exact setR_out _ _ _
  cases hm : m.ok with
  | false =>
    have q : ∀ l, setB2 m l = false := fun l => by unfold setB2 setQ; rw [hm]; rfl
    rw [q, q, Bool.not_false, br_true, br_true, O, hm]
    rfl
  | true =>
    cases h1 : setR (L.take k) m [] with
    | none =>
      have qA : setB2 m (L.take k) = false := by unfold setB2 setQ; rw [if_pos hm, h1]; rfl
      have qL : setB2 m L = false := by unfold setB2 setQ; rw [if_pos hm, full, h1]; rfl
      have hk0 : 0 < k := by
        rcases Nat.eq_zero_or_pos k with h | h
        · subst h; simp [setR] at h1
        · exact h
      rw [qA, qL, Bool.not_false, br_true, br_true, O, hm]
      simp only [Option.bind_some, Bool.not_true, br_false]
      rw [decide_eq_true (by omega)]
    | some p =>
      have qA : setB2 m (L.take k) = true := by unfold setB2 setQ; rw [if_pos hm, h1]; rfl
      have yA : setY m (L.take k) = p.1 := by unfold setY setQ; rw [if_pos hm, h1]
      have tA : setT m (L.take k) = p.2 := by unfold setT setQ; rw [if_pos hm, h1]
      have ok1 : p.1.ok = true := setR_ok _ _ _ p.1 p.2 hm h1
      obtain ⟨_, lA⟩ := setR_small (L.take k) m [] p.1 p.2 sm h1
      rw [yA] at SB smA
      rw [qA, Bool.not_true, br_false, ck_pos (by omega), ck_pos ⟨hkL, Nat.le_refl _⟩, yA, tA]
      simp only [SB, Option.bind_some]
      cases h2 : setR (L.drop k) p.1 [] with
      | none =>
        have qB : setB2 p.1 (L.drop k) = false := by unfold setB2 setQ; rw [if_pos ok1, h2]; rfl
        have qL : setB2 m L = false := by unfold setB2 setQ; rw [if_pos hm, full, h1, Option.bind_some, h2]; rfl
        rw [qB, qL, Bool.not_false, br_true]
      | some q =>
        have qB : setB2 p.1 (L.drop k) = true := by unfold setB2 setQ; rw [if_pos ok1, h2]; rfl
        have yB : setY p.1 (L.drop k) = q.1 := by unfold setY setQ; rw [if_pos ok1, h2]
        have tB : setT p.1 (L.drop k) = q.2 := by unfold setT setQ; rw [if_pos ok1, h2]
        have qL : setB2 m L = true := by unfold setB2 setQ; rw [if_pos hm, full, h1, Option.bind_some, h2]; rfl
        have yL : setY m L = q.1 := by unfold setY setQ; rw [if_pos hm, full, h1, Option.bind_some, h2]; rfl
        have tL : setT m L = p.2 ++ q.2 := by unfold setT setQ; rw [if_pos hm, full, h1, Option.bind_some, h2]; rfl
        obtain ⟨smq, lB⟩ := setR_small (L.drop k) p.1 [] q.1 q.2 smA h2
        simp only [List.length_nil, Nat.zero_add] at lA lB
        have W := same_refl smq
        have Z := strings_refl (l := p.2 ++ q.2) (by rw [List.length_append]; omega)
        rw [qB, qL, Bool.not_true, br_false, br_true, yB, tB, yL, tL]
        simp only [W, Option.bind_some, br_true, List.nil_append]
        rw [ck_pos (by simp only [List.length_nil]; omega), ck_pos (by omega), Z, Option.bind_some]
        simp only [br_true]
        rw [beq_iff_eq.2 (by rw [List.length_append]; omega)]
theorem u8_range3 {n : Int} (h : (Lit.int .u8 n).wf = true) : 0 ≤ n ∧ n ≤ 255 := by
  unfold Lit.wf at h
  rw [Bool.and_eq_true, decide_eq_true_eq, decide_eq_true_eq] at h
  exact h
theorem row_FnLines : ∀ x : laws_FnLines_C.arg.den, wfP laws_FnLines_C.arg.tm x.1 → ∃ y : altDen laws_FnLines_C.res, laws_FnLines_C.F x = some y ∧ (altMk laws_FnLines_C.res y).tm = [(0, .c (.v (.bool true)))] :=
  fun x hx => ⟨((true, ()), (), ()), law_FnLines (fun y hy => u8_range3 (hx.1.2 y hy)), rfl⟩
end Go.Tree
