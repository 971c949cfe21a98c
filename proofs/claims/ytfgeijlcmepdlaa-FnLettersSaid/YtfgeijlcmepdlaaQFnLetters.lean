/- What the functions of the law FnLetters answer, in plain Lean, with no program in sight. No condition but the bounds of lengths. -/
import Derived.Test.YtfgeijlcmepdlaaK8
import Derived.Test.YtfgeijlcmepdlaaPFnLetters
namespace Go.Tree
set_option linter.unusedVariables false

@[simp] theorem br_true {α : Type} (x y : α) : br true x y = x := rfl
@[simp] theorem br_false {α : Type} (x y : α) : br false x y = y := rfl
theorem br_ite {α : Type} (b : Bool) (x y : α) : br b x y = if b = true then x else y := by cases b <;> rfl
@[simp] theorem sumK_inl {X Y α : Type} (z : X) (f : X → α) (g : Y → α) : sumK (.inl z : X ⊕ Y) f g = f z := rfl
@[simp] theorem sumK_inr {X Y α : Type} (z : Y) (f : X → α) (g : Y → α) : sumK (.inr z : X ⊕ Y) f g = g z := rfl
theorem sumK_ite {X Y α : Type} (p : Prop) [Decidable p] (a b : X ⊕ Y) (f : X → α) (g : Y → α) : sumK (if p then a else b) f g = if p then sumK a f g else sumK b f g := by split <;> rfl
theorem ck_pos {α : Type} {p : Prop} [Decidable p] (h : p) (x : Option α) : ck p x = x := if_pos h
theorem w64_id {x : Int} (h1 : -9223372036854775808 ≤ x) (h2 : x ≤ 9223372036854775807) : w64 x = x := by
  simp only [w64, IntKind.wrap, IntKind.bits, IntKind.signed, Bool.true_and]
  by_cases h : x % 2 ^ 64 ≥ 2 ^ (64 - 1)
  · rw [if_pos (by simpa using h)]; omega
  · rw [if_neg (by simpa using h)]; omega
theorem w64_succ {i n : Nat} (h : i < n) (hn : n ≤ maxLen) : w64 ((i : Int) + 1) = ((i + 1 : Nat) : Int) := by
  unfold maxLen at hn
  rw [w64_id] <;> omega
theorem i64_range {n : Int} (h : I64 n) : -9223372036854775808 ≤ n ∧ n ≤ 9223372036854775807 := Go.bounds_i64 h

section
variable {X Z : Type} {s : X → Option (X ⊕ Z)}
theorem loop_step {x y : X} (h : s x = some (.inl y)) : loopC s x = loopC s y := by rw [loopC_eq, h]
theorem loop_out {x : X} {z : Z} (h : s x = some (.inr z)) : loopC s x = some z := by rw [loopC_eq, h]

/-- a counted loop that may leave early -/
theorem loop_findFrom (st : Nat → X) (n : Nat) (f : Nat → Option Z) (done : Z)
    (hs : ∀ i, i < n → s (st i) = some (match f i with | some z => .inr z | none => .inl (st (i + 1)))) (hd : s (st n) = some (.inr done)) : ∀ k i, i + k = n →
    loopC s (st i) = some (((List.range' i k).findSome? f).getD done)
  | 0, i, e => by
    have : i = n := by omega
    subst this
    rw [loop_out hd]; rfl
  | k + 1, i, e => by
    have h := hs i (by omega)
    rw [List.range'_succ, List.findSome?_cons]
    cases hf : f i with
    | some z => rw [hf] at h; rw [loop_out h]; rfl
    | none => rw [hf] at h; rw [loop_step h]; exact loop_findFrom st n f done hs hd k (i + 1) (by omega)
theorem loop_find (st : Nat → X) (n : Nat) (f : Nat → Option Z) (done : Z)
    (hs : ∀ i, i < n → s (st i) = some (match f i with | some z => .inr z | none => .inl (st (i + 1)))) (hd : s (st n) = some (.inr done)) :
    loopC s (st 0) = some (((List.range n).findSome? f).getD done) := by
  rw [loop_findFrom st n f done hs hd n 0 (by omega), List.range_eq_range']
/-- a loop that leaves at the first index that fails -/
theorem loop_allI (st : Nat → X) (n : Nat) (p : Nat → Bool) (z done : Z)
    (hs : ∀ i, i < n → s (st i) = some (if p i = true then .inl (st (i + 1)) else .inr z)) (hd : s (st n) = some (.inr done)) :
    loopC s (st 0) = some (if (List.range n).all p = true then done else z) := by
  rw [loop_find st n (fun i => if p i = true then none else some z) done (fun i hi => by rw [hs i hi]; split <;> rfl) hd]
  congr 1
  generalize List.range n = l
  induction l with
  | nil => rfl
  | cons a l ih => rw [List.findSome?_cons, List.all_cons]; by_cases h : p a = true <;> simp [h, ih]
theorem range_all {α : Type} (l : List α) (d : α) (p : α → Bool) : (List.range l.length).all (fun i => p (l.getD i d)) = l.all p := by
  rw [Bool.eq_iff_iff, List.all_eq_true, List.all_eq_true]
  constructor
  · intro h x hx
    obtain ⟨i, hi, rfl⟩ := List.mem_iff_getElem.1 hx
    have := h i (List.mem_range.2 hi)
    rwa [List.getD_eq_getElem?_getD, List.getElem?_eq_getElem hi] at this
  · intro h i hi
    have hi' := List.mem_range.1 hi
    rw [List.getD_eq_getElem?_getD, List.getElem?_eq_getElem hi']
    exact h _ (List.getElem_mem hi')
/-- a loop over a list that leaves at the first element that fails -/
theorem loop_all {α : Type} (l : List α) (d : α) (st : Nat → X) (p : α → Bool) (z done : Z)
    (hs : ∀ i, i < l.length → s (st i) = some (if p (l.getD i d) = true then .inl (st (i + 1)) else .inr z)) (hd : s (st l.length) = some (.inr done)) :
    loopC s (st 0) = some (if l.all p = true then done else z) := by
  rw [loop_allI st l.length (fun i => p (l.getD i d)) z done hs hd, range_all]
/-- a loop that finds the first index that holds -/
theorem loop_idx {α : Type} (l : List α) (d : α) (st : Nat → X) (p : α → Bool) (found : Nat → Z) (done : Z)
    (hs : ∀ i, i < l.length → s (st i) = some (if p (l.getD i d) = true then .inr (found i) else .inl (st (i + 1)))) (hd : s (st l.length) = some (.inr done)) :
    loopC s (st 0) = some (if l.findIdx p < l.length then found (l.findIdx p) else done) := by
  have go : ∀ k i, i + k = l.length → (∀ j, j < i → p (l.getD j d) = false) → loopC s (st i) = some (if l.findIdx p < l.length then found (l.findIdx p) else done) := by
    intro k
    induction k with
    | zero =>
      intro i hi hp
      have : i = l.length := by omega
      subst this
      rw [loop_out hd, List.findIdx_eq_length_of_false, if_neg (by omega)]
      intro x hx
      obtain ⟨j, hj, rfl⟩ := List.mem_iff_getElem.1 hx
      have := hp j hj
      rwa [List.getD_eq_getElem?_getD, List.getElem?_eq_getElem hj] at this
    | succ k ih =>
      intro i hi hp
      have h := hs i (by omega)
      split at h
      · rename_i hpi
        have e : l.findIdx p = i := by
          rw [List.findIdx_eq (by omega)]
          rw [List.getD_eq_getElem?_getD, List.getElem?_eq_getElem (by omega)] at hpi
          refine ⟨hpi, fun j hj => ?_⟩
          have := hp j hj
          rwa [List.getD_eq_getElem?_getD, List.getElem?_eq_getElem (by omega)] at this
        rw [loop_out h, e, if_pos (by omega)]
      · rename_i hpi
        rw [loop_step h]
        refine ih (i + 1) (by omega) fun j hj => ?_
        by_cases hji : j = i
        · subst hji; simpa using hpi
        · exact hp j (by omega)
  exact go l.length 0 (by omega) (fun j hj => by omega)
/-- a counted loop that carries a thing along -/
theorem loop_acc {A : Type} (st : Nat → A → X) (n : Nat) (f : Nat → A → A) (I : Nat → A → Prop) (out : A → Z)
    (hs : ∀ i a, i < n → I i a → s (st i a) = some (.inl (st (i + 1) (f i a))) ∧ I (i + 1) (f i a)) (hd : ∀ a, I n a → s (st n a) = some (.inr (out a))) (a : A) (h0 : I 0 a) :
    loopC s (st 0 a) = some (out ((List.range n).foldl (fun a i => f i a) a)) ∧ I n ((List.range n).foldl (fun a i => f i a) a) := by
  have go : ∀ k i a, i + k = n → I i a → loopC s (st i a) = some (out ((List.range' i k).foldl (fun a i => f i a) a)) ∧ I n ((List.range' i k).foldl (fun a i => f i a) a) := by
    intro k
    induction k with
    | zero =>
      intro i a hi hI
      have : i = n := by omega
      subst this
      exact ⟨loop_out (hd a hI), hI⟩
    | succ k ih =>
      intro i a hi hI
      obtain ⟨h1, h2⟩ := hs i a (by omega) hI
      rw [loop_step h1, List.range'_succ, List.foldl_cons]
      exact ih (i + 1) _ (by omega) h2
  rw [List.range_eq_range']
  exact go n 0 a (by omega) h0
/-- a counted loop whose state is known at every turn -/
theorem loop_for (st : Nat → X) (n : Nat) (done : Z) (hs : ∀ i, i < n → s (st i) = some (.inl (st (i + 1)))) (hd : s (st n) = some (.inr done)) : loopC s (st 0) = some done := by
  rw [loop_find st n (fun _ => none) done (fun i hi => by rw [hs i hi]) hd]
  congr 1
  generalize List.range n = l
  induction l with
  | nil => rfl
  | cons a l ih => simpa using ih
end
/-- the first i of l, zeros behind -/
def fillTo {α : Type} (l : List α) (d : α) (i : Nat) : List α := l.take i ++ List.replicate (l.length - i) d
theorem fillTo_zero {α : Type} (l : List α) (d : α) : fillTo l d 0 = List.replicate l.length d := by simp [fillTo]
theorem fillTo_all {α : Type} (l : List α) (d : α) : fillTo l d l.length = l := by simp [fillTo]
theorem fillTo_length {α : Type} (l : List α) (d : α) {i : Nat} (h : i ≤ l.length) : (fillTo l d i).length = l.length := by simp [fillTo]; omega
theorem fillTo_set {α : Type} (l : List α) (d e : α) {i : Nat} (h : i < l.length) : (fillTo l d i).set i (l.getD i e) = fillTo l d (i + 1) := by
  rw [List.getD_eq_getElem?_getD, List.getElem?_eq_getElem h, Option.getD_some]
  apply List.ext_getElem?
  intro j
  unfold fillTo
  rw [List.getElem?_set]
  have m1 : (l.take i).length = i := by simp; omega
  have m2 : (l.take (i + 1)).length = i + 1 := by simp; omega
  have L : (l.take i ++ List.replicate (l.length - i) d).length = l.length := by simp; omega
  rw [L]
  by_cases hji : i = j
  · subst hji
    rw [if_pos rfl, if_pos h, List.getElem?_append_left (by omega), List.getElem?_take_of_lt (by omega), List.getElem?_eq_getElem h]
  · rw [if_neg hji]
    by_cases hj : j < i
    · rw [List.getElem?_append_left (by omega), List.getElem?_append_left (by omega), List.getElem?_take_of_lt hj, List.getElem?_take_of_lt (by omega)]
    · rw [List.getElem?_append_right (by omega), List.getElem?_append_right (by omega), m1, m2, List.getElem?_replicate, List.getElem?_replicate]
      by_cases h2 : j < l.length
      · rw [if_pos (by omega), if_pos (by omega)]
      · rw [if_neg (by omega), if_neg (by omega)]
end Go.Tree
namespace Go.Tree
set_option linter.unusedVariables false
set_option linter.unusedSimpArgs false

theorem big_len {n : Nat} (h : n ≤ 1048576) : n ≤ maxLen := by unfold maxLen; omega
/-- what a size says -/
def Sz (F : Option ((Int × Unit) × Unit × Unit)) (n : Int) (Q : Prop) : Prop := ∃ r : Int, F = some ((r, ()), (), ()) ∧ -1 ≤ r ∧ r ≤ n ∧ (0 ≤ r → Q)
theorem sub_len {n : Int} {k : Nat} (h0 : 0 ≤ n) (h1 : n ≤ 1048576) (hk : k ≤ maxLen) : w64 (n - (k : Int)) = n - k := by
  unfold maxLen at hk
  rw [w64_id] <;> omega
/-- size after size -/
theorem Sz.bind {F : Option ((Int × Unit) × Unit × Unit)} {n : Int} {Q R : Prop} (h : Sz F n Q) {G : (Int × Unit) × Unit × Unit → Option ((Int × Unit) × Unit × Unit)}
    (hG : ∀ r, 0 ≤ r → r ≤ n → Q → Sz (G ((r, ()), (), ())) n R) : Sz (F.bind fun r => br (decide (r.1.1 < (0 : Int))) (some (((-1 : Int), ()), (), ())) (G r)) n R := by
  obtain ⟨r, rfl, h1, h2, h3⟩ := h
  rw [Option.bind_some, br_ite]
  by_cases h : r < 0
  · rw [if_pos (by simpa using h)]; exact ⟨-1, rfl, by omega, by omega, by omega⟩
  · rw [if_neg (by simpa using h)]; exact hG r (by omega) h2 (h3 (by omega))
theorem Sz.mono {F : Option ((Int × Unit) × Unit × Unit)} {n m : Int} {Q R : Prop} (h : Sz F n Q) (hnm : n ≤ m) (hQ : Q → R) : Sz F m R := by
  obtain ⟨r, e, h1, h2, h3⟩ := h
  exact ⟨r, e, h1, by omega, fun h => hQ (h3 h)⟩
theorem Sz.ret {n r : Int} (h0 : 0 ≤ r) (h1 : r ≤ n) {Q : Prop} (hQ : Q) : Sz (some ((r, ()), (), ())) n Q := ⟨r, rfl, by omega, h1, fun _ => hQ⟩
end Go.Tree
namespace Go.Tree
set_option linter.unusedVariables false
set_option linter.unusedSimpArgs false
theorem strEq_refl (a : ByteArray) : strEq a a = true := by simp [strEq]
end Go.Tree
namespace Go.Tree
set_option linter.unusedVariables false
set_option linter.unusedSimpArgs false

theorem getD_mem {α : Type} {l : List α} {d : α} {i : Nat} (h : i < l.length) : l.getD i d ∈ l := by
  rw [List.getD_eq_getElem?_getD, List.getElem?_eq_getElem h]; exact List.getElem_mem h
abbrev inB (a lo hi : Int) : Bool := decide (lo ≤ a ∧ a ≤ hi)
def part (a b : Int) : Bool := bAndNot .i64 a b == 0
def setB (a : Int) : Bool := inB a 0 127
def fallN (bar : List Int) (k : Int) : Nat := bar.findIdx fun s => part k s

theorem l1In_eq (a b c : Int) : spec_l1In a b c = some ((inB a b c, ()), (), ()) := by
  simp only [spec_l1In, br_ite, decide_eq_true_eq]
  split <;> simp_all [inB]
  omega
def isBar (l : List Int) : Bool := l.all setB && inB l.length 1 40
/-- slices.ContainsFunc -/
theorem findIdx_lt {α : Type} (l : List α) (p : α → Bool) : decide (l.findIdx p < l.length) = l.any p := by
  rw [Bool.eq_iff_iff, decide_eq_true_eq, List.findIdx_lt_length, List.any_eq_true]
def idxOf {α : Type} (l : List α) (p : α → Bool) : Int := if l.findIdx p < l.length then (l.findIdx p : Int) else -1
theorem idxOf_ge {α : Type} (l : List α) (p : α → Bool) : decide (idxOf l p ≥ 0) = l.any p := by
  rw [← findIdx_lt]
  unfold idxOf
  split <;> simp_all
theorem between_eq {l : List Int} (hl : l.length ≤ 1048576) (a b : Int) : impl_between l a b = some ((l.all fun x => inB x a b, ()), (), ()) := by
  have h1 : ∀ x, impl_between_1 x a b = some ((!inB x a b, ()), (), ()) := fun x => by
    simp only [impl_between_1, br_ite, decide_eq_true_eq]
    split
    · simp only [inB]; rw [decide_eq_false (by omega)]; rfl
    · simp only [inB]; congr 3; rw [Bool.eq_iff_iff]; simp; omega
  have h := loop_idx (s := IndexFunc_int_impl_between_1_s0) l 0 (fun i => ((l, ((a, ()), (b, ()), ()), (l.length : Int), (i : Int), ()), (), ())) (fun x => !inB x a b) (fun i => .inl (((i : Int), ()), (), ())) (.inr ((), (), ())) (by
    intro i hi
    simp only [IndexFunc_int_impl_between_1_s0, Int.toNat_natCast, h1, Option.bind_some, br_ite, decide_eq_true_eq, Int.ofNat_lt]
    rw [if_pos hi, ck_pos (by omega), ck_pos hi, w64_succ hi (big_len hl)]
    split <;> rfl) (by
    simp only [IndexFunc_int_impl_between_1_s0, br_ite]
    rw [if_neg (by simp)])
  have h2 : IndexFunc_int_impl_between_1 l a b = some ((idxOf l (fun x => !inB x a b), ()), (), ()) := by
    refine (congrArg (fun o => Option.bind o fun r5 => sumK r5 (fun y8 => some ((y8.1.1, ()), (), ())) (fun y9 => some (((-1 : Int), ()), (), ()))) h).trans ?_
    simp only [Option.bind_some, sumK_ite, sumK_inl, sumK_inr, idxOf]
    split <;> rfl
  simp only [impl_between, ContainsFunc_int_impl_between_1, h2, Option.bind_some, idxOf_ge]
  congr 3
  rw [Bool.eq_iff_iff]; simp
def sortsAll (l : List Int) : Bool := (List.range l.length).all (fun i => fallN l (l.getD i 0) == i) && isBar l
end Go.Tree
namespace Go.Tree
set_option linter.unusedVariables false
set_option linter.unusedSimpArgs false

theorem byte_range (s : ByteArray) (i : Nat) : 0 ≤ byteAt s i ∧ byteAt s i ≤ 255 := by
  unfold byteAt
  have := (s.data.toList.getD i 0).toNat_lt
  omega
/-- letter number i is fit, and new -/
def letterB (s : ByteArray) (i : Nat) : Bool := decide (33 ≤ byteAt s i) && (decide (byteAt s i ≤ 126) && (List.range i).all fun j => byteAt s i != byteAt s j)
def fontOk (s : ByteArray) (ws so : List Int) : Bool :=
  inB s.size 1 40 && (ws.length == s.size && (so.length == s.size && (sortsAll so && ((List.range s.size).all (fun i => letterB s i) && ws.all fun x => inB x 1 60))))

/-- the letters seen before place i -/
def seenB (s : ByteArray) (i : Nat) : List Bool := (List.range 256).map fun b : Nat => (List.range i).any fun j => byteAt s j == (b : Int)
theorem seenB_get (s : ByteArray) (i b : Nat) (hb : b < 256) : (seenB s i).getD b false = (List.range i).any fun j => byteAt s j == (b : Int) := by
  rw [List.getD_eq_getElem?_getD]; simp [seenB, hb]
theorem seenB_set (s : ByteArray) (i : Nat) : (seenB s i).set (byteAt s i).toNat true = seenB s (i + 1) := by
  have hr := byte_range s i
  apply List.ext_getElem?
  intro b
  rw [List.getElem?_set]
  have hl : (seenB s i).length = 256 := by simp [seenB]
  by_cases e : (byteAt s i).toNat = b
  · rw [if_pos e, if_pos (by omega)]
    subst e
    rw [seenB, List.getElem?_map, List.getElem?_range (by omega), Option.map_some, List.range_succ, List.any_append]
    simp; omega
  · rw [if_neg e, seenB, seenB, List.getElem?_map, List.getElem?_map]
    by_cases hb : b < 256
    · rw [List.getElem?_range hb, Option.map_some, Option.map_some, List.range_succ, List.any_append]
      have : (byteAt s i == (b : Int)) = false := by simp; omega
      simp [this]
    · rw [List.getElem?_eq_none (by simp; omega)]; rfl
theorem seenB_len (s : ByteArray) (i : Nat) : (seenB s i).length = 256 := by simp [seenB]
end Go.Tree
namespace Go.Tree
set_option linter.unusedVariables false
set_option linter.unusedSimpArgs false

def ofFont (s : ByteArray) (so : List Int) (m : Int × Int) : Bool := decide (0 ≤ m.1 ∧ m.1 < s.size) && (setB m.2 && part m.2 (so.getD m.1.toNat 0))
def colB (s : ByteArray) (so : List Int) (c : List (Int × Int)) : Bool := decide ((c.length : Int) ≤ 20) && c.all (ofFont s so)
def magOk (s : ByteArray) (ws so : List Int) (d : List (List (Int × Int))) : Bool := fontOk s ws so && (d.length == s.size && d.all (colB s so))
theorem fontOk_len {s : ByteArray} {ws so : List Int} (h : fontOk s ws so = true) : ws.length = s.size ∧ so.length = s.size ∧ (∀ x ∈ ws, 1 ≤ x ∧ x ≤ 60) := by
  simp only [fontOk, Bool.and_eq_true, beq_iff_eq, List.all_eq_true] at h
  obtain ⟨_, h1, h2, _, _, h3⟩ := h
  exact ⟨h1, h2, fun x hx => by simpa [inB] using h3 x hx⟩
section
variable {s : ByteArray} {ws so : List Int} {d : List (List (Int × Int))} (hs : s.size ≤ 1048576) (hw : ws.length ≤ 1048576) (ho : so.length ≤ 1048576) (hd : d.length ≤ 1048576) (hd' : ∀ c ∈ d, c.length ≤ 1048576)
include hs hw ho hd hd'
end
def measOk (a b c : Int) : Bool := inB a 1 2000 && (inB b 1 100 && inB c b 100)
theorem specMeasureOk_eq (a b c : Int) : spec_MeasureOk a b c = some ((measOk a b c, ()), (), ()) := by
  simp only [spec_MeasureOk, l1In_eq, Option.bind_some, measOk]
  cases inB a 1 2000 <;> cases inB b 1 100 <;> rfl
theorem implMeasureOk_eq (a b c : Int) : impl_MeasureOk a b c = some ((measOk a b c, ()), (), ()) := by
  have e : ∀ x lo hi : Int, inB x lo hi = (decide (x ≥ lo) && decide (x ≤ hi)) := fun x lo hi => by simp [inB]
  simp only [impl_MeasureOk, measOk, e]
  cases decide (a ≥ 1) <;> cases decide (a ≤ 2000) <;> cases decide (b ≥ 1) <;> cases decide (b ≤ 100) <;> cases decide (c ≥ b) <;> rfl
/-- a band -/
def bandB (m : Int × Int) : Bool := m.1 == -1 && m.2 == 0
def widOf (ws : List Int) (m : Int × Int) : Int := if m.1 < 0 then 0 else ws.getD m.1.toNat 0
theorem map_take_succ {α β : Type} (l : List α) (d : α) (f : α → β) {i : Nat} (h : i < l.length) : (l.take i).map f ++ [f (l.getD i d)] = (l.take (i + 1)).map f := by
  rw [List.take_succ_eq_append_getElem h, List.map_append, List.getD_eq_getElem?_getD, List.getElem?_eq_getElem h]; rfl
section
variable {s : ByteArray} {ws so : List Int} (e1 : ws.length = s.size) {l : List (Int × Int)} (hl : l.length ≤ 1048576) (hall : ∀ m ∈ l, (bandB m || ofFont s so m) = true)
include e1 hall
theorem letter_ok {i : Nat} (hi : i < l.length) (h : ¬ (l.getD i (0, 0)).1 < 0) : (l.getD i (0, 0)).1.toNat < ws.length := by
  have := hall _ (getD_mem (d := (0, 0)) hi)
  simp only [bandB, ofFont, Bool.or_eq_true, Bool.and_eq_true, beq_iff_eq, decide_eq_true_eq] at this
  omega
include hl
end
end Go.Tree
namespace Go.Tree
set_option linter.unusedVariables false
set_option linter.unusedSimpArgs false

/-- letters together, and bands -/
def sumStep (l : List Int) (i : Nat) (a : Int × Int) : Int × Int := (w64 (a.1 + l.getD i 0), if l.getD i 0 == 0 then w64 (a.2 + 1) else a.2)
def sumW (l : List Int) : Int × Int := (List.range l.length).foldl (fun a i => sumStep l i a) (0, 0)
theorem sumW_range {l : List Int} (hl : l.length ≤ 1048576) (hr : ∀ x ∈ l, 0 ≤ x ∧ x ≤ 60) : 0 ≤ (sumW l).1 ∧ (sumW l).1 ≤ 60 * l.length ∧ 0 ≤ (sumW l).2 ∧ (sumW l).2 ≤ l.length := by
  have go : ∀ n, n ≤ l.length → 0 ≤ ((List.range n).foldl (fun a i => sumStep l i a) (0, 0)).1 ∧ ((List.range n).foldl (fun a i => sumStep l i a) (0, 0)).1 ≤ 60 * n ∧
      0 ≤ ((List.range n).foldl (fun a i => sumStep l i a) (0, 0)).2 ∧ ((List.range n).foldl (fun a i => sumStep l i a) (0, 0)).2 ≤ n := by
    intro n
    induction n with
    | zero => intro _; simp
    | succ n ih =>
      intro hn
      have := ih (by omega)
      rw [List.range_succ, List.foldl_append, List.foldl_cons, List.foldl_nil]
      generalize (List.range n).foldl (fun a i => sumStep l i a) (0, 0) = a at this
      have hx := hr _ (getD_mem (d := 0) (show n < l.length by omega))
      unfold sumStep
      simp only
      rw [w64_id (by omega) (by omega), w64_id (by omega) (by omega)]
      split <;> omega
  exact go l.length (Nat.le_refl _)
def lineOk (l : List Int) : Bool := decide ((l.length : Int) ≤ 120) && l.all fun x => inB x 0 60
theorem specLineOk_eq {l : List Int} (hl : l.length ≤ 1048576) : spec_LineOk l = some ((lineOk l, ()), (), ()) := by
  have h := loop_all (s := spec_LineOk_s0) l 0 (fun i => ((l, l, (l.length : Int), (i : Int), ()), (), ())) (fun x => inB x 0 60) (.inl ((false, ()), (), ())) (.inr ((l, ()), (), ())) (by
    intro i hi
    simp only [spec_LineOk_s0, Int.toNat_natCast, l1In_eq, Option.bind_some, br_ite]
    rw [if_pos (by simpa using hi), ck_pos (by omega), ck_pos hi, w64_succ hi (big_len hl)]
    cases inB (l.getD i 0) 0 60 <;> rfl) (by
    simp only [spec_LineOk_s0, br_ite]
    rw [if_neg (by simp)])
  refine (congrArg (fun o => Option.bind o fun r5 => sumK r5 (fun y8 => some ((y8.1.1, ()), (), ())) (fun y9 => let x10 : Bool := decide ((y9.1.1.length : Int) ≤ (120 : Int)); some ((x10, ()), (), ()))) h).trans ?_
  simp only [Option.bind_some, sumK_ite, sumK_inl, sumK_inr, lineOk]
  cases (l.all fun x => inB x 0 60) <;> simp
theorem implLineOk_eq {l : List Int} (hl : l.length ≤ 1048576) : impl_LineOk l = some ((lineOk l, ()), (), ()) := by
  simp only [impl_LineOk, between_eq hl, Option.bind_some, lineOk]
  cases decide ((l.length : Int) ≤ 120) <;> rfl
/-- there is room -/
def fitsB (a b c : Int) (l : List Int) : Bool := lineOk l && decide ((sumW l).1 + (sumW l).2 * b ≤ a)
theorem lineOk_range {l : List Int} (h : lineOk l = true) : l.length ≤ 120 ∧ ∀ x ∈ l, 0 ≤ x ∧ x ≤ 60 := by
  simp only [lineOk, Bool.and_eq_true, decide_eq_true_eq, List.all_eq_true] at h
  exact ⟨by omega, fun x hx => by simpa [inB] using h.2 x hx⟩
theorem mul_range {x y : Int} (h1 : 0 ≤ x) (h2 : x ≤ 120) (h3 : 0 ≤ y) (h4 : y ≤ 100) : 0 ≤ x * y ∧ x * y ≤ 12000 :=
  ⟨Int.mul_nonneg h1 h3, Int.le_trans (Int.mul_le_mul h2 h4 h3 (by omega)) (by omega)⟩
def goodB (s : ByteArray) (so : List Int) (m : Int × Int) : Bool := bandB m || ofFont s so m
def machOk (s : ByteArray) (ws so : List Int) (d : List (List (Int × Int))) (e a b c : Int) (f g : List (Int × Int)) : Bool :=
  magOk s ws so d && (inB e 0 60 && (measOk a b c && (decide ((g.length : Int) ≤ 240) && (f.all (goodB s so) && (g.all (ofFont s so) && fitsB a b c (f.map (widOf ws)))))))
section
variable {s : ByteArray} {ws so : List Int} {d : List (List (Int × Int))} {e a b c : Int} {f g : List (Int × Int)} (hs : s.size ≤ 1048576) (hw : ws.length ≤ 1048576) (ho : so.length ≤ 1048576) (hd : d.length ≤ 1048576) (hd' : ∀ c ∈ d, c.length ≤ 1048576)
  (hf : f.length ≤ 1048576) (hg : g.length ≤ 1048576)
include hs hw ho hd hd' hf hg
end
end Go.Tree
namespace Go.Tree
set_option linter.unusedVariables false
/-- k rounds from number i on -/
def runF {A : Type} (f : Nat → A → Option A) : Nat → Nat → A → Option A
  | i, 0, a => some a
  | i, k + 1, a => (f i a).bind (runF f (i + 1) k)
theorem loop_run {A X Z : Type} {s : X → Option (X ⊕ Z)} (st : Nat → A → X) (n : Nat) (f : Nat → A → Option A) (I : Nat → A → Prop) (fail : Z) (out : A → Z)
    (hs : ∀ i a, i < n → I i a → s (st i a) = some (match f i a with | some b => .inl (st (i + 1) b) | none => .inr fail) ∧ ∀ b, f i a = some b → I (i + 1) b)
    (hd : ∀ a, I n a → s (st n a) = some (.inr (out a))) : ∀ (k i : Nat) (a : A), i + k = n → I i a →
    loopC s (st i a) = some (match runF f i k a with | some b => out b | none => fail) ∧ ∀ b, runF f i k a = some b → I n b
  | 0, i, a, e, h => by
    have : i = n := by omega
    subst this
    refine ⟨?_, fun b hb => ?_⟩
    · rw [loop_out (hd a h)]; rfl
    · cases hb; exact h
  | k + 1, i, a, e, h => by
    obtain ⟨h1, h2⟩ := hs i a (by omega) h
    simp only [runF]
    cases hf : f i a with
    | none => rw [hf] at h1; exact ⟨loop_out h1, fun b hb => by cases hb⟩
    | some c =>
      rw [hf] at h1
      rw [loop_step h1]
      exact loop_run st n f I fail out hs hd k (i + 1) c (by omega) (h2 c hf)
end Go.Tree
namespace Go.Tree
set_option linter.unusedVariables false
set_option linter.unusedSimpArgs false
def sumI (l : List Int) : Int := l.foldl (fun s x => w64 (s + x)) 0
theorem sumI_succ {l : List Int} {i : Nat} (h : i < l.length) : w64 (sumI (l.take i) + l.getD i 0) = sumI (l.take (i + 1)) := by
  rw [List.getD_eq_getElem?_getD, List.getElem?_eq_getElem h]
  unfold sumI
  rw [List.take_succ_eq_append_getElem h, List.foldl_append]
  rfl
def restI (a b : Int) (l : List Int) : Int := w64 (w64 (a - sumI l) - w64 (w64 ((l.length : Int) - 1) * b))
/-- the kind of a line: 0 does not fit, 1 is loose, 2 is full -/
def kindN (a b c : Int) (l : List Int) : Int :=
  let g := w64 ((l.length : Int) - 1)
  let r := restI a b l
  if r < 0 then 0 else
    let rise := if g = 0 then 0 else (if w64 (c - b) < w64 (r.tdiv g) then w64 (c - b) else w64 (r.tdiv g))
    let left := w64 (r - w64 (g * rise))
    if left = 0 ∨ left < g then 2 else 1
theorem implSum_eq {l : List Int} (hl : l.length ≤ 1048576) : impl_sum l = some ((sumI l, ()), (), ()) := by
  have h := loop_for (s := impl_sum_s0) (fun i => ((sumI (l.take i), l, (l.length : Int), (i : Int), ()), (), ())) l.length ((sumI l, ()), (), ()) (by
    intro i hi
    simp only [impl_sum_s0, Int.toNat_natCast]
    rw [decide_eq_true (by omega), br_true, ck_pos (by omega), ck_pos hi, sumI_succ hi, w64_succ hi (big_len hl)]) (by
    simp only [impl_sum_s0]
    rw [decide_eq_false (by omega), br_false, List.take_length])
  exact congrArg (fun o => Option.bind o _) h
/-- how a line is spread: the rise, what is left, whether it fits -/
def spreadN (a b c s g : Int) : Int × Int × Bool :=
  let r := w64 (w64 (a - s) - w64 (g * b))
  if r < 0 then (0, 0, false) else
    let rise := if g > 0 then (if w64 (r.tdiv g) < w64 (c - b) then w64 (r.tdiv g) else w64 (c - b)) else 0
    (rise, w64 (r - w64 (g * rise)), true)
theorem implSpreadW_eq (a b c s g : Int) : impl_spread a b c s g = some (((spreadN a b c s g).1, (spreadN a b c s g).2.1, (spreadN a b c s g).2.2, ()), (), ()) := by
  simp only [impl_spread, spreadN]
  generalize w64 (w64 (a - s) - w64 (g * b)) = r
  by_cases hr : r < 0
  · rw [decide_eq_true hr, br_true]; simp only [if_pos hr]
  · rw [decide_eq_false hr, br_false]; simp only [if_neg hr]
    by_cases hg : g > 0
    · rw [decide_eq_true hg, br_true, ck_pos (by omega)]; simp only [if_pos hg]
    · rw [decide_eq_false hg, br_false]; simp only [if_neg hg]
theorem implKind_eq (a b c : Int) {l : List Int} (hl : l.length ≤ 1048576) (h1 : 1 ≤ l.length) : impl_kindOf a b c l = some ((kindN a b c l, ()), (), ()) := by
  have hg : w64 ((l.length : Int) - 1) = (l.length : Int) - 1 := w64_id (by omega) (by omega)
  simp only [impl_kindOf, impl_full, implSum_eq hl, implSpreadW_eq, Option.bind_some, kindN, hg, spreadN, restI]
  generalize w64 (w64 (a - sumI l) - w64 (((l.length : Int) - 1) * b)) = r
  by_cases hr : r < 0
  · simp only [if_pos hr, Bool.not_false, br_true]
  · simp only [if_neg hr, Bool.not_true, br_false, br_true]
    have e : (if (l.length : Int) - 1 > 0 then (if w64 (r.tdiv ((l.length : Int) - 1)) < w64 (c - b) then w64 (r.tdiv ((l.length : Int) - 1)) else w64 (c - b)) else 0) =
        (if (l.length : Int) - 1 = 0 then 0 else (if w64 (c - b) < w64 (r.tdiv ((l.length : Int) - 1)) then w64 (c - b) else w64 (r.tdiv ((l.length : Int) - 1)))) := by
      by_cases h0 : (l.length : Int) - 1 = 0
      · rw [if_pos h0, if_neg (by omega)]
      · rw [if_neg h0, if_pos (by omega)]
        generalize w64 (r.tdiv ((l.length : Int) - 1)) = x
        generalize w64 (c - b) = y
        by_cases h2 : x < y
        · rw [if_pos h2, if_neg (by omega)]
        · rw [if_neg h2]
          by_cases h3 : y < x
          · rw [if_pos h3]
          · rw [if_neg h3]; omega
    rw [e]
    generalize (if (l.length : Int) - 1 = 0 then 0 else (if w64 (c - b) < w64 (r.tdiv ((l.length : Int) - 1)) then w64 (c - b) else w64 (r.tdiv ((l.length : Int) - 1)))) = rise
    generalize w64 (r - w64 (((l.length : Int) - 1) * rise)) = e
    by_cases h1 : e = 0
    · rw [beq_iff_eq.2 h1, br_true, Option.bind_some, br_true, if_pos (.inl h1)]
    · rw [beq_eq_false_iff_ne.2 h1, br_false, Option.bind_some]
      by_cases h2 : e < (l.length : Int) - 1
      · rw [decide_eq_true h2, br_true, if_pos (.inr h2)]
      · rw [decide_eq_false h2, br_false, if_neg (by rintro (h | h) <;> contradiction)]
theorem ite12 (p : Prop) [Decidable p] : (if p then (2 : Int) else 1) = 1 ∨ (if p then (2 : Int) else 1) = 2 := by split <;> simp
theorem kindN_cases (a b c : Int) (l : List Int) : kindN a b c l = 0 ∨ kindN a b c l = 1 ∨ kindN a b c l = 2 := by
  simp only [kindN]
  by_cases hr : restI a b l < 0
  · rw [if_pos hr]; exact .inl rfl
  · rw [if_neg hr]; exact .inr (ite12 _)
/-- the words of the line behind number p -/
def lineK (a b c : Int) (w : List Int) (p : Nat) (n : Int) : Int := kindN a b c (cut w p (p + n.toNat))
def stS (a b c : Int) (w lines : List Int) (i p : Nat) : Option Nat :=
  if inB (lines.getD i 0) 1 ((w.length : Int) - p) = true ∧ lineK a b c w p (lines.getD i 0) ≠ 0 ∧ ¬ (lineK a b c w p (lines.getD i 0) = 1 ∧ p + (lines.getD i 0).toNat < w.length) then some (p + (lines.getD i 0).toNat) else none
def stI (a b c : Int) (w lines : List Int) (i p : Nat) : Option Nat :=
  if inB (lines.getD i 0) 1 ((w.length : Int) - p) = true ∧ (i + 1 = lines.length → lineK a b c w p (lines.getD i 0) ≠ 0) ∧ (i + 1 < lines.length → lineK a b c w p (lines.getD i 0) = 2) then some (p + (lines.getD i 0).toNat) else none
def endB (w : List Int) : Option Nat → Bool | some p => p == w.length | none => false
theorem st_same (a b c : Int) (w lines : List Int) : ∀ (k i p : Nat), i + k = lines.length → p ≤ w.length → endB w (runF (stS a b c w lines) i k p) = endB w (runF (stI a b c w lines) i k p)
  | 0, i, p, e, hp => rfl
  | k + 1, i, p, e, hp => by
    simp only [runF]
    by_cases hn : inB (lines.getD i 0) 1 ((w.length : Int) - p) = true
    · have hn' : 1 ≤ lines.getD i 0 ∧ lines.getD i 0 ≤ (w.length : Int) - p := by simpa [inB] using hn
      have hp' : p + (lines.getD i 0).toNat ≤ w.length := by omega
      have ih := st_same a b c w lines k (i + 1) (p + (lines.getD i 0).toNat) (by omega) hp'
      have fall : stS a b c w lines i p = none → stI a b c w lines i p = none → endB w ((stS a b c w lines i p).bind (runF (stS a b c w lines) (i + 1) k)) = endB w ((stI a b c w lines i p).bind (runF (stI a b c w lines) (i + 1) k)) := fun h1 h2 => by rw [h1, h2]; rfl
      rcases kindN_cases a b c (cut w p (p + (lines.getD i 0).toNat)) with hk | hk | hk <;> replace hk : lineK a b c w p (lines.getD i 0) = _ := hk
      · refine fall ?_ ?_
        · unfold stS; rw [hk, if_neg (by rintro ⟨_, h, _⟩; exact h rfl)]
        · unfold stI; rw [hk, if_neg (by
            rintro ⟨_, h1, h2⟩
            by_cases hl : i + 1 = lines.length
            · exact h1 hl rfl
            · exact absurd (h2 (by omega)) (by decide))]
      · by_cases hlast : i + 1 = lines.length
        · have hI : stI a b c w lines i p = some (p + (lines.getD i 0).toNat) := by
            unfold stI; rw [hk, if_pos ⟨hn, fun _ => by decide, fun h => by omega⟩]
          obtain rfl : k = 0 := by omega
          rw [hI]
          by_cases hlt : p + (lines.getD i 0).toNat < w.length
          · have hS : stS a b c w lines i p = none := by unfold stS; rw [hk, if_neg (by rintro ⟨_, _, h⟩; exact h ⟨rfl, hlt⟩)]
            rw [hS]
            show false = (p + (lines.getD i 0).toNat == w.length)
            exact (beq_eq_false_iff_ne.2 (by omega)).symm
          · have hS : stS a b c w lines i p = some (p + (lines.getD i 0).toNat) := by unfold stS; rw [hk, if_pos ⟨hn, by decide, fun h => hlt h.2⟩]
            rw [hS]; rfl
        · have hI : stI a b c w lines i p = none := by
            unfold stI; rw [hk, if_neg (by rintro ⟨_, _, h⟩; exact absurd (h (by omega)) (by decide))]
          rw [hI]
          by_cases hlt : p + (lines.getD i 0).toNat < w.length
          · have hS : stS a b c w lines i p = none := by unfold stS; rw [hk, if_neg (by rintro ⟨_, _, h⟩; exact h ⟨rfl, hlt⟩)]
            rw [hS]; rfl
          · have hS : stS a b c w lines i p = some (p + (lines.getD i 0).toNat) := by unfold stS; rw [hk, if_pos ⟨hn, by decide, fun h => hlt h.2⟩]
            rw [hS, Option.bind_some]
            obtain ⟨k', rfl⟩ : ∃ k', k = k' + 1 := ⟨k - 1, by omega⟩
            have hn2 : ¬ inB (lines.getD (i + 1) 0) 1 ((w.length : Int) - ((p + (lines.getD i 0).toNat : Nat) : Int)) = true := by
              unfold inB
              rw [decide_eq_true_eq]
              omega
            have hS2 : stS a b c w lines (i + 1) (p + (lines.getD i 0).toNat) = none := by
              unfold stS; rw [if_neg (fun h => hn2 h.1)]
            simp only [runF, hS2]; rfl
      · have hS : stS a b c w lines i p = some (p + (lines.getD i 0).toNat) := by unfold stS; rw [hk, if_pos ⟨hn, by decide, fun h => absurd h.1 (by decide)⟩]
        have hI : stI a b c w lines i p = some (p + (lines.getD i 0).toNat) := by unfold stI; rw [hk, if_pos ⟨hn, fun _ => by decide, fun _ => rfl⟩]
        rw [hS, hI]; exact ih
    · have hS : stS a b c w lines i p = none := by unfold stS; rw [if_neg (fun h => hn h.1)]
      have hI : stI a b c w lines i p = none := by unfold stI; rw [if_neg (fun h => hn h.1)]
      rw [hS, hI]; rfl
def textOk (w : List Int) : Bool := inB w.length 1 40 && w.all fun x => inB x 1 2000
theorem specText_loop {w : List Int} (hw : w.length ≤ 1048576) : loopC spec_TextOk_s0 ((w, w, (w.length : Int), (0 : Int), ()), (), ()) = some (if (w.all fun x => inB x 1 2000) = true then .inr ((w, ()), (), ()) else .inl ((false, ()), (), ())) :=
  loop_all (s := spec_TextOk_s0) w 0 (fun i => ((w, w, (w.length : Int), (i : Int), ()), (), ())) (fun x => inB x 1 2000) (.inl ((false, ()), (), ())) (.inr ((w, ()), (), ())) (by
    intro i hi
    simp only [spec_TextOk_s0, Int.toNat_natCast, l1In_eq, Option.bind_some]
    rw [decide_eq_true (by omega), br_true, ck_pos (by omega), ck_pos hi, w64_succ hi (big_len hw)]
    cases inB (w.getD i 0) 1 2000 <;> rfl) (by
    simp only [spec_TextOk_s0]
    rw [decide_eq_false (by omega), br_false])
theorem specTextOk_eq {w : List Int} (hw : w.length ≤ 1048576) : spec_TextOk w = some ((textOk w, ()), (), ()) := by
  simp only [spec_TextOk, specText_loop hw, Option.bind_some, textOk]
  cases h : w.all fun x => inB x 1 2000 with
  | false => simp
  | true => simp only [if_true, sumK_inr, l1In_eq, Option.bind_some, Bool.and_true]
theorem implTextOk_eq {w : List Int} (hw : w.length ≤ 1048576) : impl_TextOk w = some ((textOk w, ()), (), ()) := by
  have e : ∀ x lo hi : Int, inB x lo hi = (decide (x ≥ lo) && decide (x ≤ hi)) := fun x lo hi => by simp [inB]
  simp only [impl_TextOk, between_eq hw, Option.bind_some, textOk]
  rw [e (w.length : Int) 1 40]
  cases decide ((w.length : Int) ≥ 1) <;> cases decide ((w.length : Int) ≤ 40) <;> rfl
def brkB (a b c : Int) (w lines : List Int) : Bool := measOk a b c && (textOk w && endB w (runF (stS a b c w lines) 0 lines.length 0))
theorem both_eq (a b c : Int) {w : List Int} (hw : w.length ≤ 1048576) : impl_both a b c w = some ((measOk a b c && textOk w, ()), (), ()) := by
  simp only [impl_both, implMeasureOk_eq, implTextOk_eq hw, Option.bind_some]
  cases measOk a b c <;> rfl
theorem end_br (w : List Int) (o : Option Nat) : sumK (match o with | some p => (.inr ((w, (p : Int), ()), (), ()) : (((Bool × Unit) × Unit × Unit) ⊕ ((List Int × Int × Unit) × Unit × Unit))) | none => .inl ((false, ()), (), ()))
    (fun y17 => some ((y17.1.1, ()), (), ())) (fun y18 => let x19 : Bool := y18.1.2.1 == (y18.1.1.length : Int); some ((x19, ()), (), ())) = some ((endB w o, ()), (), ()) := by
  cases o with
  | none => rfl
  | some p =>
    show some (((p : Int) == (w.length : Int), ()), (), ()) = some ((p == w.length, ()), (), ())
    have : ((p : Int) == (w.length : Int)) = (p == w.length) := by
      rw [Bool.eq_iff_iff, beq_iff_eq, beq_iff_eq]; omega
    rw [this]
end Go.Tree
namespace Go.Tree
open Go
set_option linter.unusedVariables false
set_option linter.unusedSimpArgs false
def CurOk (h : List Int) (p : Int) : Prop := h.length ≤ 1048576 ∧ 0 ≤ p ∧ p ≤ h.length
theorem bAnd_255 (x : Int) : 0 ≤ bAnd .i64 x 255 ∧ bAnd .i64 x 255 ≤ 255 := by
  have h : (BitVec.ofInt 64 x &&& BitVec.ofInt 64 255).toNat ≤ 255 := by
    rw [BitVec.toNat_and]
    exact Nat.le_trans Nat.and_le_right (by decide)
  have e : bAnd .i64 x 255 = w64 (((BitVec.ofInt 64 x &&& BitVec.ofInt 64 255).toNat : Nat) : Int) := rfl
  rw [e, w64_id (by omega) (by omega)]
  omega
theorem byte_ex {h : List Int} {p : Int} (c : CurOk h p) (s : Int) : ∃ v p' s', spec_l01Byte h p s = some ((v, (), ()), ((h, p', s', ()), ()), ()) ∧ 0 ≤ v ∧ v ≤ 255 ∧ CurOk h p' := by
  obtain ⟨c1, c2, c3⟩ := c
  simp only [spec_l01Byte]
  by_cases hp : p < (h.length : Int)
  · rw [decide_eq_true hp, br_true, ck_pos c2, ck_pos (by omega)]
    exact ⟨_, _, _, rfl, (bAnd_255 _).1, (bAnd_255 _).2, c1, by rw [w64_id (by omega) (by omega)]; omega, by rw [w64_id (by omega) (by omega)]; omega⟩
  · rw [decide_eq_false hp, br_false]
    exact ⟨_, _, _, rfl, (bAnd_255 _).1, (bAnd_255 _).2, c1, c2, c3⟩
theorem tmod_pos {x n : Int} (h0 : 0 ≤ x) (hn : 0 < n) : 0 ≤ x.tmod n ∧ x.tmod n < n := ⟨Int.tmod_nonneg _ h0, Int.tmod_lt_of_pos _ hn⟩
theorem below_ex {h : List Int} {p : Int} (c : CurOk h p) (s n : Int) : ∃ v p' s', spec_l01Below n h p s = some ((v, (), ()), ((h, p', s', ()), ()), ()) ∧ CurOk h p' ∧ 0 ≤ v ∧ (0 < n → v < n) ∧ (n ≤ 0 → v = 0) := by
  simp only [spec_l01Below]
  by_cases h0 : n ≤ 0
  · rw [decide_eq_true h0, br_true]
    exact ⟨_, _, _, rfl, c, Int.le_refl _, fun h => by omega, fun _ => rfl⟩
  · rw [decide_eq_false h0, br_false]
    by_cases h1 : n ≤ 256
    · rw [decide_eq_true h1, br_true]
      obtain ⟨v, p', s', e, v0, v1, c'⟩ := byte_ex c s
      rw [e, Option.bind_some, ck_pos (by omega)]
      obtain ⟨m0, m1⟩ := tmod_pos v0 (show 0 < n by omega)
      exact ⟨_, _, _, rfl, c', m0, fun _ => m1, fun h => by omega⟩
    · rw [decide_eq_false h1, br_false]
      obtain ⟨v1, p1, s1, e1, a1, b1, c1⟩ := byte_ex c s
      rw [e1, Option.bind_some]
      obtain ⟨v2, p2, s2, e2, a2, b2, c2⟩ := byte_ex c1 s1
      simp only [e2, Option.bind_some]
      obtain ⟨v3, p3, s3, e3, a3, b3, c3⟩ := byte_ex c2 s2
      simp only [e3, Option.bind_some]
      obtain ⟨v4, p4, s4, e4, a4, b4, c4⟩ := byte_ex c3 s3
      simp only [e4, Option.bind_some]
      rw [ck_pos (by omega), w64_id (x := v1 * 16777216) (by omega) (by omega), w64_id (x := v2 * 65536) (by omega) (by omega), w64_id (x := v1 * 16777216 + v2 * 65536) (by omega) (by omega), w64_id (x := v3 * 256) (by omega) (by omega),
        w64_id (x := v1 * 16777216 + v2 * 65536 + v3 * 256) (by omega) (by omega), w64_id (x := v1 * 16777216 + v2 * 65536 + v3 * 256 + v4) (by omega) (by omega)]
      obtain ⟨m0, m1⟩ := tmod_pos (show 0 ≤ v1 * 16777216 + v2 * 65536 + v3 * 256 + v4 by omega) (show 0 < n by omega)
      exact ⟨_, _, _, rfl, c4, m0, fun _ => m1, fun h => by omega⟩
theorem new_ex {code : List Int} (hl : code.length ≤ 1048576) : ∃ s, spec_l01New code = some (((), ()), ((code, 0, s, ()), ()), ()) ∧ CurOk code 0 := by
  obtain ⟨z, hz, hs, rfl⟩ := loopC_rule (step := spec_l01New_s0) (fun x => ∃ (c : Int) (i : Nat), x = ((code, c, (i : Int), ()), (), ()) ∧ i ≤ code.length) (fun x => code.length - x.1.2.2.1.toNat) (fun z => ∃ s, z = ((code, s, ()), (), ())) (by
    rintro _ ⟨c, i, rfl, hi⟩
    simp only [spec_l01New_s0, Int.toNat_natCast]
    by_cases h1 : i < code.length
    · rw [decide_eq_true (by omega), br_true]
      by_cases h2 : (i : Int) < 4000
      · rw [decide_eq_true h2, br_true, ck_pos (by omega), ck_pos h1, w64_succ h1 (by unfold maxLen; omega)]
        exact .inl ⟨_, rfl, ⟨_, i + 1, rfl, by omega⟩, by simp only [Int.toNat_natCast]; omega⟩
      · rw [decide_eq_false h2, br_false]
        exact .inr ⟨_, rfl, _, rfl⟩
    · rw [decide_eq_false (by omega), br_false]
      exact .inr ⟨_, rfl, _, rfl⟩) code.length ((code, w64 (3230 + (code.length : Int)), (0 : Int), ()), (), ()) (by simp) ⟨_, 0, rfl, by omega⟩
  refine ⟨hs, ?_, hl, Int.le_refl _, by omega⟩
  simp only [spec_l01New, hz, Option.bind_some]
theorem once_ex {h : List Int} {p : Int} (c : CurOk h p) (s n : Int) : ∃ v p' s', spec_l01Once n h p s = some ((v, (), ()), ((h, p', s', ()), ()), ()) ∧ CurOk h p' := by
  obtain ⟨v, p', s', e, c', _⟩ := below_ex c s n
  exact ⟨v == 0, p', s', by simp only [spec_l01Once, e, Option.bind_some], c'⟩
end Go.Tree
namespace Go.Tree
set_option linter.unusedVariables false
set_option linter.unusedSimpArgs false
theorem int_ex {h : List Int} {p : Int} (c : CurOk h p) (s : Int) {l : List Int} (h1 : 1 ≤ l.length) : ∃ v p' s', spec_l01Int l h p s = some ((v, (), ()), ((h, p', s', ()), ()), ()) ∧ CurOk h p' := by
  obtain ⟨v, p', s', e, c', v0, v1, _⟩ := below_ex c s (l.length : Int)
  have hlt : v.toNat < l.length := by have := v1 (by omega); omega
  refine ⟨l.getD v.toNat 0, p', s', ?_, c'⟩
  simp only [spec_l01Int, e, Option.bind_some]
  rw [ck_pos v0, ck_pos hlt]
theorem l4Measure_ex {h : List Int} {p : Int} (c : CurOk h p) (s : Int) : ∃ x y z p' s', spec_l4Measure h p s = some (((x, y, z, ()), (), ()), ((h, p', s', ()), ()), ()) ∧ CurOk h p' := by
  obtain ⟨v1, p1, s1, e1, c1, _⟩ := below_ex c s 60
  obtain ⟨v2, p2, s2, e2, c2, _⟩ := below_ex c1 s1 3
  obtain ⟨v3, p3, s3, e3, c3, _⟩ := below_ex c2 s2 9
  exact ⟨_, _, _, _, _, by simp only [spec_l4Measure, e1, e2, e3, Option.bind_some]; rfl, c3⟩
theorem l3Measure_ex {h : List Int} {p : Int} (c : CurOk h p) (s : Int) : ∃ x y z p' s', spec_l3Measure h p s = some (((x, y, z, ()), (), ()), ((h, p', s', ()), ()), ()) ∧ CurOk h p' := by
  obtain ⟨v1, p1, s1, e1, c1, _⟩ := below_ex c s 200
  obtain ⟨v2, p2, s2, e2, c2, _⟩ := below_ex c1 s1 6
  obtain ⟨v3, p3, s3, e3, c3, _⟩ := below_ex c2 s2 12
  exact ⟨_, _, _, _, _, by simp only [spec_l3Measure, e1, e2, e3, Option.bind_some]; rfl, c3⟩
theorem l3Any_ex {h : List Int} {p : Int} (c : CurOk h p) (s : Int) : ∃ x y z p' s', spec_l3Any h p s = some (((x, y, z, ()), (), ()), ((h, p', s', ()), ()), ()) ∧ CurOk h p' := by
  obtain ⟨x, y, z, p1, s1, e1, c1⟩ := l3Measure_ex c s
  obtain ⟨v, p2, s2, e2, c2, _⟩ := below_ex c1 s1 16
  simp only [spec_l3Any, e1, e2, Option.bind_some]
  by_cases h0 : v = 0
  · obtain ⟨w, p3, s3, e3, c3⟩ := int_ex c2 s2 (l := [(0 : Int), (-1 : Int), (2000 : Int), (2001 : Int), (4611686018427387904 : Int)]) (by simp)
    rw [beq_iff_eq.2 h0, br_true, e3]
    exact ⟨_, _, _, _, _, rfl, c3⟩
  rw [beq_eq_false_iff_ne.2 h0, br_false]
  by_cases h1 : v = 1
  · obtain ⟨w, p3, s3, e3, c3⟩ := int_ex c2 s2 (l := [(0 : Int), (100 : Int), (101 : Int), (-7 : Int)]) (by simp)
    rw [beq_iff_eq.2 h1, br_true, e3]
    exact ⟨_, _, _, _, _, rfl, c3⟩
  rw [beq_eq_false_iff_ne.2 h1, br_false]
  by_cases h2 : v = 2
  · obtain ⟨w, p3, s3, e3, c3⟩ := int_ex c2 s2 (l := [(0 : Int), (100 : Int), (101 : Int), w64 (y - 1)]) (by simp)
    rw [beq_iff_eq.2 h2, br_true, e3]
    exact ⟨_, _, _, _, _, rfl, c3⟩
  rw [beq_eq_false_iff_ne.2 h2, br_false]
  exact ⟨_, _, _, _, _, rfl, c2⟩
theorem l4Words_ex {h : List Int} {p : Int} (c : CurOk h p) (s : Int) : ∃ p' s' w, spec_l4Words h p s = some (((), (), ()), ((h, p', s', ()), ()), (w, ())) ∧ CurOk h p' ∧ w.length ≤ 20 := by
  obtain ⟨v1, p1, s1, e1, c1, _⟩ := below_ex c s 14
  obtain ⟨v2, p2, s2, e2, c2, a0, a1, _⟩ := below_ex c1 s1 18
  have a1 := a1 (by omega)
  obtain ⟨z, hz, p', s', w, rfl, c', lw⟩ := loopC_rule (step := spec_l4Words_s0) (fun x => ∃ (n : Nat) (p s : Int) (w : List Int), x = (((), (), w64 (2 + v1), (n : Int), ()), ((h, p, s, ()), ()), (w, ())) ∧ n ≤ 18 ∧ CurOk h p ∧ w.length + n ≤ 18)
    (fun x => x.1.2.2.2.1.toNat) (fun z => ∃ p s w, z = (((), (), ()), ((h, p, s, ()), ()), (w, ())) ∧ CurOk h p ∧ w.length ≤ 20) (by
    rintro _ ⟨n, p, s, w, rfl, hn, c, lw⟩
    simp only [spec_l4Words_s0]
    by_cases h1 : 0 < n
    · rw [decide_eq_true (by omega), br_true]
      obtain ⟨v, p1, s1, e1, c1, _⟩ := below_ex c s (w64 (2 + v1))
      obtain ⟨n', rfl⟩ : ∃ n', n = n' + 1 := ⟨n - 1, by omega⟩
      have ew : w64 (((n' + 1 : Nat) : Int) - 1) = (n' : Int) := by rw [w64_id (by omega) (by omega)]; omega
      rw [e1, Option.bind_some, ck_pos (by simp; omega), ew]
      exact .inl ⟨_, rfl, ⟨n', _, _, _, rfl, by omega, c1, by simp; omega⟩, by simp⟩
    · rw [decide_eq_false (by omega), br_false]
      exact .inr ⟨_, rfl, _, _, _, rfl, c, by omega⟩) (w64 (1 + v2)).toNat (((), (), w64 (2 + v1), w64 (1 + v2), ()), ((h, p2, s2, ()), ()), ([], ())) (by simp) ⟨(w64 (1 + v2)).toNat, p2, s2, [], by
        rw [Int.toNat_of_nonneg (by rw [w64_id (by omega) (by omega)]; omega)], by rw [w64_id (by omega) (by omega)]; omega, c2, by rw [w64_id (by omega) (by omega)]; simp; omega⟩
  exact ⟨p', s', w, by simp only [spec_l4Words, e1, e2, Option.bind_some, hz], c', lw⟩
theorem l4Both_ex {h : List Int} {p : Int} (c : CurOk h p) (s : Int) : ∃ x y z p' s' w, spec_l4Both h p s = some (((x, y, z, ()), (), (), ()), ((h, p', s', ()), ()), (w, ())) ∧ CurOk h p' ∧ w.length ≤ 100 := by
  obtain ⟨x, y, z, p1, s1, e1, c1⟩ := l4Measure_ex c s
  obtain ⟨p2, s2, w, e2, c2, lw⟩ := l4Words_ex c1 s1
  obtain ⟨v, p3, s3, e3, c3, _⟩ := below_ex c2 s2 20
  simp only [spec_l4Both, e1, e2, e3, Option.bind_some]
  by_cases h0 : v = 0
  · obtain ⟨x2, y2, z2, p4, s4, e4, c4⟩ := l3Any_ex c3 s3
    rw [beq_iff_eq.2 h0, br_true, e4]
    exact ⟨_, _, _, _, _, _, rfl, c4, by omega⟩
  rw [beq_eq_false_iff_ne.2 h0, br_false]
  by_cases h1 : v = 1
  · obtain ⟨w1, p4, s4, e4, c4⟩ := int_ex c3 s3 (l := [(0 : Int), (-1 : Int), (2000 : Int), (2001 : Int)]) (by simp)
    rw [beq_iff_eq.2 h1, br_true, e4, Option.bind_some, ck_pos (by simp; omega)]
    exact ⟨_, _, _, _, _, _, rfl, c4, by simp; omega⟩
  rw [beq_eq_false_iff_ne.2 h1, br_false]
  by_cases h2 : v = 2
  · obtain ⟨w1, p4, s4, e4, c4, a0, a1, _⟩ := below_ex c3 s3 3
    have a1 := a1 (by omega)
    rw [beq_iff_eq.2 h2, br_true, e4, Option.bind_some]
    have en : w64 (39 + w1) = 39 + w1 := w64_id (by omega) (by omega)
    simp only [en]
    obtain ⟨q, hq, p', s', w', rfl, c', lw'⟩ := loopC_rule (step := spec_l4Both_s1) (fun X => ∃ (p s : Int) (w : List Int), X = (((), (), (), (), 39 + w1, ()), ((h, p, s, ()), ((0 : Int), (0 : Int), (0 : Int), ()), (x, y, z, ()), ()), (w, ())) ∧ CurOk h p ∧ w.length ≤ 60)
      (fun X => 100 - X.2.2.1.length) (fun Z => ∃ p s w, Z = (((), (), (), (), ()), ((h, p, s, ()), ((0 : Int), (0 : Int), (0 : Int), ()), (x, y, z, ()), ()), (w, ())) ∧ CurOk h p ∧ w.length ≤ 100) (by
      rintro _ ⟨p, s, w, rfl, c, lw⟩
      simp only [spec_l4Both_s1]
      by_cases h1 : (w.length : Int) < 39 + w1
      · rw [decide_eq_true h1, br_true]
        obtain ⟨v, p1, s1, e1, c1, _⟩ := below_ex c s 4
        rw [e1, Option.bind_some, ck_pos (by simp; omega)]
        exact .inl ⟨_, rfl, ⟨_, _, _, rfl, c1, by simp; omega⟩, by simp; omega⟩
      · rw [decide_eq_false h1, br_false]
        exact .inr ⟨_, rfl, _, _, _, rfl, c, by omega⟩) 100 (((), (), (), (), 39 + w1, ()), ((h, p4, s4, ()), ((0 : Int), (0 : Int), (0 : Int), ()), (x, y, z, ()), ()), (w, ())) (by simp) ⟨p4, s4, w, rfl, c4, by omega⟩
    simp only [hq, Option.bind_some]
    exact ⟨_, _, _, _, _, _, rfl, c', lw'⟩
  rw [beq_eq_false_iff_ne.2 h2, br_false]
  by_cases h4 : v = 3
  · rw [beq_iff_eq.2 h4, br_true]
    exact ⟨_, _, _, _, _, _, rfl, c3, by simp⟩
  rw [beq_eq_false_iff_ne.2 h4, br_false]
  exact ⟨_, _, _, _, _, _, rfl, c3, by omega⟩
theorem lineKind_ex {code : List Int} (hl : code.length ≤ 1048576) : ∃ x y z a b w, spec_DrawLineKind code = some (((x, y, z, ()), (), a, b, ()), (), (w, ())) ∧ w.length ≤ 100 := by
  obtain ⟨s, e, c⟩ := new_ex (code := code) hl
  obtain ⟨x, y, z, p1, s1, w, e1, c1, lw⟩ := l4Both_ex c s
  obtain ⟨a, p2, s2, e2, c2, _⟩ := below_ex c1 s1 (w64 ((w.length : Int) + 1))
  obtain ⟨d, p3, s3, e3, c3, _⟩ := below_ex c2 s2 9
  obtain ⟨o, p4, s4, e4, c4⟩ := once_ex c3 s3 8
  simp only [spec_DrawLineKind, e, e1, e2, e3, e4, Option.bind_some]
  cases o with
  | true =>
    obtain ⟨b, p5, s5, e5, c5⟩ := int_ex c4 s4 (l := [(0 : Int), (1 : Int), a, (w.length : Int), w64 ((w.length : Int) + 1), (9223372036854775807 : Int)]) (by simp)
    obtain ⟨o2, p6, s6, e6, c6⟩ := once_ex c5 s5 12
    obtain ⟨b2, p7, s7, e7, c7⟩ := int_ex c6 s6 (l := [(-1 : Int), (0 : Int), (-9223372036854775808 : Int)]) (by simp)
    simp only [br_true, e5, Option.bind_some, e6]
    cases o2
    · exact ⟨_, _, _, _, _, _, by rw [br_false], lw⟩
    · exact ⟨_, _, _, _, _, _, by rw [br_true, e7]; rfl, lw⟩
  | false =>
    obtain ⟨o2, p6, s6, e6, c6⟩ := once_ex c4 s4 12
    obtain ⟨b2, p7, s7, e7, c7⟩ := int_ex c6 s6 (l := [(-1 : Int), (0 : Int), (-9223372036854775808 : Int)]) (by simp)
    simp only [br_false, Option.bind_some, e6]
    cases o2
    · exact ⟨_, _, _, _, _, _, by rw [br_false], lw⟩
    · exact ⟨_, _, _, _, _, _, by rw [br_true, e7]; rfl, lw⟩
end Go.Tree
namespace Go.Tree
set_option linter.unusedVariables false
set_option linter.unusedSimpArgs false
theorem implLab_eq {l : List Int} (hl : l.length ≤ 1048576) : impl_lettersAndBands l = some (((sumW l).1, (sumW l).2, ()), (), ()) := by
  have h := loop_acc (s := impl_lettersAndBands_s0) (fun i (a : Int × Int) => ((a.1, a.2, l, (l.length : Int), (i : Int), ()), (), ())) l.length (sumStep l) (fun _ _ => True) (fun a => ((a.1, a.2, ()), (), ())) (by
    intro i a hi _
    refine ⟨?_, trivial⟩
    simp only [impl_lettersAndBands_s0, Int.toNat_natCast, br_ite, sumStep]
    rw [if_pos (by simpa using hi), ck_pos (by omega), ck_pos hi, w64_succ hi (big_len hl)]
    cases (l.getD i 0 == 0) <;> rfl) (by
    intro a _
    simp only [impl_lettersAndBands_s0, br_ite]
    rw [if_neg (by simp)]) (0, 0) trivial
  exact congrArg (fun o => Option.bind o fun r8 => some ((r8.1.1, r8.1.2.1, ()), (), ())) h.1
def fullN (a b c s g : Int) : Bool := (spreadN a b c s g).2.2 && ((spreadN a b c s g).2.1 == 0 || decide ((spreadN a b c s g).2.1 < g))
theorem implFull_eq (a b c s g : Int) : impl_full a b c s g = some ((fullN a b c s g, ()), (), ()) := by
  simp only [impl_full, implSpreadW_eq, Option.bind_some, fullN]
  cases (spreadN a b c s g).2.2
  · rfl
  · cases ((spreadN a b c s g).2.1 == 0) <;> rfl
theorem kind_spread (a b c : Int) {l : List Int} (hl : l.length ≤ 1048576) (h1 : 1 ≤ l.length) :
    kindN a b c l = if (spreadN a b c (sumI l) ((l.length : Int) - 1)).2.2 = true then (if fullN a b c (sumI l) ((l.length : Int) - 1) = true then 2 else 1) else 0 := by
  have h := implKind_eq a b c hl h1
  have hg : w64 ((l.length : Int) - 1) = (l.length : Int) - 1 := w64_id (by omega) (by omega)
  simp only [impl_kindOf, implSum_eq hl, implSpreadW_eq, Option.bind_some, implFull_eq, hg] at h
  cases hs : (spreadN a b c (sumI l) ((l.length : Int) - 1)).2.2
  · rw [hs, Bool.not_false, br_true] at h
    injection h with h
    injection h with h
    injection h with h
    rw [← h]; rfl
  · rw [hs, Bool.not_true, br_false] at h
    rw [if_pos rfl]
    cases hf : fullN a b c (sumI l) ((l.length : Int) - 1)
    · rw [hf, br_false] at h
      injection h with h
      injection h with h
      injection h with h
      rw [← h]; rfl
    · rw [hf, br_true] at h
      injection h with h
      injection h with h
      injection h with h
      rw [← h]; rfl
def sumS (a : Int × Int) (x : Int) : Int × Int := (w64 (a.1 + x), if x == 0 then w64 (a.2 + 1) else a.2)
theorem foldl_getD (f : Int × Int → Int → Int × Int) : ∀ (l : List Int) (a : Int × Int), (List.range l.length).foldl (fun a i => f a (l.getD i 0)) a = l.foldl f a
  | [], a => rfl
  | x :: l, a => by
    rw [List.length_cons, List.range_succ_eq_map, List.foldl_cons, List.foldl_map, List.foldl_cons, ← foldl_getD f l]
    rfl
theorem sumW_fold (l : List Int) : sumW l = l.foldl sumS (0, 0) := foldl_getD sumS l (0, 0)
theorem w64_range (x : Int) : -9223372036854775808 ≤ w64 x ∧ w64 x ≤ 9223372036854775807 := by
  simp only [w64, IntKind.wrap, IntKind.bits, IntKind.signed, Bool.true_and]
  by_cases h : x % 2 ^ 64 ≥ 2 ^ (64 - 1)
  · rw [if_pos (by simpa using h)]; omega
  · rw [if_neg (by simpa using h)]; omega
theorem w64_w64 (x : Int) : w64 (w64 x) = w64 x := by
  have h1 := w64_range x
  exact w64_id h1.1 h1.2
theorem sumI_w64 (l : List Int) : w64 (sumI l) = sumI l := by
  have h : ∀ (l : List Int) (a : Int), w64 a = a → w64 (l.foldl (fun s x => w64 (s + x)) a) = l.foldl (fun s x => w64 (s + x)) a := by
    intro l
    induction l with
    | nil => intro a ha; exact ha
    | cons x l ih => intro a ha; exact ih _ (w64_w64 _)
  exact h l 0 rfl
/-- the letters up to word i, blanks between -/
def accN (s : List Int) : Nat → List Int
  | 0 => []
  | i + 1 => if 0 < i then accN s i ++ [0] ++ [s.getD i 0] else accN s i ++ [s.getD i 0]
theorem accN_succ (s : List Int) (i : Nat) : accN s (i + 1) = if 0 < i then accN s i ++ [0] ++ [s.getD i 0] else accN s i ++ [s.getD i 0] := rfl
theorem accN_len (s : List Int) : ∀ i, (accN s i).length ≤ 2 * i
  | 0 => by simp [accN]
  | i + 1 => by
    have := accN_len s i
    rw [accN_succ]
    split <;> simp <;> omega
theorem accN_sum {s : List Int} (hs : s.length ≤ 1048576) (h0 : ∀ x ∈ s, x ≠ 0) : ∀ i, i ≤ s.length → (accN s i).foldl sumS (0, 0) = (sumI (s.take i), ((i - 1 : Nat) : Int))
  | 0, _ => rfl
  | i + 1, h => by
    have ih := accN_sum hs h0 i (by omega)
    have hx : s.getD i 0 ≠ 0 := h0 _ (getD_mem h)
    have e := sumI_succ (l := s) (i := i) h
    rw [accN_succ]
    by_cases hi : 0 < i
    · rw [if_pos hi, List.foldl_append, List.foldl_append, ih]
      show sumS (sumS (sumI (s.take i), ((i - 1 : Nat) : Int)) 0) (s.getD i 0) = _
      unfold sumS
      simp only [Int.add_zero, sumI_w64, beq_self_eq_true, if_true, beq_eq_false_iff_ne.2 hx, Bool.false_eq_true, if_false, e]
      rw [w64_id (by omega) (by omega)]
      congr 1; omega
    · rw [if_neg hi, List.foldl_append, ih]
      show sumS (sumI (s.take i), ((i - 1 : Nat) : Int)) (s.getD i 0) = _
      unfold sumS
      simp only [beq_eq_false_iff_ne.2 hx, Bool.false_eq_true, if_false, e]
      congr 1; omega
theorem law_FnLetters {code : List Int} : laws_FnLetters code = some ((true, ()), (), ()) := by
  simp only [laws_FnLetters]
  by_cases h0 : (code.length : Int) > 1048576
  · rw [decide_eq_true h0]; rfl
  rw [decide_eq_false h0, br_false]
  obtain ⟨a, b, c, lo, hi, w, e, lw⟩ := lineKind_ex (code := code) (by omega)
  have hw : w.length ≤ 1048576 := by omega
  simp only [e, Option.bind_some, impl_LineKind, both_eq a b c hw, specMeasureOk_eq, specTextOk_eq hw]
  cases hm : measOk a b c with
  | false => simp only [Bool.false_and, Bool.not_false, br_true, Option.bind_some]; rfl
  | true =>
    simp only [Bool.true_and, Bool.not_true, br_false]
    cases ht : textOk w with
    | false => simp only [Bool.not_false, br_true, Option.bind_some]; rfl
    | true =>
      simp only [Bool.not_true, br_false]
      by_cases h1 : lo < 0
      · rw [decide_eq_true h1, br_true, Option.bind_some, br_true]; rfl
      rw [decide_eq_false h1, br_false]
      by_cases h2 : hi > (w.length : Int)
      · rw [decide_eq_true h2, br_true, Option.bind_some, br_false, br_true]; rfl
      rw [decide_eq_false h2, br_false]
      by_cases h3 : lo ≥ hi
      · rw [decide_eq_true h3, br_true, Option.bind_some, br_false, br_false, br_true]; rfl
      rw [decide_eq_false h3, br_false, ck_pos (by omega), ck_pos (by omega), ck_pos ⟨by omega, by omega⟩]
      have hlen : (cut w lo.toNat hi.toNat).length = hi.toNat - lo.toNat := cut_len (by omega) (by omega)
      have hall : ∀ x ∈ cut w lo.toNat hi.toNat, x ≠ 0 := fun x hx => by
        have hx : x ∈ w := List.mem_of_mem_take (List.mem_of_mem_drop hx)
        unfold textOk at ht
        rw [Bool.and_eq_true, List.all_eq_true] at ht
        have := ht.2 x hx
        unfold inB at this
        have := of_decide_eq_true this
        omega
      generalize cut w lo.toNat hi.toNat = s at *
      have K := implKind_eq a b c (l := s) (by omega) (by omega)
      have KS := kind_spread a b c (l := s) (by omega) (by omega)
      rw [K, Option.bind_some, Option.bind_some, br_false, br_false, br_false, ck_pos (by omega), ck_pos (by omega), ck_pos ⟨by omega, by omega⟩]
      have L := loop_for (s := laws_FnLetters_s0) (fun i => (((), kindN a b c s, (), s, (s.length : Int), (i : Int), ()), ((a, b, c, ()), ()), (accN s i, w, ()))) s.length (((), kindN a b c s, (), ()), ((a, b, c, ()), ()), (accN s s.length, ())) (by
        intro i hi
        have hl := accN_len s i
        simp only [laws_FnLetters_s0, Int.toNat_natCast]
        rw [decide_eq_true (by omega), br_true, ck_pos (by omega), ck_pos hi, accN_succ, w64_succ hi (by unfold maxLen; omega)]
        by_cases hp : 0 < i
        · rw [decide_eq_true (by omega), br_true, ck_pos (by simp; omega), ck_pos (by simp; omega), if_pos hp]
        · rw [decide_eq_false (by omega), br_false, ck_pos (by simp; omega), if_neg hp]) (by
        simp only [laws_FnLetters_s0]
        rw [decide_eq_false (by omega), br_false])
      have hal := accN_len s s.length
      have hsum : sumW (accN s s.length) = (sumI s, (s.length : Int) - 1) := by
        rw [sumW_fold, accN_sum (by omega) hall s.length (Nat.le_refl _), List.take_length]
        congr 1; omega
      refine (congrArg (fun o => Option.bind o _) L).trans ?_
      have hal' : (accN s s.length).length ≤ 1048576 := by omega
      simp only [Option.bind_some, specLineOk_eq hal', impl_SpreadLine, impl_IsFull, implMeasureOk_eq, hm, implLineOk_eq hal', implLab_eq hal', hsum, implSpreadW_eq, implFull_eq, Bool.not_true, br_false, br_true]
      cases hok : lineOk (accN s s.length) with
      | false => rw [Bool.not_false, br_true]
      | true =>
        simp only [Bool.not_true, br_false, br_true, Option.bind_some]
        rw [KS]
        cases h5 : (spreadN a b c (sumI s) ((s.length : Int) - 1)).2.2 with
        | false =>
          have h6 : fullN a b c (sumI s) ((s.length : Int) - 1) = false := by unfold fullN; rw [h5]; rfl
          rw [h6]; rfl
        | true =>
          cases h6 : fullN a b c (sumI s) ((s.length : Int) - 1) <;> rfl
theorem row_FnLetters : ∀ x : laws_FnLetters_C.arg.den, wfP laws_FnLetters_C.arg.tm x.1 → ∃ y : altDen laws_FnLetters_C.res, laws_FnLetters_C.F x = some y ∧ (altMk laws_FnLetters_C.res y).tm = [(0, .c (.v (.bool true)))] :=
  fun x hx => ⟨((true, ()), (), ()), law_FnLetters, rfl⟩
end Go.Tree
