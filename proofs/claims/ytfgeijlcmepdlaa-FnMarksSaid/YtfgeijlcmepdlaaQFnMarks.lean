/- What the functions of the law FnMarks answer, in plain Lean, with no program in sight. No condition but the bounds of lengths. -/
import Derived.Test.YtfgeijlcmepdlaaK8
import Derived.Test.YtfgeijlcmepdlaaPFnMarks
namespace Go.Tree
set_option linter.unusedVariables false

@[simp] theorem br_true {α : Type} (x y : α) : br true x y = x := rfl
@[simp] theorem br_false {α : Type} (x y : α) : br false x y = y := rfl
theorem br_ite {α : Type} (b : Bool) (x y : α) : br b x y = if b = true then x else y := by cases b <;> rfl
@[simp] theorem sumK_inl {X Y α : Type} (z : X) (f : X → α) (g : Y → α) : sumK (.inl z : X ⊕ Y) f g = f z := rfl
@[simp] theorem sumK_inr {X Y α : Type} (z : Y) (f : X → α) (g : Y → α) : sumK (.inr z : X ⊕ Y) f g = g z := rfl
theorem sumK_ite {X Y α : Type} (p : Prop) [Decidable p] (a b : X ⊕ Y) (f : X → α) (g : Y → α) : sumK (if p then a else b) f g = if p then sumK a f g else sumK b f g := by split <;> rfl
theorem ck_pos {α : Type} {p : Prop} [Decidable p] (h : p) (x : Option α) : ck p x = x := if_pos h
theorem w64_id {x : Int} (h1 : -9223372036854775808 ≤ x) (h2 : x ≤ 9223372036854775807) : w64 x = x := by
  simp only [w64, IntKind.wrap, IntKind.bits, IntKind.signed, Bool.true_and]
  by_cases h : x % 2 ^ 64 ≥ 2 ^ (64 - 1)
  · rw [if_pos (by simpa using h)]; omega
  · rw [if_neg (by simpa using h)]; omega
theorem w64_succ {i n : Nat} (h : i < n) (hn : n ≤ maxLen) : w64 ((i : Int) + 1) = ((i + 1 : Nat) : Int) := by
  unfold maxLen at hn
  rw [w64_id] <;> omega
theorem i64_range {n : Int} (h : I64 n) : -9223372036854775808 ≤ n ∧ n ≤ 9223372036854775807 := Go.bounds_i64 h

section
variable {X Z : Type} {s : X → Option (X ⊕ Z)}
theorem loop_step {x y : X} (h : s x = some (.inl y)) : loopC s x = loopC s y := by rw [loopC_eq, h]
theorem loop_out {x : X} {z : Z} (h : s x = some (.inr z)) : loopC s x = some z := by rw [loopC_eq, h]

/-- a counted loop that may leave early -/
theorem loop_findFrom (st : Nat → X) (n : Nat) (f : Nat → Option Z) (done : Z)
    (hs : ∀ i, i < n → s (st i) = some (match f i with | some z => .inr z | none => .inl (st (i + 1)))) (hd : s (st n) = some (.inr done)) : ∀ k i, i + k = n →
    loopC s (st i) = some (((List.range' i k).findSome? f).getD done)
  | 0, i, e => by
    have : i = n := by omega
    subst this
    rw [loop_out hd]; rfl
  | k + 1, i, e => by
    have h := hs i (by omega)
    rw [List.range'_succ, List.findSome?_cons]
    cases hf : f i with
    | some z => rw [hf] at h; rw [loop_out h]; rfl
    | none => rw [hf] at h; rw [loop_step h]; exact loop_findFrom st n f done hs hd k (i + 1) (by omega)
theorem loop_find (st : Nat → X) (n : Nat) (f : Nat → Option Z) (done : Z)
    (hs : ∀ i, i < n → s (st i) = some (match f i with | some z => .inr z | none => .inl (st (i + 1)))) (hd : s (st n) = some (.inr done)) :
    loopC s (st 0) = some (((List.range n).findSome? f).getD done) := by
  rw [loop_findFrom st n f done hs hd n 0 (by omega), List.range_eq_range']
/-- a loop that leaves at the first index that fails -/
theorem loop_allI (st : Nat → X) (n : Nat) (p : Nat → Bool) (z done : Z)
    (hs : ∀ i, i < n → s (st i) = some (if p i = true then .inl (st (i + 1)) else .inr z)) (hd : s (st n) = some (.inr done)) :
    loopC s (st 0) = some (if (List.range n).all p = true then done else z) := by
  rw [loop_find st n (fun i => if p i = true then none else some z) done (fun i hi => by rw [hs i hi]; split <;> rfl) hd]
  congr 1
  generalize List.range n = l
  induction l with
  | nil => rfl
  | cons a l ih => rw [List.findSome?_cons, List.all_cons]; by_cases h : p a = true <;> simp [h, ih]
theorem range_all {α : Type} (l : List α) (d : α) (p : α → Bool) : (List.range l.length).all (fun i => p (l.getD i d)) = l.all p := by
  rw [Bool.eq_iff_iff, List.all_eq_true, List.all_eq_true]
  constructor
  · intro h x hx
    obtain ⟨i, hi, rfl⟩ := List.mem_iff_getElem.1 hx
    have := h i (List.mem_range.2 hi)
    rwa [List.getD_eq_getElem?_getD, List.getElem?_eq_getElem hi] at this
  · intro h i hi
    have hi' := List.mem_range.1 hi
    rw [List.getD_eq_getElem?_getD, List.getElem?_eq_getElem hi']
    exact h _ (List.getElem_mem hi')
/-- a loop over a list that leaves at the first element that fails -/
theorem loop_all {α : Type} (l : List α) (d : α) (st : Nat → X) (p : α → Bool) (z done : Z)
    (hs : ∀ i, i < l.length → s (st i) = some (if p (l.getD i d) = true then .inl (st (i + 1)) else .inr z)) (hd : s (st l.length) = some (.inr done)) :
    loopC s (st 0) = some (if l.all p = true then done else z) := by
  rw [loop_allI st l.length (fun i => p (l.getD i d)) z done hs hd, range_all]
/-- a loop that finds the first index that holds -/
theorem loop_idx {α : Type} (l : List α) (d : α) (st : Nat → X) (p : α → Bool) (found : Nat → Z) (done : Z)
    (hs : ∀ i, i < l.length → s (st i) = some (if p (l.getD i d) = true then .inr (found i) else .inl (st (i + 1)))) (hd : s (st l.length) = some (.inr done)) :
    loopC s (st 0) = some (if l.findIdx p < l.length then found (l.findIdx p) else done) := by
  have go : ∀ k i, i + k = l.length → (∀ j, j < i → p (l.getD j d) = false) → loopC s (st i) = some (if l.findIdx p < l.length then found (l.findIdx p) else done) := by
    intro k
    induction k with
    | zero =>
      intro i hi hp
      have : i = l.length := by omega
      subst this
      rw [loop_out hd, List.findIdx_eq_length_of_false, if_neg (by omega)]
      intro x hx
      obtain ⟨j, hj, rfl⟩ := List.mem_iff_getElem.1 hx
      have := hp j hj
      rwa [List.getD_eq_getElem?_getD, List.getElem?_eq_getElem hj] at this
    | succ k ih =>
      intro i hi hp
      have h := hs i (by omega)
      split at h
      · rename_i hpi
        have e : l.findIdx p = i := by
          rw [List.findIdx_eq (by omega)]
          rw [List.getD_eq_getElem?_getD, List.getElem?_eq_getElem (by omega)] at hpi
          refine ⟨hpi, fun j hj => ?_⟩
          have := hp j hj
          rwa [List.getD_eq_getElem?_getD, List.getElem?_eq_getElem (by omega)] at this
        rw [loop_out h, e, if_pos (by omega)]
      · rename_i hpi
        rw [loop_step h]
        refine ih (i + 1) (by omega) fun j hj => ?_
        by_cases hji : j = i
        · subst hji; simpa using hpi
        · exact hp j (by omega)
  exact go l.length 0 (by omega) (fun j hj => by omega)
/-- a counted loop that carries a thing along -/
theorem loop_acc {A : Type} (st : Nat → A → X) (n : Nat) (f : Nat → A → A) (I : Nat → A → Prop) (out : A → Z)
    (hs : ∀ i a, i < n → I i a → s (st i a) = some (.inl (st (i + 1) (f i a))) ∧ I (i + 1) (f i a)) (hd : ∀ a, I n a → s (st n a) = some (.inr (out a))) (a : A) (h0 : I 0 a) :
    loopC s (st 0 a) = some (out ((List.range n).foldl (fun a i => f i a) a)) ∧ I n ((List.range n).foldl (fun a i => f i a) a) := by
  have go : ∀ k i a, i + k = n → I i a → loopC s (st i a) = some (out ((List.range' i k).foldl (fun a i => f i a) a)) ∧ I n ((List.range' i k).foldl (fun a i => f i a) a) := by
    intro k
    induction k with
    | zero =>
      intro i a hi hI
      have : i = n := by omega
      subst this
      exact ⟨loop_out (hd a hI), hI⟩
    | succ k ih =>
      intro i a hi hI
      obtain ⟨h1, h2⟩ := hs i a (by omega) hI
      rw [loop_step h1, List.range'_succ, List.foldl_cons]
      exact ih (i + 1) _ (by omega) h2
  rw [List.range_eq_range']
  exact go n 0 a (by omega) h0
/-- a counted loop whose state is known at every turn -/
theorem loop_for (st : Nat → X) (n : Nat) (done : Z) (hs : ∀ i, i < n → s (st i) = some (.inl (st (i + 1)))) (hd : s (st n) = some (.inr done)) : loopC s (st 0) = some done := by
  rw [loop_find st n (fun _ => none) done (fun i hi => by rw [hs i hi]) hd]
  congr 1
  generalize List.range n = l
  induction l with
  | nil => rfl
  | cons a l ih => simpa using ih
end
/-- the first i of l, zeros behind -/
def fillTo {α : Type} (l : List α) (d : α) (i : Nat) : List α := l.take i ++ List.replicate (l.length - i) d
theorem fillTo_zero {α : Type} (l : List α) (d : α) : fillTo l d 0 = List.replicate l.length d := by simp [fillTo]
theorem fillTo_all {α : Type} (l : List α) (d : α) : fillTo l d l.length = l := by simp [fillTo]
theorem fillTo_length {α : Type} (l : List α) (d : α) {i : Nat} (h : i ≤ l.length) : (fillTo l d i).length = l.length := by simp [fillTo]; omega
theorem fillTo_set {α : Type} (l : List α) (d e : α) {i : Nat} (h : i < l.length) : (fillTo l d i).set i (l.getD i e) = fillTo l d (i + 1) := by
  rw [List.getD_eq_getElem?_getD, List.getElem?_eq_getElem h, Option.getD_some]
  apply List.ext_getElem?
  intro j
  unfold fillTo
  rw [List.getElem?_set]
  have m1 : (l.take i).length = i := by simp; omega
  have m2 : (l.take (i + 1)).length = i + 1 := by simp; omega
  have L : (l.take i ++ List.replicate (l.length - i) d).length = l.length := by simp; omega
  rw [L]
  by_cases hji : i = j
  · subst hji
    rw [if_pos rfl, if_pos h, List.getElem?_append_left (by omega), List.getElem?_take_of_lt (by omega), List.getElem?_eq_getElem h]
  · rw [if_neg hji]
    by_cases hj : j < i
    · rw [List.getElem?_append_left (by omega), List.getElem?_append_left (by omega), List.getElem?_take_of_lt hj, List.getElem?_take_of_lt (by omega)]
    · rw [List.getElem?_append_right (by omega), List.getElem?_append_right (by omega), m1, m2, List.getElem?_replicate, List.getElem?_replicate]
      by_cases h2 : j < l.length
      · rw [if_pos (by omega), if_pos (by omega)]
      · rw [if_neg (by omega), if_neg (by omega)]
end Go.Tree
namespace Go.Tree
set_option linter.unusedVariables false
set_option linter.unusedSimpArgs false

theorem big_len {n : Nat} (h : n ≤ 1048576) : n ≤ maxLen := by unfold maxLen; omega
/-- what a size says -/
def Sz (F : Option ((Int × Unit) × Unit × Unit)) (n : Int) (Q : Prop) : Prop := ∃ r : Int, F = some ((r, ()), (), ()) ∧ -1 ≤ r ∧ r ≤ n ∧ (0 ≤ r → Q)
theorem sub_len {n : Int} {k : Nat} (h0 : 0 ≤ n) (h1 : n ≤ 1048576) (hk : k ≤ maxLen) : w64 (n - (k : Int)) = n - k := by
  unfold maxLen at hk
  rw [w64_id] <;> omega
/-- size after size -/
theorem Sz.bind {F : Option ((Int × Unit) × Unit × Unit)} {n : Int} {Q R : Prop} (h : Sz F n Q) {G : (Int × Unit) × Unit × Unit → Option ((Int × Unit) × Unit × Unit)}
    (hG : ∀ r, 0 ≤ r → r ≤ n → Q → Sz (G ((r, ()), (), ())) n R) : Sz (F.bind fun r => br (decide (r.1.1 < (0 : Int))) (some (((-1 : Int), ()), (), ())) (G r)) n R := by
  obtain ⟨r, rfl, h1, h2, h3⟩ := h
  rw [Option.bind_some, br_ite]
  by_cases h : r < 0
  · rw [if_pos (by simpa using h)]; exact ⟨-1, rfl, by omega, by omega, by omega⟩
  · rw [if_neg (by simpa using h)]; exact hG r (by omega) h2 (h3 (by omega))
theorem Sz.mono {F : Option ((Int × Unit) × Unit × Unit)} {n m : Int} {Q R : Prop} (h : Sz F n Q) (hnm : n ≤ m) (hQ : Q → R) : Sz F m R := by
  obtain ⟨r, e, h1, h2, h3⟩ := h
  exact ⟨r, e, h1, by omega, fun h => hQ (h3 h)⟩
theorem Sz.ret {n r : Int} (h0 : 0 ≤ r) (h1 : r ≤ n) {Q : Prop} (hQ : Q) : Sz (some ((r, ()), (), ())) n Q := ⟨r, rfl, by omega, h1, fun _ => hQ⟩
end Go.Tree
namespace Go.Tree
set_option linter.unusedVariables false
set_option linter.unusedSimpArgs false
theorem strEq_refl (a : ByteArray) : strEq a a = true := by simp [strEq]
end Go.Tree
namespace Go.Tree
set_option linter.unusedVariables false
set_option linter.unusedSimpArgs false

theorem getD_mem {α : Type} {l : List α} {d : α} {i : Nat} (h : i < l.length) : l.getD i d ∈ l := by
  rw [List.getD_eq_getElem?_getD, List.getElem?_eq_getElem h]; exact List.getElem_mem h
abbrev inB (a lo hi : Int) : Bool := decide (lo ≤ a ∧ a ≤ hi)
def part (a b : Int) : Bool := bAndNot .i64 a b == 0
def setB (a : Int) : Bool := inB a 0 127
def fallN (bar : List Int) (k : Int) : Nat := bar.findIdx fun s => part k s

def isBar (l : List Int) : Bool := l.all setB && inB l.length 1 40
/-- slices.ContainsFunc -/
theorem findIdx_lt {α : Type} (l : List α) (p : α → Bool) : decide (l.findIdx p < l.length) = l.any p := by
  rw [Bool.eq_iff_iff, decide_eq_true_eq, List.findIdx_lt_length, List.any_eq_true]
def idxOf {α : Type} (l : List α) (p : α → Bool) : Int := if l.findIdx p < l.length then (l.findIdx p : Int) else -1
theorem idxOf_ge {α : Type} (l : List α) (p : α → Bool) : decide (idxOf l p ≥ 0) = l.any p := by
  rw [← findIdx_lt]
  unfold idxOf
  split <;> simp_all
def sortsAll (l : List Int) : Bool := (List.range l.length).all (fun i => fallN l (l.getD i 0) == i) && isBar l
end Go.Tree
namespace Go.Tree
set_option linter.unusedVariables false
set_option linter.unusedSimpArgs false

theorem byte_range (s : ByteArray) (i : Nat) : 0 ≤ byteAt s i ∧ byteAt s i ≤ 255 := by
  unfold byteAt
  have := (s.data.toList.getD i 0).toNat_lt
  omega
/-- letter number i is fit, and new -/
def letterB (s : ByteArray) (i : Nat) : Bool := decide (33 ≤ byteAt s i) && (decide (byteAt s i ≤ 126) && (List.range i).all fun j => byteAt s i != byteAt s j)
def fontOk (s : ByteArray) (ws so : List Int) : Bool :=
  inB s.size 1 40 && (ws.length == s.size && (so.length == s.size && (sortsAll so && ((List.range s.size).all (fun i => letterB s i) && ws.all fun x => inB x 1 60))))

/-- the letters seen before place i -/
def seenB (s : ByteArray) (i : Nat) : List Bool := (List.range 256).map fun b : Nat => (List.range i).any fun j => byteAt s j == (b : Int)
theorem seenB_get (s : ByteArray) (i b : Nat) (hb : b < 256) : (seenB s i).getD b false = (List.range i).any fun j => byteAt s j == (b : Int) := by
  rw [List.getD_eq_getElem?_getD]; simp [seenB, hb]
theorem seenB_set (s : ByteArray) (i : Nat) : (seenB s i).set (byteAt s i).toNat true = seenB s (i + 1) := by
  have hr := byte_range s i
  apply List.ext_getElem?
  intro b
  rw [List.getElem?_set]
  have hl : (seenB s i).length = 256 := by simp [seenB]
  by_cases e : (byteAt s i).toNat = b
  · rw [if_pos e, if_pos (by omega)]
    subst e
    rw [seenB, List.getElem?_map, List.getElem?_range (by omega), Option.map_some, List.range_succ, List.any_append]
    simp; omega
  · rw [if_neg e, seenB, seenB, List.getElem?_map, List.getElem?_map]
    by_cases hb : b < 256
    · rw [List.getElem?_range hb, Option.map_some, Option.map_some, List.range_succ, List.any_append]
      have : (byteAt s i == (b : Int)) = false := by simp; omega
      simp [this]
    · rw [List.getElem?_eq_none (by simp; omega)]; rfl
theorem seenB_len (s : ByteArray) (i : Nat) : (seenB s i).length = 256 := by simp [seenB]
end Go.Tree
namespace Go.Tree
set_option linter.unusedVariables false
set_option linter.unusedSimpArgs false

def ofFont (s : ByteArray) (so : List Int) (m : Int × Int) : Bool := decide (0 ≤ m.1 ∧ m.1 < s.size) && (setB m.2 && part m.2 (so.getD m.1.toNat 0))
def colB (s : ByteArray) (so : List Int) (c : List (Int × Int)) : Bool := decide ((c.length : Int) ≤ 20) && c.all (ofFont s so)
def magOk (s : ByteArray) (ws so : List Int) (d : List (List (Int × Int))) : Bool := fontOk s ws so && (d.length == s.size && d.all (colB s so))
theorem fontOk_len {s : ByteArray} {ws so : List Int} (h : fontOk s ws so = true) : ws.length = s.size ∧ so.length = s.size ∧ (∀ x ∈ ws, 1 ≤ x ∧ x ≤ 60) := by
  simp only [fontOk, Bool.and_eq_true, beq_iff_eq, List.all_eq_true] at h
  obtain ⟨_, h1, h2, _, _, h3⟩ := h
  exact ⟨h1, h2, fun x hx => by simpa [inB] using h3 x hx⟩
section
variable {s : ByteArray} {ws so : List Int} {d : List (List (Int × Int))} (hs : s.size ≤ 1048576) (hw : ws.length ≤ 1048576) (ho : so.length ≤ 1048576) (hd : d.length ≤ 1048576) (hd' : ∀ c ∈ d, c.length ≤ 1048576)
include hs hw ho hd hd'
end
def measOk (a b c : Int) : Bool := inB a 1 2000 && (inB b 1 100 && inB c b 100)
/-- a band -/
def bandB (m : Int × Int) : Bool := m.1 == -1 && m.2 == 0
def widOf (ws : List Int) (m : Int × Int) : Int := if m.1 < 0 then 0 else ws.getD m.1.toNat 0
theorem map_take_succ {α β : Type} (l : List α) (d : α) (f : α → β) {i : Nat} (h : i < l.length) : (l.take i).map f ++ [f (l.getD i d)] = (l.take (i + 1)).map f := by
  rw [List.take_succ_eq_append_getElem h, List.map_append, List.getD_eq_getElem?_getD, List.getElem?_eq_getElem h]; rfl
section
variable {s : ByteArray} {ws so : List Int} (e1 : ws.length = s.size) {l : List (Int × Int)} (hl : l.length ≤ 1048576) (hall : ∀ m ∈ l, (bandB m || ofFont s so m) = true)
include e1 hall
theorem letter_ok {i : Nat} (hi : i < l.length) (h : ¬ (l.getD i (0, 0)).1 < 0) : (l.getD i (0, 0)).1.toNat < ws.length := by
  have := hall _ (getD_mem (d := (0, 0)) hi)
  simp only [bandB, ofFont, Bool.or_eq_true, Bool.and_eq_true, beq_iff_eq, decide_eq_true_eq] at this
  omega
include hl
end
end Go.Tree
namespace Go.Tree
set_option linter.unusedVariables false
set_option linter.unusedSimpArgs false

/-- letters together, and bands -/
def sumStep (l : List Int) (i : Nat) (a : Int × Int) : Int × Int := (w64 (a.1 + l.getD i 0), if l.getD i 0 == 0 then w64 (a.2 + 1) else a.2)
def sumW (l : List Int) : Int × Int := (List.range l.length).foldl (fun a i => sumStep l i a) (0, 0)
theorem sumW_range {l : List Int} (hl : l.length ≤ 1048576) (hr : ∀ x ∈ l, 0 ≤ x ∧ x ≤ 60) : 0 ≤ (sumW l).1 ∧ (sumW l).1 ≤ 60 * l.length ∧ 0 ≤ (sumW l).2 ∧ (sumW l).2 ≤ l.length := by
  have go : ∀ n, n ≤ l.length → 0 ≤ ((List.range n).foldl (fun a i => sumStep l i a) (0, 0)).1 ∧ ((List.range n).foldl (fun a i => sumStep l i a) (0, 0)).1 ≤ 60 * n ∧
      0 ≤ ((List.range n).foldl (fun a i => sumStep l i a) (0, 0)).2 ∧ ((List.range n).foldl (fun a i => sumStep l i a) (0, 0)).2 ≤ n := by
    intro n
    induction n with
    | zero => intro _; simp
    | succ n ih =>
      intro hn
      have := ih (by omega)
      rw [List.range_succ, List.foldl_append, List.foldl_cons, List.foldl_nil]
      generalize (List.range n).foldl (fun a i => sumStep l i a) (0, 0) = a at this
      have hx := hr _ (getD_mem (d := 0) (show n < l.length by omega))
      unfold sumStep
      simp only
      rw [w64_id (by omega) (by omega), w64_id (by omega) (by omega)]
      split <;> omega
  exact go l.length (Nat.le_refl _)
def lineOk (l : List Int) : Bool := decide ((l.length : Int) ≤ 120) && l.all fun x => inB x 0 60
/-- there is room -/
def fitsB (a b c : Int) (l : List Int) : Bool := lineOk l && decide ((sumW l).1 + (sumW l).2 * b ≤ a)
theorem lineOk_range {l : List Int} (h : lineOk l = true) : l.length ≤ 120 ∧ ∀ x ∈ l, 0 ≤ x ∧ x ≤ 60 := by
  simp only [lineOk, Bool.and_eq_true, decide_eq_true_eq, List.all_eq_true] at h
  exact ⟨by omega, fun x hx => by simpa [inB] using h.2 x hx⟩
theorem mul_range {x y : Int} (h1 : 0 ≤ x) (h2 : x ≤ 120) (h3 : 0 ≤ y) (h4 : y ≤ 100) : 0 ≤ x * y ∧ x * y ≤ 12000 :=
  ⟨Int.mul_nonneg h1 h3, Int.le_trans (Int.mul_le_mul h2 h4 h3 (by omega)) (by omega)⟩
def goodB (s : ByteArray) (so : List Int) (m : Int × Int) : Bool := bandB m || ofFont s so m
def machOk (s : ByteArray) (ws so : List Int) (d : List (List (Int × Int))) (e a b c : Int) (f g : List (Int × Int)) : Bool :=
  magOk s ws so d && (inB e 0 60 && (measOk a b c && (decide ((g.length : Int) ≤ 240) && (f.all (goodB s so) && (g.all (ofFont s so) && fitsB a b c (f.map (widOf ws)))))))
section
variable {s : ByteArray} {ws so : List Int} {d : List (List (Int × Int))} {e a b c : Int} {f g : List (Int × Int)} (hs : s.size ≤ 1048576) (hw : ws.length ≤ 1048576) (ho : so.length ≤ 1048576) (hd : d.length ≤ 1048576) (hd' : ∀ c ∈ d, c.length ≤ 1048576)
  (hf : f.length ≤ 1048576) (hg : g.length ≤ 1048576)
include hs hw ho hd hd' hf hg
end
end Go.Tree
namespace Go.Tree
set_option linter.unusedVariables false
set_option linter.unusedSimpArgs false
def markL (k : Int) (n : Nat) : List Int := (List.range n).map fun i : Nat => k + (i : Int)
def markTo (l : List Int) (k : Int) (i : Nat) : List Int := markL k i ++ l.drop i
theorem markL_length (k : Int) (n : Nat) : (markL k n).length = n := by simp [markL]
theorem markTo_length (l : List Int) (k : Int) {i : Nat} (h : i ≤ l.length) : (markTo l k i).length = l.length := by simp [markTo, markL_length]; omega
theorem map_range_set {α : Type} (f : Nat → α) (l : List α) {i : Nat} (h : i < l.length) : ((List.range i).map f ++ l.drop i).set i (f i) = (List.range (i + 1)).map f ++ l.drop (i + 1) := by
  rw [List.set_append_right _ _ (by simp)]
  simp only [List.length_map, List.length_range, Nat.sub_self]
  rw [List.drop_eq_getElem_cons h, List.set_cons_zero, List.range_succ, List.map_append, List.append_assoc]
  rfl
theorem markTo_set (l : List Int) (k : Int) {i : Nat} (h : i < l.length) : (markTo l k i).set i (k + (i : Int)) = markTo l k (i + 1) := map_range_set (fun i : Nat => k + (i : Int)) l h
theorem markTo_all (l : List Int) (k : Int) : markTo l k l.length = markL k l.length := by simp [markTo]
def markP (k : Int) (n : Nat) : List (Int × Int) := (List.range n).map fun i : Nat => (k + 2 * (i : Int), k + 2 * (i : Int) + 1)
def markPTo (l : List (Int × Int)) (k : Int) (i : Nat) : List (Int × Int) := markP k i ++ l.drop i
theorem markP_length (k : Int) (n : Nat) : (markP k n).length = n := by simp [markP]
theorem markPTo_length (l : List (Int × Int)) (k : Int) {i : Nat} (h : i ≤ l.length) : (markPTo l k i).length = l.length := by simp [markPTo, markP_length]; omega
theorem markPTo_set (l : List (Int × Int)) (k : Int) {i : Nat} (h : i < l.length) : (markPTo l k i).set i (k + 2 * (i : Int), k + 2 * (i : Int) + 1) = markPTo l k (i + 1) := map_range_set (fun i : Nat => (k + 2 * (i : Int), k + 2 * (i : Int) + 1)) l h
theorem markPTo_all (l : List (Int × Int)) (k : Int) : markPTo l k l.length = markP k l.length := by simp [markPTo]
/-- lists of matrices, marked one after another -/
def markSS : Int → List (List (Int × Int)) → List (List (Int × Int))
  | _, [] => []
  | k, m :: t => markP k m.length :: markSS (k + 2 * (m.length : Int)) t
def sumLen (l : List (List (Int × Int))) : Int := (l.map fun m => (m.length : Int)).foldr (· + ·) 0
theorem sumLen_cons (m : List (Int × Int)) (t : List (List (Int × Int))) : sumLen (m :: t) = m.length + sumLen t := rfl
theorem sumLen_nonneg : ∀ l : List (List (Int × Int)), 0 ≤ sumLen l
  | [] => by simp [sumLen]
  | m :: t => by have := sumLen_nonneg t; rw [sumLen_cons]; omega
theorem sumLen_append (a b : List (List (Int × Int))) : sumLen (a ++ b) = sumLen a + sumLen b := by
  induction a with
  | nil => simp [sumLen]
  | cons m t ih => rw [List.cons_append, sumLen_cons, sumLen_cons, ih]; omega
theorem sumLen_le (l : List (List (Int × Int))) (h : ∀ m ∈ l, m.length ≤ 1048576) : sumLen l ≤ 1048576 * l.length := by
  induction l with
  | nil => simp [sumLen]
  | cons m t ih => have := ih (fun x hx => h x (List.mem_cons_of_mem _ hx)); have := h m (by simp); rw [sumLen_cons, List.length_cons]; omega
theorem markSS_length : ∀ (k : Int) (l : List (List (Int × Int))), (markSS k l).length = l.length
  | _, [] => rfl
  | k, m :: t => by simp [markSS, markSS_length _ t]
theorem markSS_append : ∀ (k : Int) (a b : List (List (Int × Int))), markSS k (a ++ b) = markSS k a ++ markSS (k + 2 * sumLen a) b
  | k, [], b => by simp [markSS, sumLen]
  | k, m :: t, b => by
    simp only [List.cons_append, markSS, markSS_append _ t b, sumLen_cons]
    congr 3
    omega
end Go.Tree
namespace Go.Tree
set_option linter.unusedVariables false
set_option linter.unusedSimpArgs false
theorem ofBytes_one (x : Int) : (ofBytes [x]).size = 1 := rfl
theorem i64_max : IntKind.i64.max = 9223372036854775807 := rfl
end Go.Tree
namespace Go.Tree
set_option linter.unusedVariables false
set_option linter.unusedSimpArgs false
set_option linter.unusedSectionVars false
/-- How many strings two lists begin with alike. -/
def cp : List ByteArray → List ByteArray → Nat
  | x :: a, y :: b => if x.toList = y.toList then cp a b + 1 else 0
  | _, _ => 0
theorem cp_lt : ∀ (a b : List ByteArray) (j : Nat), j < cp a b → j < a.length ∧ j < b.length ∧ (a.getD j .empty).toList = (b.getD j .empty).toList
  | [], b, j, h => by simp [cp] at h
  | x :: a, [], j, h => by simp [cp] at h
  | x :: a, y :: b, j, h => by
    unfold cp at h
    by_cases e : x.toList = y.toList
    · rw [if_pos e] at h
      cases j with
      | zero => exact ⟨by simp, by simp, e⟩
      | succ j =>
        obtain ⟨h1, h2, h3⟩ := cp_lt a b j (by omega)
        exact ⟨by simp; omega, by simp; omega, by simpa using h3⟩
    · rw [if_neg e] at h; omega
theorem cp_stop : ∀ (a b : List ByteArray), cp a b < a.length → cp a b < b.length → ¬ (a.getD (cp a b) .empty).toList = (b.getD (cp a b) .empty).toList
  | [], b, h, _ => by simp at h
  | x :: a, [], _, h => by simp at h
  | x :: a, y :: b, h1, h2 => by
    unfold cp at h1 h2 ⊢
    by_cases e : x.toList = y.toList
    · rw [if_pos e] at h1 h2 ⊢
      have := cp_stop a b (by simpa using h1) (by simpa using h2)
      simpa using this
    · simp only [if_neg e]; simpa using e
theorem cp_le : ∀ (a b : List ByteArray), cp a b ≤ a.length ∧ cp a b ≤ b.length
  | [], b => by simp [cp]
  | x :: a, [] => by simp [cp]
  | x :: a, y :: b => by
    have := cp_le a b
    unfold cp; split <;> simp <;> omega
theorem rev_getD (l : List ByteArray) (f s : Nat) (h : f + s < l.length) : (l.drop f).reverse.getD s .empty = l.getD (l.length - 1 - s) .empty := by
  rw [List.getD_eq_getElem?_getD, List.getElem?_reverse (by simp; omega), List.getElem?_drop, List.getD_eq_getElem?_getD]
  congr 2; simp; omega
/-- How many strings two lists end with alike, behind the ones that they begin with alike. -/
def cs (a b : List ByteArray) : Nat := cp (a.drop (cp a b)).reverse (b.drop (cp a b)).reverse
theorem cs_le (a b : List ByteArray) : cp a b + cs a b ≤ a.length ∧ cp a b + cs a b ≤ b.length := by
  have h := cp_le (a.drop (cp a b)).reverse (b.drop (cp a b)).reverse
  have h2 := cp_le a b
  unfold cs
  simp only [List.length_reverse, List.length_drop] at h
  omega
theorem cs_lt (a b : List ByteArray) (s : Nat) (h : s < cs a b) : (a.getD (a.length - 1 - s) .empty).toList = (b.getD (b.length - 1 - s) .empty).toList := by
  have hle := cs_le a b
  obtain ⟨_, _, h3⟩ := cp_lt (a.drop (cp a b)).reverse (b.drop (cp a b)).reverse s h
  rw [rev_getD _ _ _ (by omega), rev_getD _ _ _ (by omega)] at h3
  exact h3
theorem cs_stop (a b : List ByteArray) (h1 : cp a b + cs a b < a.length) (h2 : cp a b + cs a b < b.length) : ¬ (a.getD (a.length - 1 - cs a b) .empty).toList = (b.getD (b.length - 1 - cs a b) .empty).toList := by
  have h := cp_stop (a.drop (cp a b)).reverse (b.drop (cp a b)).reverse (by simp only [List.length_reverse, List.length_drop]; show cs a b < _; omega) (by simp only [List.length_reverse, List.length_drop]; show cs a b < _; omega)
  rw [show cp (a.drop (cp a b)).reverse (b.drop (cp a b)).reverse = cs a b from rfl, rev_getD _ _ _ h1, rev_getD _ _ _ h2] at h
  exact h
theorem strEq_t {x y : ByteArray} (h : x.toList = y.toList) : strEq x y = true := beq_iff_eq.2 h
theorem strEq_f {x y : ByteArray} (h : ¬ x.toList = y.toList) : strEq x y = false := beq_eq_false_iff_ne.2 h
section
variable {a b : List ByteArray} (ha : a.length ≤ 1048576) (hb : b.length ≤ 1048576)
include ha hb
theorem implRs0 : loopC impl_ResetOf_s0 ((a, b, (0 : Int), ()), (), ()) = some ((a, b, (cp a b : Int), ()), (), ()) :=
  loop_for (s := impl_ResetOf_s0) (fun i => ((a, b, (i : Int), ()), (), ())) (cp a b) _ (by
    intro i hi
    obtain ⟨h1, h2, h3⟩ := cp_lt a b i hi
    simp only [impl_ResetOf_s0, Int.toNat_natCast, strEq_t h3]
    rw [decide_eq_true (by omega), br_true, decide_eq_true (by omega), br_true, ck_pos (by omega), ck_pos h1, ck_pos (by omega), ck_pos h2, br_true, w64_succ h1 (big_len ha)]) (by
    have hle := cp_le a b
    simp only [impl_ResetOf_s0, Int.toNat_natCast]
    by_cases h1 : cp a b < a.length
    · rw [decide_eq_true (by omega), br_true]
      by_cases h2 : cp a b < b.length
      · rw [decide_eq_true (by omega), br_true, ck_pos (by omega), ck_pos h1, ck_pos (by omega), ck_pos h2, strEq_f (cp_stop a b h1 h2), br_false]
      · rw [decide_eq_false (by omega), br_false]
    · rw [decide_eq_false (by omega), br_false])
theorem implRs2 : loopC impl_ResetOf_s2 ((a, b, (cp a b : Int), (0 : Int), ()), (), ()) = some ((a, b, (cp a b : Int), (cs a b : Int), ()), (), ()) :=
  loop_for (s := impl_ResetOf_s2) (fun i => ((a, b, (cp a b : Int), (i : Int), ()), (), ())) (cs a b) _ (by
    intro i hi
    have hle := cs_le a b
    have h3 := cs_lt a b i hi
    simp only [impl_ResetOf_s2, w64_id (x := (a.length : Int) - cp a b) (by omega) (by omega), w64_id (x := (b.length : Int) - cp a b) (by omega) (by omega), w64_id (x := (a.length : Int) - 1) (by omega) (by omega), w64_id (x := (b.length : Int) - 1) (by omega) (by omega), w64_id (x := (a.length : Int) - 1 - i) (by omega) (by omega), w64_id (x := (b.length : Int) - 1 - i) (by omega) (by omega),
      show (a.length : Int) - 1 - i = ((a.length - 1 - i : Nat) : Int) from by omega, show (b.length : Int) - 1 - i = ((b.length - 1 - i : Nat) : Int) from by omega, w64_id (x := ((a.length - 1 - i : Nat) : Int)) (by omega) (by omega), w64_id (x := ((b.length - 1 - i : Nat) : Int)) (by omega) (by omega), Int.toNat_natCast, strEq_t h3]
    rw [decide_eq_true (by omega), br_true, decide_eq_true (by omega), br_true, ck_pos (by omega), ck_pos (by omega), ck_pos (by omega), ck_pos (by omega), br_true, w64_succ hi (by unfold maxLen; omega)]) (by
    have hle := cs_le a b
    simp only [impl_ResetOf_s2, w64_id (x := (a.length : Int) - cp a b) (by omega) (by omega), w64_id (x := (b.length : Int) - cp a b) (by omega) (by omega)]
    by_cases h1 : cp a b + cs a b < a.length
    · rw [decide_eq_true (by omega), br_true]
      by_cases h2 : cp a b + cs a b < b.length
      · rw [decide_eq_true (by omega), br_true]
        simp only [w64_id (x := (a.length : Int) - 1) (by omega) (by omega), w64_id (x := (b.length : Int) - 1) (by omega) (by omega), w64_id (x := (a.length : Int) - 1 - cs a b) (by omega) (by omega), w64_id (x := (b.length : Int) - 1 - cs a b) (by omega) (by omega),
          show (a.length : Int) - 1 - cs a b = ((a.length - 1 - cs a b : Nat) : Int) from by omega, show (b.length : Int) - 1 - cs a b = ((b.length - 1 - cs a b : Nat) : Int) from by omega, w64_id (x := ((a.length - 1 - cs a b : Nat) : Int)) (by omega) (by omega), w64_id (x := ((b.length - 1 - cs a b : Nat) : Int)) (by omega) (by omega), Int.toNat_natCast, strEq_f (cs_stop a b h1 h2)]
        rw [ck_pos (by omega), ck_pos (by omega), ck_pos (by omega), ck_pos (by omega), br_false]
      · rw [decide_eq_false (by omega), br_false]
    · rw [decide_eq_false (by omega), br_false])
def rsN (a b : List ByteArray) : Int × Int × Int × Unit := ((cp a b : Int), ((a.length - cp a b - cs a b : Nat) : Int), ((b.length - cp a b - cs a b : Nat) : Int), ())
theorem implRs_eq : impl_ResetOf a b = some (rsN a b, (), ()) := by
  have hle := cs_le a b
  simp only [impl_ResetOf, implRs0 ha hb, implRs2 ha hb, Option.bind_some, w64_id (x := (a.length : Int) - cp a b) (by omega) (by omega), w64_id (x := (b.length : Int) - cp a b) (by omega) (by omega), w64_id (x := (a.length : Int) - cp a b - cs a b) (by omega) (by omega), w64_id (x := (b.length : Int) - cp a b - cs a b) (by omega) (by omega)]
  unfold rsN
  rw [show (a.length : Int) - cp a b - cs a b = ((a.length - cp a b - cs a b : Nat) : Int) from by omega, show (b.length : Int) - cp a b - cs a b = ((b.length - cp a b - cs a b : Nat) : Int) from by omega]
end
end Go.Tree
namespace Go.Tree
set_option linter.unusedVariables false
set_option linter.unusedSimpArgs false
/-- p lines stay, o go, n come, l stay. -/
def mrkL (p o n l : Nat) : List UInt8 := List.replicate p 61 ++ (List.replicate o 45 ++ (List.replicate n 43 ++ List.replicate l 61))
def mrkB (p o n l : Nat) : ByteArray := ⟨(mrkL p o n l).toArray⟩
theorem mrkL_len (p o n l : Nat) : (mrkL p o n l).length = p + o + n + l := by simp [mrkL]; omega
theorem rep_byte (c : UInt8) : ∀ n, Lib.repeatL [c] n = List.replicate n c
  | 0 => rfl
  | n + 1 => by rw [Lib.repeatL, rep_byte c n, List.replicate_succ]; rfl
theorem ba_app (a b : List UInt8) : (⟨a.toArray⟩ : ByteArray) ++ ⟨b.toArray⟩ = ⟨(a ++ b).toArray⟩ := by
  apply ByteArray.ext; simp
theorem ba_size (a : List UInt8) : (⟨a.toArray⟩ : ByteArray).size = a.length := rfl
theorem repeat_val (c : UInt8) {n : Nat} (h : n ≤ 4194304) : strings_Repeat (ByteArray.mk #[c]) (n : Int) = some ((⟨(List.replicate n c).toArray⟩, ()), (), ()) := by
  unfold strings_Repeat repeatF
  have e : (ByteArray.mk #[c]).size = 1 := rfl
  rw [if_pos ⟨by omega, by omega, by rw [e, Int.toNat_natCast]; omega⟩, Int.toNat_natCast]
  exact congrArg (fun l : List UInt8 => some (strA ⟨l.toArray⟩)) (rep_byte c n)
def mrkAt (p o n i : Nat) : UInt8 := if i < p then 61 else if i < p + o then 45 else if i < p + o + n then 43 else 61
theorem mrkL_get (p o n l i : Nat) (h : i < p + o + n + l) : (mrkL p o n l)[i]? = some (mrkAt p o n i) := by
  unfold mrkL mrkAt
  rw [List.getElem?_append, List.length_replicate]
  by_cases h1 : i < p
  · rw [if_pos h1, if_pos h1, List.getElem?_replicate, if_pos h1]
  · rw [if_neg h1, if_neg h1, List.getElem?_append, List.length_replicate]
    by_cases h2 : i < p + o
    · rw [if_pos (by omega), if_pos h2, List.getElem?_replicate, if_pos (by omega)]
    · rw [if_neg (by omega), if_neg h2, List.getElem?_append, List.length_replicate]
      by_cases h3 : i < p + o + n
      · rw [if_pos (by omega), if_pos h3, List.getElem?_replicate, if_pos (by omega)]
      · rw [if_neg (by omega), if_neg h3, List.getElem?_replicate, if_pos (by omega)]
def mrkAB (a b : List ByteArray) : ByteArray := mrkB (cp a b) (a.length - cp a b - cs a b) (b.length - cp a b - cs a b) (cs a b)
theorem implMk_eq {a b : List ByteArray} (ha : a.length ≤ 1048576) (hb : b.length ≤ 1048576) : impl_MarksOf a b = some ((mrkAB a b, ()), (), ()) := by
  have hle := cs_le a b
  unfold impl_MarksOf mrkAB
  rw [implRs_eq ha hb, Option.bind_some]
  unfold rsN
  obtain ⟨p, hp⟩ : ∃ p, cp a b = p := ⟨_, rfl⟩
  obtain ⟨s, hs⟩ : ∃ s, cs a b = s := ⟨_, rfl⟩
  rw [hp, hs] at hle ⊢
  simp only [repeat_val 61 (n := p) (by omega), repeat_val 45 (n := a.length - p - s) (by omega), repeat_val 43 (n := b.length - p - s) (by omega), Option.bind_some, ba_app, ba_size, List.length_append, List.length_replicate, w64_id (x := (a.length : Int) - p) (by omega) (by omega),
    show (a.length : Int) - p - ((a.length - p - s : Nat) : Int) = (s : Int) from by omega, w64_id (x := (s : Int)) (by omega) (by omega), repeat_val 61 (n := s) (by omega), i64_max]
  rw [ck_pos (by omega), ck_pos (by omega), ck_pos (by omega)]
  unfold mrkB mrkL
  simp only [List.append_assoc]
end Go.Tree
namespace Go.Tree
open Go
set_option linter.unusedVariables false
set_option linter.unusedSimpArgs false
def CurOk (h : List Int) (p : Int) : Prop := h.length ≤ 1048576 ∧ 0 ≤ p ∧ p ≤ h.length
theorem bAnd_255 (x : Int) : 0 ≤ bAnd .i64 x 255 ∧ bAnd .i64 x 255 ≤ 255 := by
  have h : (BitVec.ofInt 64 x &&& BitVec.ofInt 64 255).toNat ≤ 255 := by
    rw [BitVec.toNat_and]
    exact Nat.le_trans Nat.and_le_right (by decide)
  have e : bAnd .i64 x 255 = w64 (((BitVec.ofInt 64 x &&& BitVec.ofInt 64 255).toNat : Nat) : Int) := rfl
  rw [e, w64_id (by omega) (by omega)]
  omega
theorem byte_ex {h : List Int} {p : Int} (c : CurOk h p) (s : Int) : ∃ v p' s', spec_l01Byte h p s = some ((v, (), ()), ((h, p', s', ()), ()), ()) ∧ 0 ≤ v ∧ v ≤ 255 ∧ CurOk h p' := by
  obtain ⟨c1, c2, c3⟩ := c
  simp only [spec_l01Byte]
  by_cases hp : p < (h.length : Int)
  · rw [decide_eq_true hp, br_true, ck_pos c2, ck_pos (by omega)]
    exact ⟨_, _, _, rfl, (bAnd_255 _).1, (bAnd_255 _).2, c1, by rw [w64_id (by omega) (by omega)]; omega, by rw [w64_id (by omega) (by omega)]; omega⟩
  · rw [decide_eq_false hp, br_false]
    exact ⟨_, _, _, rfl, (bAnd_255 _).1, (bAnd_255 _).2, c1, c2, c3⟩
theorem tmod_pos {x n : Int} (h0 : 0 ≤ x) (hn : 0 < n) : 0 ≤ x.tmod n ∧ x.tmod n < n := ⟨Int.tmod_nonneg _ h0, Int.tmod_lt_of_pos _ hn⟩
theorem below_ex {h : List Int} {p : Int} (c : CurOk h p) (s n : Int) : ∃ v p' s', spec_l01Below n h p s = some ((v, (), ()), ((h, p', s', ()), ()), ()) ∧ CurOk h p' ∧ 0 ≤ v ∧ (0 < n → v < n) ∧ (n ≤ 0 → v = 0) := by
  simp only [spec_l01Below]
  by_cases h0 : n ≤ 0
  · rw [decide_eq_true h0, br_true]
    exact ⟨_, _, _, rfl, c, Int.le_refl _, fun h => by omega, fun _ => rfl⟩
  · rw [decide_eq_false h0, br_false]
    by_cases h1 : n ≤ 256
    · rw [decide_eq_true h1, br_true]
      obtain ⟨v, p', s', e, v0, v1, c'⟩ := byte_ex c s
      rw [e, Option.bind_some, ck_pos (by omega)]
      obtain ⟨m0, m1⟩ := tmod_pos v0 (show 0 < n by omega)
      exact ⟨_, _, _, rfl, c', m0, fun _ => m1, fun h => by omega⟩
    · rw [decide_eq_false h1, br_false]
      obtain ⟨v1, p1, s1, e1, a1, b1, c1⟩ := byte_ex c s
      rw [e1, Option.bind_some]
      obtain ⟨v2, p2, s2, e2, a2, b2, c2⟩ := byte_ex c1 s1
      simp only [e2, Option.bind_some]
      obtain ⟨v3, p3, s3, e3, a3, b3, c3⟩ := byte_ex c2 s2
      simp only [e3, Option.bind_some]
      obtain ⟨v4, p4, s4, e4, a4, b4, c4⟩ := byte_ex c3 s3
      simp only [e4, Option.bind_some]
      rw [ck_pos (by omega), w64_id (x := v1 * 16777216) (by omega) (by omega), w64_id (x := v2 * 65536) (by omega) (by omega), w64_id (x := v1 * 16777216 + v2 * 65536) (by omega) (by omega), w64_id (x := v3 * 256) (by omega) (by omega),
        w64_id (x := v1 * 16777216 + v2 * 65536 + v3 * 256) (by omega) (by omega), w64_id (x := v1 * 16777216 + v2 * 65536 + v3 * 256 + v4) (by omega) (by omega)]
      obtain ⟨m0, m1⟩ := tmod_pos (show 0 ≤ v1 * 16777216 + v2 * 65536 + v3 * 256 + v4 by omega) (show 0 < n by omega)
      exact ⟨_, _, _, rfl, c4, m0, fun _ => m1, fun h => by omega⟩
theorem new_ex {code : List Int} (hl : code.length ≤ 1048576) : ∃ s, spec_l01New code = some (((), ()), ((code, 0, s, ()), ()), ()) ∧ CurOk code 0 := by
  obtain ⟨z, hz, hs, rfl⟩ := loopC_rule (step := spec_l01New_s0) (fun x => ∃ (c : Int) (i : Nat), x = ((code, c, (i : Int), ()), (), ()) ∧ i ≤ code.length) (fun x => code.length - x.1.2.2.1.toNat) (fun z => ∃ s, z = ((code, s, ()), (), ())) (by
    rintro _ ⟨c, i, rfl, hi⟩
    simp only [spec_l01New_s0, Int.toNat_natCast]
    by_cases h1 : i < code.length
    · rw [decide_eq_true (by omega), br_true]
      by_cases h2 : (i : Int) < 4000
      · rw [decide_eq_true h2, br_true, ck_pos (by omega), ck_pos h1, w64_succ h1 (by unfold maxLen; omega)]
        exact .inl ⟨_, rfl, ⟨_, i + 1, rfl, by omega⟩, by simp only [Int.toNat_natCast]; omega⟩
      · rw [decide_eq_false h2, br_false]
        exact .inr ⟨_, rfl, _, rfl⟩
    · rw [decide_eq_false (by omega), br_false]
      exact .inr ⟨_, rfl, _, rfl⟩) code.length ((code, w64 (3230 + (code.length : Int)), (0 : Int), ()), (), ()) (by simp) ⟨_, 0, rfl, by omega⟩
  refine ⟨hs, ?_, hl, Int.le_refl _, by omega⟩
  simp only [spec_l01New, hz, Option.bind_some]
theorem pick_ex {h : List Int} {p : Int} (c : CurOk h p) (s : Int) {l : List ByteArray} (h1 : 1 ≤ l.length) : ∃ v p' s', spec_l01Pick l h p s = some ((v, (), ()), ((h, p', s', ()), ()), ()) ∧ CurOk h p' ∧ v ∈ l := by
  obtain ⟨v, p', s', e, c', v0, v1, _⟩ := below_ex c s (l.length : Int)
  simp only [spec_l01Pick, e, Option.bind_some]
  have hlt : v.toNat < l.length := by have := v1 (by omega); omega
  rw [ck_pos v0, ck_pos hlt]
  refine ⟨_, _, _, rfl, c', ?_⟩
  rw [List.getD_eq_getElem?_getD, List.getElem?_eq_getElem hlt]
  exact List.getElem_mem hlt
theorem once_ex {h : List Int} {p : Int} (c : CurOk h p) (s n : Int) : ∃ v p' s', spec_l01Once n h p s = some ((v, (), ()), ((h, p', s', ()), ()), ()) ∧ CurOk h p' := by
  obtain ⟨v, p', s', e, c', _⟩ := below_ex c s n
  exact ⟨v == 0, p', s', by simp only [spec_l01Once, e, Option.bind_some], c'⟩
end Go.Tree
namespace Go.Tree
open Go
set_option linter.unusedVariables false
set_option linter.unusedSimpArgs false
theorem lists6_ex {h : List Int} {p : Int} (c : CurOk h p) (s : Int) : ∃ p' s' a b, spec_l6Lists h p s = some (((), (), (), ()), ((h, p', s', ()), ()), (a, b, ())) ∧ CurOk h p' ∧ a.length ≤ 20 ∧ b.length ≤ 20 := by
  obtain ⟨v, p1, s1, e, c1, v0, v1, _⟩ := below_ex c s 9
  have v1 := v1 (by omega)
  obtain ⟨z, hz, p', s', a, b, rfl, c', la, lb⟩ := loopC_rule (step := spec_l6Lists_s0) (fun x => ∃ (n : Nat) (p s : Int) (a b : List ByteArray), x = (((), (), (), (n : Int), ()), ((h, p, s, ()), ()), (a, b, ())) ∧ n ≤ 8 ∧ CurOk h p ∧ a.length + n ≤ 8 ∧ b.length + n ≤ 8)
    (fun x => x.1.2.2.2.1.toNat) (fun z => ∃ p s a b, z = (((), (), (), ()), ((h, p, s, ()), ()), (a, b, ())) ∧ CurOk h p ∧ a.length ≤ 20 ∧ b.length ≤ 20) (by
    rintro _ ⟨n, p, s, a, b, rfl, hn, c, la, lb⟩
    simp only [spec_l6Lists_s0]
    by_cases h1 : 0 < n
    · rw [decide_eq_true (by omega), br_true]
      obtain ⟨v, p1, s1, e1, c1, _⟩ := pick_ex c s (l := [(ByteArray.mk #[97]), (ByteArray.mk #[98]), (ByteArray.mk #[97, 32, 98]), ByteArray.empty]) (by simp)
      rw [e1, Option.bind_some]
      obtain ⟨o, p2, s2, e2, c2⟩ := once_ex c1 s1 7
      simp only [e2, Option.bind_some]
      obtain ⟨q, p3, s3, e3, c3⟩ := once_ex c2 s2 7
      obtain ⟨n', rfl⟩ : ∃ n', n = n' + 1 := ⟨n - 1, by omega⟩
      have ew : w64 (((n' + 1 : Nat) : Int) - 1) = (n' : Int) := by rw [w64_id (by omega) (by omega)]; omega
      left
      cases o <;> cases q <;> simp only [e3, Option.bind_some, Bool.not_true, Bool.not_false, br_true, br_false, ew]
      · rw [ck_pos (by simp; omega), ck_pos (by simp; omega)]
        exact ⟨_, rfl, ⟨n', _, _, _, _, rfl, by omega, c3, by simp; omega, by simp; omega⟩, by simp⟩
      · rw [ck_pos (by simp; omega)]
        exact ⟨_, rfl, ⟨n', _, _, _, _, rfl, by omega, c3, by simp; omega, by omega⟩, by simp⟩
      · rw [ck_pos (by simp; omega)]
        exact ⟨_, rfl, ⟨n', _, _, _, _, rfl, by omega, c3, by omega, by simp; omega⟩, by simp⟩
      · exact ⟨_, rfl, ⟨n', _, _, _, _, rfl, by omega, c3, by omega, by omega⟩, by simp⟩
    · rw [decide_eq_false (by omega), br_false]
      exact .inr ⟨_, rfl, _, _, _, _, rfl, c, by omega, by omega⟩) v.toNat (((), (), (), v, ()), ((h, p1, s1, ()), ()), ([], [], ())) (by simp) ⟨v.toNat, p1, s1, [], [], by rw [Int.toNat_of_nonneg v0], by omega, c1, by simp; omega, by simp; omega⟩
  exact ⟨p', s', a, b, by simp only [spec_l6Lists, e, Option.bind_some, hz], c', la, lb⟩
def stayN (p o n i : Nat) : Nat := min i p + (i - (p + o + n))
def goneN (p o i : Nat) : Nat := min (i - p) o
def comeN (p o n i : Nat) : Nat := min (i - p - o) n
theorem byteAt_mrk (p o n l i : Nat) (h : i < p + o + n + l) : byteAt (mrkB p o n l) i = ((mrkAt p o n i).toNat : Int) := by
  unfold byteAt mrkB
  rw [List.getD_eq_getElem?_getD]
  show ((((mrkL p o n l).toArray.toList)[i]?.getD 0).toNat : Int) = _
  rw [mrkL_get p o n l i h]; rfl
theorem marks_loop {a b : List ByteArray} (p o n l : Nat) (ht : p + o + n + l ≤ 4194304) :
    loopC laws_FnMarks_s0 (((), (), mrkB p o n l, (p : Int), (o : Int), (n : Int), (0 : Int), (0 : Int), (0 : Int), (0 : Int), ()), (), (a, b, ())) =
      some (.inr (((), (), mrkB p o n l, (o : Int), (n : Int), ((p + l : Nat) : Int), (o : Int), (n : Int), ()), (), (a, b, ()))) := by
  have hsz : (mrkB p o n l).size = p + o + n + l := mrkL_len p o n l
  have h := loop_for (s := laws_FnMarks_s0) (fun i => (((), (), mrkB p o n l, (p : Int), (o : Int), (n : Int), (stayN p o n i : Int), (goneN p o i : Int), (comeN p o n i : Int), (i : Int), ()), (), (a, b, ()))) (p + o + n + l)
    (.inr (((), (), mrkB p o n l, (o : Int), (n : Int), (stayN p o n (p + o + n + l) : Int), (goneN p o (p + o + n + l) : Int), (comeN p o n (p + o + n + l) : Int), ()), (), (a, b, ()))) (by
    intro i hi
    have hb := byteAt_mrk p o n l i hi
    have wi : w64 ((i : Int) + 1) = ((i + 1 : Nat) : Int) := w64_succ hi (by unfold maxLen; omega)
    have w1 : w64 ((stayN p o n i : Int) + 1) = (stayN p o n i : Int) + 1 := w64_id (by omega) (by unfold stayN; omega)
    have w2 : w64 ((goneN p o i : Int) + 1) = (goneN p o i : Int) + 1 := w64_id (by omega) (by unfold goneN; omega)
    have w3 : w64 ((comeN p o n i : Int) + 1) = (comeN p o n i : Int) + 1 := w64_id (by omega) (by unfold comeN; omega)
    have w4 : w64 ((goneN p o i : Int) + comeN p o n i) = (goneN p o i : Int) + comeN p o n i := w64_id (by omega) (by unfold goneN comeN; omega)
    have w5 : w64 ((goneN p o i : Int) + 1 + comeN p o n i) = (goneN p o i : Int) + 1 + comeN p o n i := w64_id (by omega) (by unfold goneN comeN; omega)
    have w6 : w64 ((goneN p o i : Int) + ((comeN p o n i : Int) + 1)) = (goneN p o i : Int) + ((comeN p o n i : Int) + 1) := w64_id (by omega) (by unfold goneN comeN; omega)
    have w7 : w64 ((o : Int) + n) = (o : Int) + n := w64_id (by omega) (by omega)
    simp only [laws_FnMarks_s0, Int.toNat_natCast, hsz, hb, wi, w1, w2, w3, w4, w5, w6, w7]
    rw [decide_eq_true (by omega), br_true, ck_pos ⟨by omega, hi⟩]
    by_cases h1 : i < p
    · have hx : ((mrkAt p o n i).toNat : Int) = 61 := by unfold mrkAt; rw [if_pos h1]; rfl
      rw [hx, show ((61 : Int) == 61) = true from rfl, br_true, decide_eq_true (by omega), br_true, ck_pos ⟨by omega, hi⟩, show ((61 : Int) != 61) = false from rfl, br_false, beq_eq_false_iff_ne.2 (by omega), br_false]
      have e1 : (stayN p o n i : Int) + 1 = (stayN p o n (i + 1) : Int) := by unfold stayN; omega
      have e2 : goneN p o i = goneN p o (i + 1) := by unfold goneN; omega
      have e3 : comeN p o n i = comeN p o n (i + 1) := by unfold comeN; omega
      rw [e1, e2, e3]
    · by_cases h2 : i < p + o
      · have hx : ((mrkAt p o n i).toNat : Int) = 45 := by unfold mrkAt; rw [if_neg h1, if_pos h2]; rfl
        have e1 : stayN p o n i = stayN p o n (i + 1) := by unfold stayN; omega
        have e2 : (goneN p o i : Int) + 1 = (goneN p o (i + 1) : Int) := by unfold goneN; omega
        have e3 : comeN p o n i = comeN p o n (i + 1) := by unfold comeN; omega
        rw [hx, show ((45 : Int) == 61) = false from rfl, br_false, show ((45 : Int) == 45) = true from rfl, br_true, decide_eq_false (by omega), br_false]
        by_cases h3 : i = p
        · rw [beq_iff_eq.2 (by omega), br_true, beq_eq_false_iff_ne.2 (by omega), br_false, e1, e2, e3]
        · rw [beq_eq_false_iff_ne.2 (by omega), br_false, e1, e2, e3]
      · by_cases h3 : i < p + o + n
        · have hx : ((mrkAt p o n i).toNat : Int) = 43 := by unfold mrkAt; rw [if_neg h1, if_neg h2, if_pos h3]; rfl
          have e1 : stayN p o n i = stayN p o n (i + 1) := by unfold stayN; omega
          have e2 : goneN p o i = goneN p o (i + 1) := by unfold goneN; omega
          have e3 : (comeN p o n i : Int) + 1 = (comeN p o n (i + 1) : Int) := by unfold comeN; omega
          rw [hx, show ((43 : Int) == 61) = false from rfl, br_false, show ((43 : Int) == 45) = false from rfl, br_false, show ((43 : Int) == 43) = true from rfl, br_true, decide_eq_false (by omega), br_false]
          by_cases h4 : i = p
          · rw [beq_iff_eq.2 (by omega), br_true, beq_eq_false_iff_ne.2 (by omega), br_false, e1, e2, e3]
          · rw [beq_eq_false_iff_ne.2 (by omega), br_false, e1, e2, e3]
        · have hx : ((mrkAt p o n i).toNat : Int) = 61 := by unfold mrkAt; rw [if_neg h1, if_neg h2, if_neg h3]; rfl
          have e1 : (stayN p o n i : Int) + 1 = (stayN p o n (i + 1) : Int) := by unfold stayN; omega
          have e2 : goneN p o i = goneN p o (i + 1) := by unfold goneN; omega
          have e3 : comeN p o n i = comeN p o n (i + 1) := by unfold comeN; omega
          rw [hx, show ((61 : Int) == 61) = true from rfl, br_true, decide_eq_false (by omega), br_false]
          by_cases h4 : i = p
          · rw [beq_iff_eq.2 (show (i : Int) = p by omega), br_true]
            have g0 : (goneN p o i : Int) + comeN p o n i = 0 := by unfold goneN comeN; omega
            rw [beq_iff_eq.2 g0, br_true, decide_eq_false (by omega), br_false, e1, e2, e3]
          · rw [beq_eq_false_iff_ne.2 (by omega), br_false, e1, e2, e3]) (by
    simp only [laws_FnMarks_s0, hsz]
    rw [decide_eq_false (by omega), br_false])
  have e0 : stayN p o n 0 = 0 ∧ goneN p o 0 = 0 ∧ comeN p o n 0 = 0 := by unfold stayN goneN comeN; omega
  have e1 : stayN p o n (p + o + n + l) = p + l ∧ goneN p o (p + o + n + l) = o ∧ comeN p o n (p + o + n + l) = n := by unfold stayN goneN comeN; omega
  simp only [e0.1, e0.2.1, e0.2.2, e1.1, e1.2.1, e1.2.2] at h
  exact h
theorem law_FnMarks {code : List Int} : laws_FnMarks code = some ((true, ()), (), ()) := by
  simp only [laws_FnMarks]
  by_cases h0 : (code.length : Int) > 1048576
  · rw [decide_eq_true h0]; rfl
  rw [decide_eq_false h0, br_false]
  obtain ⟨s, e, c⟩ := new_ex (code := code) (by omega)
  obtain ⟨p', s', a, b, e2, _, la, lb⟩ := lists6_ex c s
  have hd : spec_DrawMarksOf code = some (((), (), ()), (), (a, b, ())) := by
    simp only [spec_DrawMarksOf, e, Option.bind_some, e2]
  have hle := cs_le a b
  simp only [hd, Option.bind_some, implMk_eq (a := a) (b := b) (by omega) (by omega), implRs_eq (a := a) (b := b) (by omega) (by omega), rsN, mrkAB]
  have hl := marks_loop (a := a) (b := b) (cp a b) (a.length - cp a b - cs a b) (b.length - cp a b - cs a b) (cs a b) (by omega)
  rw [hl, Option.bind_some]
  have hsz : (mrkB (cp a b) (a.length - cp a b - cs a b) (b.length - cp a b - cs a b) (cs a b)).size = cp a b + (a.length - cp a b - cs a b) + (b.length - cp a b - cs a b) + cs a b := mrkL_len _ _ _ _
  simp only [sumK_inr, hsz]
  rw [beq_iff_eq.2 (by rw [w64_id (by omega) (by omega)]; omega), br_true, beq_iff_eq.2 rfl, br_true, beq_iff_eq.2 rfl, br_true, w64_id (x := ((cp a b + cs a b : Nat) : Int) + ((a.length - cp a b - cs a b : Nat) : Int)) (by omega) (by omega),
    beq_iff_eq.2 (by rw [w64_id (by omega) (by omega)]; omega), br_true, beq_iff_eq.2 (by rw [w64_id (by omega) (by omega)]; omega)]
theorem row_FnMarks : ∀ x : laws_FnMarks_C.arg.den, wfP laws_FnMarks_C.arg.tm x.1 → ∃ y : altDen laws_FnMarks_C.res, laws_FnMarks_C.F x = some y ∧ (altMk laws_FnMarks_C.res y).tm = [(0, .c (.v (.bool true)))] :=
  fun x hx => ⟨((true, ()), (), ()), law_FnMarks, rfl⟩
end Go.Tree
