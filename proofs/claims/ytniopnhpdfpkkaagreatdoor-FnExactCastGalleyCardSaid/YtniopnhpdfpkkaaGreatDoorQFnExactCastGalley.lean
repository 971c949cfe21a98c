/- What the functions of the law FnExactCastGalley answer, in plain Lean, with no program in sight. No condition but the bounds of lengths. -/
import Derived.Test.YtniopnhpdfpkkaaGreatDoorK8
import Derived.Test.YtniopnhpdfpkkaaGreatDoorPFnExactCastGalley
set_option linter.all false
namespace Go.Tree

@[simp] theorem br_true {α : Type} (x y : α) : br true x y = x := rfl
@[simp] theorem br_false {α : Type} (x y : α) : br false x y = y := rfl
theorem br_ite {α : Type} (b : Bool) (x y : α) : br b x y = if b = true then x else y := by cases b <;> rfl
@[simp] theorem sumK_inl {X Y α : Type} (z : X) (f : X → α) (g : Y → α) : sumK (.inl z : X ⊕ Y) f g = f z := rfl
@[simp] theorem sumK_inr {X Y α : Type} (z : Y) (f : X → α) (g : Y → α) : sumK (.inr z : X ⊕ Y) f g = g z := rfl
theorem sumK_ite {X Y α : Type} (p : Prop) [Decidable p] (a b : X ⊕ Y) (f : X → α) (g : Y → α) : sumK (if p then a else b) f g = if p then sumK a f g else sumK b f g := by split <;> rfl
theorem ck_pos {α : Type} {p : Prop} [Decidable p] (h : p) (x : Option α) : ck p x = x := if_pos h
theorem w64_id {x : Int} (h1 : -9223372036854775808 ≤ x) (h2 : x ≤ 9223372036854775807) : w64 x = x := by
  simp only [w64, IntKind.wrap, IntKind.bits, IntKind.signed, Bool.true_and]
  by_cases h : x % 2 ^ 64 ≥ 2 ^ (64 - 1)
  · rw [if_pos (by simpa using h)]; omega
  · rw [if_neg (by simpa using h)]; omega
theorem w64_succ {i n : Nat} (h : i < n) (hn : n ≤ maxLen) : w64 ((i : Int) + 1) = ((i + 1 : Nat) : Int) := by
  unfold maxLen at hn
  rw [w64_id] <;> omega
section
variable {X Z : Type} {s : X → Option (X ⊕ Z)}
theorem loop_step {x y : X} (h : s x = some (.inl y)) : loopC s x = loopC s y := by rw [loopC_eq, h]
theorem loop_out {x : X} {z : Z} (h : s x = some (.inr z)) : loopC s x = some z := by rw [loopC_eq, h]

theorem loop_findFrom (st : Nat → X) (n : Nat) (f : Nat → Option Z) (done : Z)
    (hs : ∀ i, i < n → s (st i) = some (match f i with | some z => .inr z | none => .inl (st (i + 1)))) (hd : s (st n) = some (.inr done)) : ∀ k i, i + k = n →
    loopC s (st i) = some (((List.range' i k).findSome? f).getD done)
  | 0, i, e => by
    have : i = n := by omega
    subst this
    rw [loop_out hd]; rfl
  | k + 1, i, e => by
    have h := hs i (by omega)
    rw [List.range'_succ, List.findSome?_cons]
    cases hf : f i with
    | some z => rw [hf] at h; rw [loop_out h]; rfl
    | none => rw [hf] at h; rw [loop_step h]; exact loop_findFrom st n f done hs hd k (i + 1) (by omega)
theorem loop_find (st : Nat → X) (n : Nat) (f : Nat → Option Z) (done : Z)
    (hs : ∀ i, i < n → s (st i) = some (match f i with | some z => .inr z | none => .inl (st (i + 1)))) (hd : s (st n) = some (.inr done)) :
    loopC s (st 0) = some (((List.range n).findSome? f).getD done) := by
  rw [loop_findFrom st n f done hs hd n 0 (by omega), List.range_eq_range']
theorem loop_allI (st : Nat → X) (n : Nat) (p : Nat → Bool) (z done : Z)
    (hs : ∀ i, i < n → s (st i) = some (if p i = true then .inl (st (i + 1)) else .inr z)) (hd : s (st n) = some (.inr done)) :
    loopC s (st 0) = some (if (List.range n).all p = true then done else z) := by
  rw [loop_find st n (fun i => if p i = true then none else some z) done (fun i hi => by rw [hs i hi]; split <;> rfl) hd]
  congr 1
  generalize List.range n = l
  induction l with
  | nil => rfl
  | cons a l ih => rw [List.findSome?_cons, List.all_cons]; by_cases h : p a = true <;> simp [h, ih]
theorem range_all {α : Type} (l : List α) (d : α) (p : α → Bool) : (List.range l.length).all (fun i => p (l.getD i d)) = l.all p := by
  rw [Bool.eq_iff_iff, List.all_eq_true, List.all_eq_true]
  constructor
  · intro h x hx
    obtain ⟨i, hi, rfl⟩ := List.mem_iff_getElem.1 hx
    have := h i (List.mem_range.2 hi)
    rwa [List.getD_eq_getElem?_getD, List.getElem?_eq_getElem hi] at this
  · intro h i hi
    have hi' := List.mem_range.1 hi
    rw [List.getD_eq_getElem?_getD, List.getElem?_eq_getElem hi']
    exact h _ (List.getElem_mem hi')
theorem loop_all {α : Type} (l : List α) (d : α) (st : Nat → X) (p : α → Bool) (z done : Z)
    (hs : ∀ i, i < l.length → s (st i) = some (if p (l.getD i d) = true then .inl (st (i + 1)) else .inr z)) (hd : s (st l.length) = some (.inr done)) :
    loopC s (st 0) = some (if l.all p = true then done else z) := by
  rw [loop_allI st l.length (fun i => p (l.getD i d)) z done hs hd, range_all]
theorem loop_idx {α : Type} (l : List α) (d : α) (st : Nat → X) (p : α → Bool) (found : Nat → Z) (done : Z)
    (hs : ∀ i, i < l.length → s (st i) = some (if p (l.getD i d) = true then .inr (found i) else .inl (st (i + 1)))) (hd : s (st l.length) = some (.inr done)) :
    loopC s (st 0) = some (if l.findIdx p < l.length then found (l.findIdx p) else done) := by
  have go : ∀ k i, i + k = l.length → (∀ j, j < i → p (l.getD j d) = false) → loopC s (st i) = some (if l.findIdx p < l.length then found (l.findIdx p) else done) := by
    intro k
    induction k with
    | zero =>
      intro i hi hp
      have : i = l.length := by omega
      subst this
      rw [loop_out hd, List.findIdx_eq_length_of_false, if_neg (by omega)]
      intro x hx
      obtain ⟨j, hj, rfl⟩ := List.mem_iff_getElem.1 hx
      have := hp j hj
      rwa [List.getD_eq_getElem?_getD, List.getElem?_eq_getElem hj] at this
    | succ k ih =>
      intro i hi hp
      have h := hs i (by omega)
      split at h
      · rename_i hpi
        have e : l.findIdx p = i := by
          rw [List.findIdx_eq (by omega)]
          rw [List.getD_eq_getElem?_getD, List.getElem?_eq_getElem (by omega)] at hpi
          refine ⟨hpi, fun j hj => ?_⟩
          have := hp j hj
          rwa [List.getD_eq_getElem?_getD, List.getElem?_eq_getElem (by omega)] at this
        rw [loop_out h, e, if_pos (by omega)]
      · rename_i hpi
        rw [loop_step h]
        refine ih (i + 1) (by omega) fun j hj => ?_
        by_cases hji : j = i
        · subst hji; simpa using hpi
        · exact hp j (by omega)
  exact go l.length 0 (by omega) (fun j hj => by omega)
theorem loop_acc {A : Type} (st : Nat → A → X) (n : Nat) (f : Nat → A → A) (I : Nat → A → Prop) (out : A → Z)
    (hs : ∀ i a, i < n → I i a → s (st i a) = some (.inl (st (i + 1) (f i a))) ∧ I (i + 1) (f i a)) (hd : ∀ a, I n a → s (st n a) = some (.inr (out a))) (a : A) (h0 : I 0 a) :
    loopC s (st 0 a) = some (out ((List.range n).foldl (fun a i => f i a) a)) ∧ I n ((List.range n).foldl (fun a i => f i a) a) := by
  have go : ∀ k i a, i + k = n → I i a → loopC s (st i a) = some (out ((List.range' i k).foldl (fun a i => f i a) a)) ∧ I n ((List.range' i k).foldl (fun a i => f i a) a) := by
    intro k
    induction k with
    | zero =>
      intro i a hi hI
      have : i = n := by omega
      subst this
      exact ⟨loop_out (hd a hI), hI⟩
    | succ k ih =>
      intro i a hi hI
      obtain ⟨h1, h2⟩ := hs i a (by omega) hI
      rw [loop_step h1, List.range'_succ, List.foldl_cons]
      exact ih (i + 1) _ (by omega) h2
  rw [List.range_eq_range']
  exact go n 0 a (by omega) h0
theorem loop_for (st : Nat → X) (n : Nat) (done : Z) (hs : ∀ i, i < n → s (st i) = some (.inl (st (i + 1)))) (hd : s (st n) = some (.inr done)) : loopC s (st 0) = some done := by
  rw [loop_find st n (fun _ => none) done (fun i hi => by rw [hs i hi]) hd]
  congr 1
  generalize List.range n = l
  induction l with
  | nil => rfl
  | cons a l ih => simpa using ih
end
def fillTo {α : Type} (l : List α) (d : α) (i : Nat) : List α := l.take i ++ List.replicate (l.length - i) d
theorem fillTo_zero {α : Type} (l : List α) (d : α) : fillTo l d 0 = List.replicate l.length d := by simp [fillTo]
theorem fillTo_all {α : Type} (l : List α) (d : α) : fillTo l d l.length = l := by simp [fillTo]
theorem fillTo_length {α : Type} (l : List α) (d : α) {i : Nat} (h : i ≤ l.length) : (fillTo l d i).length = l.length := by simp [fillTo]; omega
theorem fillTo_set {α : Type} (l : List α) (d e : α) {i : Nat} (h : i < l.length) : (fillTo l d i).set i (l.getD i e) = fillTo l d (i + 1) := by
  rw [List.getD_eq_getElem?_getD, List.getElem?_eq_getElem h, Option.getD_some]
  apply List.ext_getElem?
  intro j
  unfold fillTo
  rw [List.getElem?_set]
  have m1 : (l.take i).length = i := by simp; omega
  have m2 : (l.take (i + 1)).length = i + 1 := by simp; omega
  have L : (l.take i ++ List.replicate (l.length - i) d).length = l.length := by simp; omega
  rw [L]
  by_cases hji : i = j
  · subst hji
    rw [if_pos rfl, if_pos h, List.getElem?_append_left (by omega), List.getElem?_take_of_lt (by omega), List.getElem?_eq_getElem h]
  · rw [if_neg hji]
    by_cases hj : j < i
    · rw [List.getElem?_append_left (by omega), List.getElem?_append_left (by omega), List.getElem?_take_of_lt hj, List.getElem?_take_of_lt (by omega)]
    · rw [List.getElem?_append_right (by omega), List.getElem?_append_right (by omega), m1, m2, List.getElem?_replicate, List.getElem?_replicate]
      by_cases h2 : j < l.length
      · rw [if_pos (by omega), if_pos (by omega)]
      · rw [if_neg (by omega), if_neg (by omega)]
end Go.Tree
namespace Go.Tree

theorem big_len {n : Nat} (h : n ≤ 1048576) : n ≤ maxLen := by unfold maxLen; omega
def Sz (F : Option ((Int × Unit) × Unit × Unit)) (n : Int) (Q : Prop) : Prop := ∃ r : Int, F = some ((r, ()), (), ()) ∧ -1 ≤ r ∧ r ≤ n ∧ (0 ≤ r → Q)
theorem sub_len {n : Int} {k : Nat} (h0 : 0 ≤ n) (h1 : n ≤ 1048576) (hk : k ≤ maxLen) : w64 (n - (k : Int)) = n - k := by
  unfold maxLen at hk
  rw [w64_id] <;> omega
theorem szIntS_eq {l : List Int} {n : Int} (h0 : 0 ≤ n) (h1 : n ≤ 1048576) (hl : l.length ≤ maxLen) : Sz (laws_szIntS l n) n (l.length ≤ n) := by
  simp only [laws_szIntS, sub_len h0 h1 hl, br_ite, decide_eq_true_eq]
  by_cases h : n - (l.length : Int) < 0
  · rw [if_pos h]; exact ⟨-1, rfl, by omega, by omega, by omega⟩
  · rw [if_neg h]; exact ⟨_, rfl, by omega, by omega, by omega⟩
theorem szMatrixS_eq {l : List (Int × Int)} {n : Int} (h0 : 0 ≤ n) (h1 : n ≤ 1048576) (hl : l.length ≤ maxLen) : Sz (laws_szMatrixS l n) n (l.length ≤ n) := by
  simp only [laws_szMatrixS, sub_len h0 h1 hl, br_ite, decide_eq_true_eq]
  by_cases h : n - (l.length : Int) < 0
  · rw [if_pos h]; exact ⟨-1, rfl, by omega, by omega, by omega⟩
  · rw [if_neg h]; exact ⟨_, rfl, by omega, by omega, by omega⟩
theorem Sz.bind {F : Option ((Int × Unit) × Unit × Unit)} {n : Int} {Q R : Prop} (h : Sz F n Q) {G : (Int × Unit) × Unit × Unit → Option ((Int × Unit) × Unit × Unit)}
    (hG : ∀ r, 0 ≤ r → r ≤ n → Q → Sz (G ((r, ()), (), ())) n R) : Sz (F.bind fun r => br (decide (r.1.1 < (0 : Int))) (some (((-1 : Int), ()), (), ())) (G r)) n R := by
  obtain ⟨r, rfl, h1, h2, h3⟩ := h
  rw [Option.bind_some, br_ite]
  by_cases h : r < 0
  · rw [if_pos (by simpa using h)]; exact ⟨-1, rfl, by omega, by omega, by omega⟩
  · rw [if_neg (by simpa using h)]; exact hG r (by omega) h2 (h3 (by omega))
theorem Sz.mono {F : Option ((Int × Unit) × Unit × Unit)} {n m : Int} {Q R : Prop} (h : Sz F n Q) (hnm : n ≤ m) (hQ : Q → R) : Sz F m R := by
  obtain ⟨r, e, h1, h2, h3⟩ := h
  exact ⟨r, e, h1, by omega, fun h => hQ (h3 h)⟩
theorem Sz.ret {n r : Int} (h0 : 0 ≤ r) (h1 : r ≤ n) {Q : Prop} (hQ : Q) : Sz (some ((r, ()), (), ())) n Q := ⟨r, rfl, by omega, h1, fun _ => hQ⟩
theorem szMatrixSS_eq {l : List (List (Int × Int))} {n : Int} (h0 : 0 ≤ n) (h1 : n ≤ 1048576) (hl : l.length ≤ maxLen) (hm : ∀ m ∈ l, m.length ≤ maxLen) :
    Sz (laws_szMatrixSS l n) n (l.length ≤ n ∧ ∀ m ∈ l, m.length ≤ n) := by
  simp only [laws_szMatrixSS, sub_len h0 h1 hl, br_ite, decide_eq_true_eq]
  by_cases h : n - (l.length : Int) < 0
  · rw [if_pos h]; exact ⟨-1, rfl, by omega, by omega, by omega⟩
  · rw [if_neg h]
    obtain ⟨z, hz, hQ⟩ := loopC_rule (step := laws_szMatrixSS_s0) (fun x => ∃ (c : Int) (i : Nat), x = ((l, c, (i : Int), ()), (), ()) ∧ 0 ≤ c ∧ c ≤ n ∧ i ≤ l.length ∧ ∀ m ∈ l.take i, m.length ≤ n)
      (fun x => l.length - x.1.2.2.1.toNat) (fun z => (∃ r, z = .inl ((r, ()), (), ()) ∧ r = -1) ∨ ∃ r, z = .inr ((r, ()), (), ()) ∧ 0 ≤ r ∧ r ≤ n ∧ ∀ m ∈ l, m.length ≤ n) (by
        rintro _ ⟨c, i, rfl, hc0, hc1, hi, hall⟩
        simp only [laws_szMatrixSS_s0, Int.toNat_natCast, br_ite, decide_eq_true_eq, Int.ofNat_lt]
        by_cases hi' : i < l.length
        · rw [if_pos hi', ck_pos (by omega), ck_pos hi']
          have hmem : l.getD i [] ∈ l := by rw [List.getD_eq_getElem?_getD, List.getElem?_eq_getElem hi']; exact List.getElem_mem hi'
          obtain ⟨r, e, e1, e2, e3⟩ := szMatrixS_eq (l := l.getD i []) hc0 (by omega) (hm _ hmem)
          rw [e, Option.bind_some]
          by_cases hr : r < 0
          · rw [if_pos hr]; exact .inr ⟨_, rfl, .inl ⟨_, rfl, rfl⟩⟩
          · rw [if_neg hr, w64_succ hi' hl]
            refine .inl ⟨_, rfl, ⟨r, i + 1, rfl, by omega, by omega, by omega, fun m hm' => ?_⟩, by simp only [Int.toNat_natCast]; omega⟩
            rw [List.take_succ_eq_append_getElem hi', List.mem_append] at hm'
            rcases hm' with hm' | hm'
            · exact hall m hm'
            · simp at hm'
              subst hm'
              have := e3 (by omega)
              rw [List.getD_eq_getElem?_getD, List.getElem?_eq_getElem hi', Option.getD_some] at this
              omega
        · rw [if_neg hi']
          have : i = l.length := by omega
          subst this
          rw [List.take_length] at hall
          exact .inr ⟨_, rfl, .inr ⟨_, rfl, hc0, hc1, hall⟩⟩) l.length ((l, n - (l.length : Int), (0 : Int), ()), (), ()) (by simp) ⟨_, 0, rfl, by omega, by omega, by omega, by simp⟩
    rw [hz, Option.bind_some]
    rcases hQ with ⟨r, rfl, rfl⟩ | ⟨r, rfl, q1, q2, q3⟩
    · exact ⟨-1, rfl, by omega, by omega, by omega⟩
    · exact ⟨r, rfl, by omega, by omega, fun _ => ⟨by omega, q3⟩⟩
theorem szFont_eq {a : ByteArray} {b c : List Int} {n : Int} (h0 : 0 ≤ n) (h1 : n ≤ 1048576) (ha : a.size ≤ maxLen) (hb : b.length ≤ maxLen) (hc : c.length ≤ maxLen) :
    Sz (laws_szFont a b c n) n (a.size ≤ n ∧ b.length ≤ n ∧ c.length ≤ n) := by
  simp only [laws_szFont, sub_len h0 h1 ha]
  rw [br_ite]
  by_cases h : n - (a.size : Int) < 0
  · rw [if_pos (by simpa using h)]; exact ⟨-1, rfl, by omega, by omega, by omega⟩
  · rw [if_neg (by simpa using h)]
    exact (((szIntS_eq (by omega) (by omega) hb).bind (R := b.length ≤ n ∧ c.length ≤ n) fun r r0 r1 q => ((szIntS_eq r0 (by omega) hc).bind (R := b.length ≤ n ∧ c.length ≤ n) fun s s0 s1 p => Sz.ret s0 s1 ⟨by omega, by omega⟩).mono (by omega) id).mono (by omega) (fun h' => ⟨by omega, h'⟩))
theorem szMachine_eq {a : ByteArray} {b c : List Int} {d : List (List (Int × Int))} {e0 e1 e2 e3 : Int} {f g : List (Int × Int)} {n : Int} (h0 : 0 ≤ n) (h1 : n ≤ 1048576)
    (ha : a.size ≤ maxLen) (hb : b.length ≤ maxLen) (hc : c.length ≤ maxLen) (hd : d.length ≤ maxLen) (hd' : ∀ m ∈ d, m.length ≤ maxLen) (hf : f.length ≤ maxLen) (hg : g.length ≤ maxLen) :
    Sz (laws_szMachine a b c d e0 e1 e2 e3 f g n) n (a.size ≤ n ∧ b.length ≤ n ∧ c.length ≤ n ∧ d.length ≤ n ∧ (∀ m ∈ d, m.length ≤ n) ∧ f.length ≤ n ∧ g.length ≤ n) := by
  unfold laws_szMachine
  exact (szFont_eq h0 h1 ha hb hc).bind fun r r0 r1 q1 => ((szMatrixSS_eq r0 (by omega) hd hd').mono r1 id).bind fun s s0 s1 q2 => ((szMatrixS_eq s0 (by omega) hf).mono s1 id).bind fun t t0 t1 q3 =>
    ((szMatrixS_eq t0 (by omega) hg).mono t1 id).bind fun u u0 u1 q4 => Sz.ret u0 u1 ⟨q1.1, q1.2.1, q1.2.2, by omega, fun m hm => by have := q2.2 m hm; omega, by omega, by omega⟩

theorem toIntS_eq {l : List Int} (hl : l.length ≤ 1048576) : laws_toIntS l = some (((), ()), (), (l, ())) := by
  have h := loop_for (s := laws_toIntS_s0) (fun i => ((l, (), (i : Int), ()), (), (fillTo l 0 i, ()))) l.length (((), ()), (), (l, ())) (by
    intro i hi
    simp only [laws_toIntS_s0, Int.toNat_natCast, br_ite, decide_eq_true_eq, Int.ofNat_lt, fillTo_length l 0 (Nat.le_of_lt hi)]
    rw [if_pos hi, ck_pos (by omega), ck_pos hi, ck_pos (by omega), ck_pos hi, ck_pos hi, fillTo_set l 0 0 hi, w64_succ hi (big_len hl)]) (by
    simp only [laws_toIntS_s0, br_ite, fillTo_all]
    rw [if_neg (by simp)])
  simp only [laws_toIntS, Int.toNat_natCast]
  rw [ck_pos (by omega), ck_pos (by omega), ck_pos ⟨trivial, by omega, by omega⟩, ← fillTo_zero l 0]
  rw [show ((0 : Int)) = ((0 : Nat) : Int) from rfl] at *
  rw [h]
  rfl
theorem toMatrixS_eq {l : List (Int × Int)} (hl : l.length ≤ 1048576) : laws_toMatrixS l = some (((), ()), (), (l, ())) := by
  have h := loop_for (s := laws_toMatrixS_s0) (fun i => ((l, (), (i : Int), ()), (), (fillTo l (0, 0) i, ()))) l.length (((), ()), (), (l, ())) (by
    intro i hi
    simp only [laws_toMatrixS_s0, laws_toMatrix, Option.bind_some, Int.toNat_natCast, br_ite, decide_eq_true_eq, Int.ofNat_lt, fillTo_length l (0, 0) (Nat.le_of_lt hi)]
    rw [if_pos hi, ck_pos (by omega), ck_pos hi, ck_pos (by omega), ck_pos hi, ck_pos hi, fillTo_set l (0, 0) (0, 0) hi, w64_succ hi (big_len hl)]) (by
    simp only [laws_toMatrixS_s0, br_ite, fillTo_all]
    rw [if_neg (by simp)])
  simp only [laws_toMatrixS, Int.toNat_natCast]
  rw [ck_pos (by omega), ck_pos (by omega), ck_pos ⟨trivial, by omega, by omega⟩, ← fillTo_zero l (0, 0)]
  exact congrArg (fun o => Option.bind o fun r7 => some (((), ()), (), (r7.2.2.1, ()))) h
theorem toMatrixSS_eq {l : List (List (Int × Int))} (hl : l.length ≤ 1048576) (hm : ∀ m ∈ l, m.length ≤ 1048576) : laws_toMatrixSS l = some (((), ()), (), (l, ())) := by
  have h := loop_for (s := laws_toMatrixSS_s0) (fun i => ((l, (), (i : Int), ()), (), (fillTo l [] i, ()))) l.length (((), ()), (), (l, ())) (by
    intro i hi
    have hmem : l.getD i [] ∈ l := by rw [List.getD_eq_getElem?_getD, List.getElem?_eq_getElem hi]; exact List.getElem_mem hi
    simp only [laws_toMatrixSS_s0, Int.toNat_natCast, toMatrixS_eq (hm _ hmem), Option.bind_some, br_ite, decide_eq_true_eq, Int.ofNat_lt, fillTo_length l [] (Nat.le_of_lt hi)]
    rw [if_pos hi, ck_pos (by omega), ck_pos hi, ck_pos (by omega), ck_pos hi, ck_pos hi, fillTo_set l [] [] hi, w64_succ hi (big_len hl)]) (by
    simp only [laws_toMatrixSS_s0, br_ite, fillTo_all]
    rw [if_neg (by simp)])
  simp only [laws_toMatrixSS, Int.toNat_natCast]
  rw [ck_pos (by omega), ck_pos (by omega), ck_pos ⟨trivial, by omega, by omega⟩, ← fillTo_zero l []]
  exact congrArg (fun o => Option.bind o fun r7 => some (((), ()), (), (r7.2.2.1, ()))) h
theorem toFont_eq {a : ByteArray} {b c : List Int} (hb : b.length ≤ 1048576) (hc : c.length ≤ 1048576) : laws_toFont a b c = some (((a, (), (), ()), ()), (), (b, c, ())) := by
  simp only [laws_toFont, toIntS_eq hb, toIntS_eq hc, Option.bind_some]
theorem toMachine_eq {a : ByteArray} {b c : List Int} {d : List (List (Int × Int))} {e0 e1 e2 e3 : Int} {f g : List (Int × Int)} (hb : b.length ≤ 1048576) (hc : c.length ≤ 1048576)
    (hd : d.length ≤ 1048576) (hd' : ∀ m ∈ d, m.length ≤ 1048576) (hf : f.length ≤ 1048576) (hg : g.length ≤ 1048576) :
    laws_toMachine a b c d e0 e1 e2 e3 f g = some (((a, (), (), (), e0, e1, e2, e3, (), (), ()), ()), (), (b, c, d, f, g, ())) := by
  simp only [laws_toMachine, laws_toMeasure, toFont_eq hb hc, toMatrixSS_eq hd hd', toMatrixS_eq hf, toMatrixS_eq hg, Option.bind_some]
end Go.Tree
namespace Go.Tree
theorem strEq_refl (a : ByteArray) : strEq a a = true := by simp [strEq]
theorem eqIntS_refl {l : List Int} (hl : l.length ≤ 1048576) : laws_eqIntS l l = some ((true, ()), (), ()) := by
  have h := loop_for (s := laws_eqIntS_s0) (fun i => ((l, l, (i : Int), ()), (), ())) l.length (.inr ((), (), ())) (by
    intro i hi
    simp only [laws_eqIntS_s0, Int.toNat_natCast, br_ite, decide_eq_true_eq, Int.ofNat_lt]
    rw [if_pos hi, ck_pos (by omega), ck_pos hi, ck_pos (by omega), ck_pos hi, if_neg (by simp), w64_succ hi (big_len hl)]) (by
    simp only [laws_eqIntS_s0, br_ite]
    rw [if_neg (by simp)])
  simp only [laws_eqIntS, br_ite]
  rw [if_neg (by simp)]
  exact congrArg (fun o => Option.bind o fun r7 => sumK r7 (fun y10 => some ((y10.1.1, ()), (), ())) (fun y11 => some ((true, ()), (), ()))) h
theorem eqMatrix_refl (a b : Int) : laws_eqMatrix a b a b = some ((true, ()), (), ()) := by simp [laws_eqMatrix]
theorem eqMatrixS_refl {l : List (Int × Int)} (hl : l.length ≤ 1048576) : laws_eqMatrixS l l = some ((true, ()), (), ()) := by
  have h := loop_for (s := laws_eqMatrixS_s0) (fun i => ((l, l, (i : Int), ()), (), ())) l.length (.inr ((), (), ())) (by
    intro i hi
    simp only [laws_eqMatrixS_s0, Int.toNat_natCast, eqMatrix_refl, Option.bind_some, br_ite, decide_eq_true_eq, Int.ofNat_lt]
    rw [if_pos hi, ck_pos (by omega), ck_pos hi, ck_pos (by omega), ck_pos hi, if_neg (by simp), w64_succ hi (big_len hl)]) (by
    simp only [laws_eqMatrixS_s0, br_ite]
    rw [if_neg (by simp)])
  simp only [laws_eqMatrixS, br_ite]
  rw [if_neg (by simp)]
  exact congrArg (fun o => Option.bind o fun r7 => sumK r7 (fun y10 => some ((y10.1.1, ()), (), ())) (fun y11 => some ((true, ()), (), ()))) h
theorem eqMatrixSS_refl {l : List (List (Int × Int))} (hl : l.length ≤ 1048576) (hm : ∀ m ∈ l, m.length ≤ 1048576) : laws_eqMatrixSS l l = some ((true, ()), (), ()) := by
  have h := loop_for (s := laws_eqMatrixSS_s0) (fun i => ((l, l, (i : Int), ()), (), ())) l.length (.inr ((), (), ())) (by
    intro i hi
    have hmem : l.getD i [] ∈ l := by rw [List.getD_eq_getElem?_getD, List.getElem?_eq_getElem hi]; exact List.getElem_mem hi
    simp only [laws_eqMatrixSS_s0, Int.toNat_natCast, eqMatrixS_refl (hm _ hmem), Option.bind_some, br_ite, decide_eq_true_eq, Int.ofNat_lt]
    rw [if_pos hi, ck_pos (by omega), ck_pos hi, ck_pos (by omega), ck_pos hi, if_neg (by simp), w64_succ hi (big_len hl)]) (by
    simp only [laws_eqMatrixSS_s0, br_ite]
    rw [if_neg (by simp)])
  simp only [laws_eqMatrixSS, br_ite]
  rw [if_neg (by simp)]
  exact congrArg (fun o => Option.bind o fun r7 => sumK r7 (fun y10 => some ((y10.1.1, ()), (), ())) (fun y11 => some ((true, ()), (), ()))) h
theorem eqFont_refl {a : ByteArray} {b c : List Int} (hb : b.length ≤ 1048576) (hc : c.length ≤ 1048576) : laws_eqFont a b c a b c = some ((true, ()), (), ()) := by
  simp [laws_eqFont, strEq_refl, eqIntS_refl hb, eqIntS_refl hc]
theorem eqMeasure_refl (a b c : Int) : laws_eqMeasure a b c a b c = some ((true, ()), (), ()) := by simp [laws_eqMeasure]
theorem eqMachine_refl {a : ByteArray} {b c : List Int} {d : List (List (Int × Int))} {e0 e1 e2 e3 : Int} {f g : List (Int × Int)} (hb : b.length ≤ 1048576) (hc : c.length ≤ 1048576)
    (hd : d.length ≤ 1048576) (hd' : ∀ m ∈ d, m.length ≤ 1048576) (hf : f.length ≤ 1048576) (hg : g.length ≤ 1048576) :
    laws_eqMachine a b c d e0 e1 e2 e3 f g a b c d e0 e1 e2 e3 f g = some ((true, ()), (), ()) := by
  simp [laws_eqMachine, eqFont_refl hb hc, eqMatrixSS_refl hd hd', eqMeasure_refl, eqMatrixS_refl hf, eqMatrixS_refl hg]
end Go.Tree
namespace Go.Tree

theorem getD_mem {α : Type} {l : List α} {d : α} {i : Nat} (h : i < l.length) : l.getD i d ∈ l := by
  rw [List.getD_eq_getElem?_getD, List.getElem?_eq_getElem h]; exact List.getElem_mem h
abbrev inB (a lo hi : Int) : Bool := decide (lo ≤ a ∧ a ≤ hi)
def part (a b : Int) : Bool := bAndNot .i64 a b == 0
def setB (a : Int) : Bool := inB a 0 127
def fallN (bar : List Int) (k : Int) : Nat := bar.findIdx fun s => part k s

theorem l1In_eq (a b c : Int) : spec_l1In a b c = some ((inB a b c, ()), (), ()) := by
  simp only [spec_l1In, br_ite, decide_eq_true_eq]
  split <;> simp_all [inB]
  omega
theorem l1Part_eq (a b : Int) : spec_l1Part a b = some ((part a b, ()), (), ()) := rfl
theorem l1Set_eq (a : Int) : spec_l1Set a = some ((setB a, ()), (), ()) := by simp only [spec_l1Set, l1In_eq, Option.bind_some]; rfl
theorem isSet_eq (a : Int) : impl_isSet a = some ((setB a, ()), (), ()) := by
  simp only [impl_isSet, br_ite, decide_eq_true_eq]
  split <;> simp_all [setB, inB]
  omega
theorem l1Fall_eq {l : List Int} (hl : l.length ≤ 1048576) (k : Int) : spec_l1Fall l k = some (((fallN l k : Int), ()), (), ()) := by
  have h := loop_idx (s := spec_l1Fall_s0) l 0 (fun i => ((l, k, l, (l.length : Int), (i : Int), ()), (), ())) (fun s => part k s) (fun i => .inl (((i : Int), ()), (), ())) (.inr ((l, ()), (), ())) (by
    intro i hi
    simp only [spec_l1Fall_s0, Int.toNat_natCast, l1Part_eq, Option.bind_some, br_ite, decide_eq_true_eq, Int.ofNat_lt]
    rw [if_pos hi, ck_pos (by omega), ck_pos hi, w64_succ hi (big_len hl)]
    split <;> rfl) (by
    simp only [spec_l1Fall_s0, br_ite]
    rw [if_neg (by simp)])
  refine (congrArg (fun o => Option.bind o fun r5 => sumK r5 (fun y8 => some ((y8.1.1, ()), (), ())) (fun y9 => some (((y9.1.1.length : Int), ()), (), ()))) h).trans ?_
  simp only [Option.bind_some, sumK_ite, sumK_inl, sumK_inr]
  unfold fallN
  split
  · rfl
  · have := List.findIdx_le_length (xs := l) (p := fun s => part k s)
    rw [show l.findIdx (fun s => part k s) = l.length by omega]
theorem fall_eq {l : List Int} (hl : l.length ≤ 1048576) (k : Int) : impl_fall l k = some (((fallN l k : Int), ()), (), ()) := l1Fall_eq hl k
def isBar (l : List Int) : Bool := l.all setB && inB l.length 1 40
theorem specIsBar_eq {l : List Int} (hl : l.length ≤ 1048576) : spec_IsBar l = some ((isBar l, ()), (), ()) := by
  have h := loop_all (s := spec_IsBar_s0) l 0 (fun i => ((l, l, (l.length : Int), (i : Int), ()), (), ())) setB (.inl ((false, ()), (), ())) (.inr ((l, ()), (), ())) (by
    intro i hi
    simp only [spec_IsBar_s0, Int.toNat_natCast, l1Set_eq, Option.bind_some, br_ite, decide_eq_true_eq, Int.ofNat_lt]
    rw [if_pos hi, ck_pos (by omega), ck_pos hi, w64_succ hi (big_len hl)]
    cases setB (l.getD i 0) <;> rfl) (by
    simp only [spec_IsBar_s0, br_ite]
    rw [if_neg (by simp)])
  refine (congrArg (fun o => Option.bind o fun r5 => sumK r5 (fun y8 => some ((y8.1.1, ()), (), ())) (fun y9 => (spec_l1In (y9.1.1.length : Int) (1 : Int) (40 : Int)).bind fun r10 => some ((r10.1.1, ()), (), ()))) h).trans ?_
  simp only [Option.bind_some, sumK_ite, sumK_inl, sumK_inr, l1In_eq, isBar]
  cases l.all setB <;> simp
theorem findIdx_lt {α : Type} (l : List α) (p : α → Bool) : decide (l.findIdx p < l.length) = l.any p := by
  rw [Bool.eq_iff_iff, decide_eq_true_eq, List.findIdx_lt_length, List.any_eq_true]
def idxOf {α : Type} (l : List α) (p : α → Bool) : Int := if l.findIdx p < l.length then (l.findIdx p : Int) else -1
theorem idxOf_ge {α : Type} (l : List α) (p : α → Bool) : decide (idxOf l p ≥ 0) = l.any p := by
  rw [← findIdx_lt]
  unfold idxOf
  split <;> simp_all
theorem between_eq {l : List Int} (hl : l.length ≤ 1048576) (a b : Int) : impl_between l a b = some ((l.all fun x => inB x a b, ()), (), ()) := by
  have h1 : ∀ x, impl_between_1 x a b = some ((!inB x a b, ()), (), ()) := fun x => by
    simp only [impl_between_1, br_ite, decide_eq_true_eq]
    split
    · simp only [inB]; rw [decide_eq_false (by omega)]; rfl
    · simp only [inB]; congr 3; rw [Bool.eq_iff_iff]; simp; omega
  have h := loop_idx (s := IndexFunc_int_impl_between_1_s0) l 0 (fun i => ((l, ((a, ()), (b, ()), ()), (l.length : Int), (i : Int), ()), (), ())) (fun x => !inB x a b) (fun i => .inl (((i : Int), ()), (), ())) (.inr ((), (), ())) (by
    intro i hi
    simp only [IndexFunc_int_impl_between_1_s0, Int.toNat_natCast, h1, Option.bind_some, br_ite, decide_eq_true_eq, Int.ofNat_lt]
    rw [if_pos hi, ck_pos (by omega), ck_pos hi, w64_succ hi (big_len hl)]
    split <;> rfl) (by
    simp only [IndexFunc_int_impl_between_1_s0, br_ite]
    rw [if_neg (by simp)])
  have h2 : IndexFunc_int_impl_between_1 l a b = some ((idxOf l (fun x => !inB x a b), ()), (), ()) := by
    refine (congrArg (fun o => Option.bind o fun r5 => sumK r5 (fun y8 => some ((y8.1.1, ()), (), ())) (fun y9 => some (((-1 : Int), ()), (), ()))) h).trans ?_
    simp only [Option.bind_some, sumK_ite, sumK_inl, sumK_inr, idxOf]
    split <;> rfl
  simp only [impl_between, ContainsFunc_int_impl_between_1, h2, Option.bind_some, idxOf_ge]
  congr 3
  rw [Bool.eq_iff_iff]; simp
theorem implIsBar_eq {l : List Int} (hl : l.length ≤ 1048576) : impl_IsBar l = some ((isBar l, ()), (), ()) := by
  have h := loop_idx (s := IndexFunc_int_impl_IsBar_1_s0) l 0 (fun i => ((l, (), (l.length : Int), (i : Int), ()), (), ())) (fun x => !setB x) (fun i => .inl (((i : Int), ()), (), ())) (.inr ((), (), ())) (by
    intro i hi
    simp only [IndexFunc_int_impl_IsBar_1_s0, impl_IsBar_1, isSet_eq, Int.toNat_natCast, Option.bind_some, br_ite, decide_eq_true_eq, Int.ofNat_lt]
    rw [if_pos hi, ck_pos (by omega), ck_pos hi, w64_succ hi (big_len hl)]
    split <;> rfl) (by
    simp only [IndexFunc_int_impl_IsBar_1_s0, br_ite]
    rw [if_neg (by simp)])
  have h2 : IndexFunc_int_impl_IsBar_1 l = some ((idxOf l (fun x => !setB x), ()), (), ()) := by
    refine (congrArg (fun o => Option.bind o fun r5 => sumK r5 (fun y8 => some ((y8.1.1, ()), (), ())) (fun y9 => some (((-1 : Int), ()), (), ()))) h).trans ?_
    simp only [Option.bind_some, sumK_ite, sumK_inl, sumK_inr, idxOf]
    split <;> rfl
  simp only [impl_IsBar, ContainsFunc_int_impl_IsBar_1, h2, Option.bind_some, idxOf_ge, br_ite, decide_eq_true_eq, isBar, inB]
  have e : (!l.any fun x => !setB x) = l.all setB := by rw [Bool.eq_iff_iff]; simp
  rw [e]
  by_cases a1 : (l.length : Int) ≥ 1
  · by_cases a2 : (l.length : Int) ≤ 40
    · rw [if_pos a1, if_pos a2, decide_eq_true (⟨a1, a2⟩ : (1 : Int) ≤ l.length ∧ (l.length : Int) ≤ 40), Bool.and_true]
    · rw [if_pos a1, if_neg a2, decide_eq_false (by omega), Bool.and_false]
  · rw [if_neg a1, decide_eq_false (by omega), Bool.and_false]
def sortsAll (l : List Int) : Bool := (List.range l.length).all (fun i => fallN l (l.getD i 0) == i) && isBar l
theorem specSortsAll_eq {l : List Int} (hl : l.length ≤ 1048576) : spec_SortsAll l = some ((sortsAll l, ()), (), ()) := by
  have h := loop_allI (s := spec_SortsAll_s0) (fun i => ((l, l, (l.length : Int), (i : Int), ()), (), ())) l.length (fun i => fallN l (l.getD i 0) == i) (.inl ((false, ()), (), ())) (.inr ((l, ()), (), ())) (by
    intro i hi
    simp only [spec_SortsAll_s0, Int.toNat_natCast, l1Fall_eq hl, Option.bind_some, br_ite, decide_eq_true_eq, Int.ofNat_lt]
    rw [if_pos hi, ck_pos (by omega), ck_pos hi, w64_succ hi (big_len hl)]
    generalize fallN l (l.getD i 0) = q
    by_cases e : q = i
    · rw [if_neg (by simp [e]), if_pos (by simp [e])]
    · rw [if_pos (by simp; omega), if_neg (by simp [e])]) (by
    simp only [spec_SortsAll_s0, br_ite]
    rw [if_neg (by simp)])
  refine (congrArg (fun o => Option.bind o fun r5 => sumK r5 (fun y8 => some ((y8.1.1, ()), (), ())) (fun y10 => (spec_IsBar y10.1.1).bind fun r11 => some ((r11.1.1, ()), (), ()))) h).trans ?_
  simp only [Option.bind_some, sumK_ite, sumK_inl, sumK_inr, specIsBar_eq hl, sortsAll]
  cases (List.range l.length).all fun i => fallN l (l.getD i 0) == i
  · rfl
  · simp
theorem implSortsAll_eq {l : List Int} (hl : l.length ≤ 1048576) : impl_SortsAll l = some ((sortsAll l, ()), (), ()) := by
  have h := loop_allI (s := impl_SortsAll_s0) (fun i => ((l, l, (l.length : Int), (i : Int), ()), (), ())) l.length (fun i => fallN l (l.getD i 0) == i) (.inl ((false, ()), (), ())) (.inr ((), (), ())) (by
    intro i hi
    simp only [impl_SortsAll_s0, Int.toNat_natCast, fall_eq hl, Option.bind_some, br_ite, decide_eq_true_eq, Int.ofNat_lt]
    rw [if_pos hi, ck_pos (by omega), ck_pos hi, w64_succ hi (big_len hl)]
    generalize fallN l (l.getD i 0) = q
    by_cases e : q = i
    · rw [if_neg (by simp [e]), if_pos (by simp [e])]
    · rw [if_pos (by simp; omega), if_neg (by simp [e])]) (by
    simp only [impl_SortsAll_s0, br_ite]
    rw [if_neg (by simp)])
  simp only [impl_SortsAll, implIsBar_eq hl, Option.bind_some]
  have h' := congrArg (fun o => Option.bind o fun r7 => sumK r7 (fun y10 => some ((y10.1.1, ()), (), ())) (fun y11 => some ((true, ()), (), ()))) h
  rw [br_ite]
  unfold sortsAll
  cases isBar l
  · simp
  · rw [if_neg (by simp)]
    refine h'.trans ?_
    simp only [Option.bind_some, sumK_ite, sumK_inl, sumK_inr, Bool.and_true]
    cases (List.range l.length).all fun i => fallN l (l.getD i 0) == i <;> rfl
end Go.Tree
namespace Go.Tree

theorem byte_range (s : ByteArray) (i : Nat) : 0 ≤ byteAt s i ∧ byteAt s i ≤ 255 := by
  unfold byteAt
  have := (s.data.toList.getD i 0).toNat_lt
  omega
def letterB (s : ByteArray) (i : Nat) : Bool := decide (33 ≤ byteAt s i) && (decide (byteAt s i ≤ 126) && (List.range i).all fun j => byteAt s i != byteAt s j)
def fontOk (s : ByteArray) (ws so : List Int) : Bool :=
  inB s.size 1 40 && (ws.length == s.size && (so.length == s.size && (sortsAll so && ((List.range s.size).all (fun i => letterB s i) && ws.all fun x => inB x 1 60))))

theorem specFont2 {s : ByteArray} {ws so : List Int} (hs : s.size ≤ 1048576) (i : Nat) (hi : i < s.size) (u0 : Int) (u1 : ByteArray) (u2 u3 : Int) (u4 : Bool) (u5 : List Int) (u6 u7 u8 : Int) (u9 u10 : Bool) :
    loopC spec_FontOk_s2 (((), u0, (i : Int), (0 : Int), (), u1, u2, u3, u4, (), u5, u6, (u7, ()), u8, u9, u10, ()), ((s, ws, so, ()), ()), ()) =
      some (if ((List.range i).all fun j => byteAt s i != byteAt s j) = true then .inr (((), u0, (i : Int), (), u1, u2, u3, u4, (), u5, u6, (u7, ()), u8, u9, u10, ()), ((s, ws, so, ()), ()), ()) else .inl ((false, ()), (), ())) :=
  loop_allI (s := spec_FontOk_s2) (fun j => (((), u0, (i : Int), (j : Int), (), u1, u2, u3, u4, (), u5, u6, (u7, ()), u8, u9, u10, ()), ((s, ws, so, ()), ()), ())) i (fun j => byteAt s i != byteAt s j) (.inl ((false, ()), (), ()))
    (.inr (((), u0, (i : Int), (), u1, u2, u3, u4, (), u5, u6, (u7, ()), u8, u9, u10, ()), ((s, ws, so, ()), ()), ())) (by
    intro j hj
    simp only [spec_FontOk_s2, Int.toNat_natCast, br_ite, decide_eq_true_eq, Int.ofNat_lt]
    rw [if_pos hj, ck_pos ⟨by omega, hi⟩, ck_pos ⟨by omega, by omega⟩, w64_succ hj (by unfold maxLen; omega)]
    by_cases e : byteAt s i = byteAt s j
    · rw [if_pos (by simp [e]), if_neg (by simp [e])]
    · rw [if_neg (by simp [e]), if_pos (by simp [e])]) (by
    simp only [spec_FontOk_s2, br_ite]
    rw [if_neg (by simp)])
theorem specFontOk_eq {s : ByteArray} {ws so : List Int} (hs : s.size ≤ 1048576) (hw : ws.length ≤ 1048576) (ho : so.length ≤ 1048576) : spec_FontOk s ws so = some ((fontOk s ws so, ()), (), ()) := by
  simp only [spec_FontOk, l1In_eq, specSortsAll_eq ho, Option.bind_some, fontOk]
  by_cases h1 : inB s.size 1 40 = true
  · by_cases h2 : ws.length = s.size
    · by_cases h3 : so.length = s.size
      · by_cases h4 : sortsAll so = true
        · have h := loop_allI (s := spec_FontOk_s0) (fun i => (((), (s.size : Int), (i : Int), ()), ((s, ws, so, ()), ()), ())) s.size (fun i => letterB s i && inB (ws.getD i 0) 1 60) (.inl ((false, ()), (), ())) (.inr ((), (), ())) (by
            intro i hi
            simp only [spec_FontOk_s0, Int.toNat_natCast, l1In_eq, Option.bind_some, specFont2 hs i hi, br_ite, sumK_ite, sumK_inl, sumK_inr, w64_succ hi (big_len hs)]
            rw [if_pos (by simpa using hi), ck_pos ⟨by omega, hi⟩, ck_pos ⟨by omega, hi⟩, ck_pos (by omega), ck_pos (by omega)]
            unfold letterB
            by_cases k1 : byteAt s i < 33
            · rw [if_pos (by simpa using k1), if_neg (by simp; omega)]
            · rw [if_neg (by simpa using k1)]
              by_cases k2 : byteAt s i > 126
              · rw [if_pos (by simpa using k2), if_neg (by simp; omega)]
              · rw [if_neg (by simpa using k2), decide_eq_true (by omega : 33 ≤ byteAt s i), decide_eq_true (by omega : byteAt s i ≤ 126), Bool.true_and, Bool.true_and]
                generalize inB (ws.getD i 0) 1 60 = q
                generalize ((List.range i).all fun j => byteAt s i != byteAt s j) = r
                cases q <;> cases r <;> rfl) (by
            simp only [spec_FontOk_s0, br_ite]
            rw [if_neg (by simp)])
          rw [h1, h4, br_ite, if_neg (by simp), br_ite, if_neg (by simp [h2]), br_ite, if_neg (by simp [h3]), br_ite, if_neg (by simp)]
          refine (congrArg (fun o => Option.bind o fun r22 => sumK r22 (fun y25 => some ((y25.1.1, ()), (), ())) (fun y26 => some ((true, ()), (), ()))) h).trans ?_
          simp only [Option.bind_some, sumK_ite, sumK_inl, sumK_inr]
          rw [h2, h3]
          have e : (List.range s.size).all (fun i => letterB s i && inB (ws.getD i 0) 1 60) = ((List.range s.size).all (fun i => letterB s i) && ws.all fun x => inB x 1 60) := by
            rw [← range_all ws 0, h2, Bool.eq_iff_iff, Bool.and_eq_true, List.all_eq_true, List.all_eq_true, List.all_eq_true]
            constructor
            · intro h; exact ⟨fun i hi => (Bool.and_eq_true _ _ ▸ h i hi).1, fun i hi => (Bool.and_eq_true _ _ ▸ h i hi).2⟩
            · intro h i hi; rw [h.1 i hi, h.2 i hi]; rfl
          rw [e]
          generalize ((List.range s.size).all (fun i => letterB s i) && ws.all fun x => inB x 1 60) = q
          cases q <;> simp
        · rw [h1, br_ite, if_neg (by simp), br_ite, if_neg (by simp [h2]), br_ite, if_neg (by simp [h3]), br_ite, if_pos (by simp [h4]), Bool.eq_false_iff.2 h4, Bool.false_and, Bool.and_false, Bool.and_false, Bool.and_false]
      · rw [h1, br_ite, if_neg (by simp), br_ite, if_neg (by simp [h2]), br_ite, if_pos (by simp; omega), beq_false_of_ne h3, Bool.false_and, Bool.and_false, Bool.and_false]
    · rw [h1, br_ite, if_neg (by simp), br_ite, if_pos (by simp; omega), beq_false_of_ne h2, Bool.false_and, Bool.and_false]
  · rw [Bool.eq_false_iff.2 h1, br_ite, if_pos (by simp), Bool.false_and]
def seenB (s : ByteArray) (i : Nat) : List Bool := (List.range 256).map fun b : Nat => (List.range i).any fun j => byteAt s j == (b : Int)
theorem seenB_get (s : ByteArray) (i b : Nat) (hb : b < 256) : (seenB s i).getD b false = (List.range i).any fun j => byteAt s j == (b : Int) := by
  rw [List.getD_eq_getElem?_getD]; simp [seenB, hb]
theorem seenB_set (s : ByteArray) (i : Nat) : (seenB s i).set (byteAt s i).toNat true = seenB s (i + 1) := by
  have hr := byte_range s i
  apply List.ext_getElem?
  intro b
  rw [List.getElem?_set]
  have hl : (seenB s i).length = 256 := by simp [seenB]
  by_cases e : (byteAt s i).toNat = b
  · rw [if_pos e, if_pos (by omega)]
    subst e
    rw [seenB, List.getElem?_map, List.getElem?_range (by omega), Option.map_some, List.range_succ, List.any_append]
    simp; omega
  · rw [if_neg e, seenB, seenB, List.getElem?_map, List.getElem?_map]
    by_cases hb : b < 256
    · rw [List.getElem?_range hb, Option.map_some, Option.map_some, List.range_succ, List.any_append]
      have : (byteAt s i == (b : Int)) = false := by simp; omega
      simp [this]
    · rw [List.getElem?_eq_none (by simp; omega)]; rfl
theorem seenB_len (s : ByteArray) (i : Nat) : (seenB s i).length = 256 := by simp [seenB]
theorem implFontOk_eq {s : ByteArray} {ws so : List Int} (hs : s.size ≤ 1048576) (hw : ws.length ≤ 1048576) (ho : so.length ≤ 1048576) : impl_FontOk s ws so = some ((fontOk s ws so, ()), (), ()) := by
  have h := loop_allI (s := impl_FontOk_s0) (fun i => (((), (), (s.size : Int), (i : Int), ()), ((s, ws, so, ()), (seenB s i), ()), ())) s.size (fun i => letterB s i) (.inl ((false, ()), (), ())) (.inr (((), ()), ((s, ws, so, ()), ()), ())) (by
    intro i hi
    have hr := byte_range s i
    have hg := seenB_get s i (byteAt s i).toNat (by omega)
    simp only [impl_FontOk_s0, Int.toNat_natCast, br_ite, seenB_len, seenB_set, hg, w64_succ hi (big_len hs)]
    rw [if_pos (by simpa using hi), ck_pos ⟨by omega, hi⟩, ck_pos (by omega), ck_pos (by omega), ck_pos (by omega), ck_pos (by omega), ck_pos (by omega), ck_pos (by omega)]
    unfold letterB
    have e : ((List.range i).any fun j => byteAt s j == ((byteAt s i).toNat : Int)) = !(List.range i).all fun j => byteAt s i != byteAt s j := by
      rw [Int.toNat_of_nonneg hr.1, Bool.eq_iff_iff]
      simp only [List.any_eq_true, beq_iff_eq, Bool.not_eq_true', List.all_eq_false, bne_iff_ne, ne_eq, Decidable.not_not]
      constructor <;> rintro ⟨j, h1, h2⟩ <;> exact ⟨j, h1, h2.symm⟩
    rw [e]
    generalize ((List.range i).all fun j => byteAt s i != byteAt s j) = r
    by_cases k1 : byteAt s i < 33
    · rw [if_pos (by simpa using k1), if_neg (by simp; omega)]
    · rw [if_neg (by simpa using k1)]
      by_cases k2 : byteAt s i > 126
      · rw [if_pos (by simpa using k2), if_neg (by simp; omega)]
      · rw [if_neg (by simpa using k2), decide_eq_true (by omega : 33 ≤ byteAt s i), decide_eq_true (by omega : byteAt s i ≤ 126), Bool.true_and, Bool.true_and]
        cases r <;> rfl) (by
    simp only [impl_FontOk_s0, br_ite]
    rw [if_neg (by simp)])
  have e0 : seenB s 0 = List.replicate 256 false := by
    apply List.ext_getElem?
    intro b
    rw [seenB, List.getElem?_map, List.getElem?_replicate]
    by_cases hb : b < 256
    · rw [List.getElem?_range hb, if_pos hb]; rfl
    · rw [List.getElem?_eq_none (by simp; omega), if_neg hb]; rfl
  simp only [impl_FontOk, between_eq hw, implSortsAll_eq ho, Option.bind_some, fontOk]
  have h' := congrArg (fun o => Option.bind o fun r12 => sumK r12 (fun y15 => some ((y15.1.1, ()), (), ())) (fun y16 => (impl_between y16.2.1.1.2.1 (1 : Int) (60 : Int)).bind fun r17 => br r17.1.1
    ((impl_SortsAll y16.2.1.1.2.2.1).bind fun r18 => some ((r18.1.1, ()), (), ())) (some ((false, ()), (), ())))) h
  simp only [e0] at h'
  by_cases h1 : inB s.size 1 40 = true
  · have h1' : 1 ≤ (s.size : Int) ∧ (s.size : Int) ≤ 40 := by simpa [inB] using h1
    by_cases h2 : ws.length = s.size
    · by_cases h3 : so.length = s.size
      · rw [br_ite, if_neg (by simp; omega), br_ite, if_neg (by simp; omega), br_ite, if_neg (by simp [h2]), br_ite, if_neg (by simp [h3])]
        refine h'.trans ?_
        simp only [Option.bind_some, sumK_ite, sumK_inl, sumK_inr, between_eq hw, implSortsAll_eq ho]
        rw [h1, h2, h3]
        generalize ((List.range s.size).all fun i => letterB s i) = q
        generalize (ws.all fun x => inB x 1 60) = r
        generalize sortsAll so = t
        cases q <;> cases r <;> cases t <;> simp
      · rw [h1, br_ite, if_neg (by simp; omega), br_ite, if_neg (by simp; omega), br_ite, if_neg (by simp [h2]), br_ite, if_pos (by simp; omega), beq_false_of_ne h3, Bool.false_and, Bool.and_false, Bool.and_false]
    · rw [h1, br_ite, if_neg (by simp; omega), br_ite, if_neg (by simp; omega), br_ite, if_pos (by simp; omega), beq_false_of_ne h2, Bool.false_and, Bool.and_false]
  · rw [Bool.eq_false_iff.2 h1, Bool.false_and, br_ite, br_ite]
    have h1' : ¬ (1 ≤ (s.size : Int) ∧ (s.size : Int) ≤ 40) := by simpa [inB] using h1
    by_cases k1 : (s.size : Int) < 1
    · rw [if_pos (by simpa using k1)]
    · rw [if_neg (by simpa using k1), if_pos (by simp; omega)]
end Go.Tree
namespace Go.Tree

def ofFont (s : ByteArray) (so : List Int) (m : Int × Int) : Bool := decide (0 ≤ m.1 ∧ m.1 < s.size) && (setB m.2 && part m.2 (so.getD m.1.toNat 0))
theorem l2Matrix_eq {s : ByteArray} {ws so : List Int} (hs : s.size ≤ 1048576) (ho : so.length = s.size) (a b : Int) : spec_l2Matrix s ws so a b = some ((ofFont s so (a, b), ()), (), ()) := by
  simp only [spec_l2Matrix, l1In_eq, l1Set_eq, l1Part_eq, Option.bind_some, ofFont]
  rw [w64_id (by omega) (by omega)]
  by_cases h1 : 0 ≤ a ∧ a < s.size
  · rw [show inB a 0 ((s.size : Int) - 1) = true from decide_eq_true (by omega), decide_eq_true h1, br_true]
    cases setB b
    · rfl
    · rw [br_true, ck_pos (by omega), ck_pos (by omega)]; rfl
  · rw [show inB a 0 ((s.size : Int) - 1) = false from decide_eq_false (by omega), decide_eq_false h1]; rfl
theorem ofFont_eq {s : ByteArray} {ws so : List Int} (ho : so.length = s.size) (a b : Int) : impl_ofFont s ws so a b = some ((ofFont s so (a, b), ()), (), ()) := by
  simp only [impl_ofFont, isSet_eq, show ∀ a b, impl_part a b = some ((part a b, ()), (), ()) from fun _ _ => rfl, Option.bind_some, ofFont]
  by_cases h1 : 0 ≤ a ∧ a < s.size
  · rw [br_ite, if_pos (by simp; omega), br_ite, if_pos (by simp; omega), decide_eq_true h1]
    cases setB b
    · rfl
    · rw [br_true, ck_pos (by omega), ck_pos (by omega)]; rfl
  · rw [decide_eq_false h1, br_ite, br_ite]
    by_cases h2 : a ≥ 0
    · rw [if_pos (by simpa using h2), if_neg (by simp; omega)]; rfl
    · rw [if_neg (by simpa using h2)]; rfl
theorem allOf_eq {s : ByteArray} {ws so : List Int} (ho : so.length = s.size) {l : List (Int × Int)} (hl : l.length ≤ 1048576) : impl_allOf s ws so l = some ((l.all (ofFont s so), ()), (), ()) := by
  have h := loop_idx (s := IndexFunc_Matrix_impl_allOf_1_s0) l (0, 0) (fun i => ((l, ((s, ws, so, ()), ()), (l.length : Int), (i : Int), ()), (), ())) (fun x => !ofFont s so x) (fun i => .inl (((i : Int), ()), (), ())) (.inr ((), (), ())) (by
    intro i hi
    simp only [IndexFunc_Matrix_impl_allOf_1_s0, impl_allOf_1, ofFont_eq ho, Int.toNat_natCast, Option.bind_some, br_ite, decide_eq_true_eq, Int.ofNat_lt]
    rw [if_pos hi, ck_pos (by omega), ck_pos hi, w64_succ hi (big_len hl)]
    split <;> rfl) (by
    simp only [IndexFunc_Matrix_impl_allOf_1_s0, br_ite]
    rw [if_neg (by simp)])
  have h2 : IndexFunc_Matrix_impl_allOf_1 l s ws so = some ((idxOf l (fun x => !ofFont s so x), ()), (), ()) := by
    refine (congrArg (fun o => Option.bind o fun r5 => sumK r5 (fun y8 => some ((y8.1.1, ()), (), ())) (fun y9 => some (((-1 : Int), ()), (), ()))) h).trans ?_
    simp only [Option.bind_some, sumK_ite, sumK_inl, sumK_inr, idxOf]
    split <;> rfl
  simp only [impl_allOf, ContainsFunc_Matrix_impl_allOf_1, h2, Option.bind_some, idxOf_ge]
  congr 3
  rw [Bool.eq_iff_iff]; simp
def colB (s : ByteArray) (so : List Int) (c : List (Int × Int)) : Bool := decide ((c.length : Int) ≤ 20) && c.all (ofFont s so)
def magOk (s : ByteArray) (ws so : List Int) (d : List (List (Int × Int))) : Bool := fontOk s ws so && (d.length == s.size && d.all (colB s so))
theorem fontOk_len {s : ByteArray} {ws so : List Int} (h : fontOk s ws so = true) : ws.length = s.size ∧ so.length = s.size ∧ (∀ x ∈ ws, 1 ≤ x ∧ x ≤ 60) := by
  simp only [fontOk, Bool.and_eq_true, beq_iff_eq, List.all_eq_true] at h
  obtain ⟨_, h1, h2, _, _, h3⟩ := h
  exact ⟨h1, h2, fun x hx => by simpa [inB] using h3 x hx⟩
section
variable {s : ByteArray} {ws so : List Int} {d : List (List (Int × Int))} (hs : s.size ≤ 1048576) (hw : ws.length ≤ 1048576) (ho : so.length ≤ 1048576) (hd : d.length ≤ 1048576) (hd' : ∀ c ∈ d, c.length ≤ 1048576)
include hs hw ho hd hd'
theorem specMagazineOk_eq : spec_MagazineOk s ws so d = some ((magOk s ws so d, ()), (), ()) := by
  simp only [spec_MagazineOk, specFontOk_eq hs hw ho, Option.bind_some, magOk]
  by_cases h1 : fontOk s ws so = true
  · obtain ⟨e1, e2, _⟩ := fontOk_len h1
    have inner : ∀ (c : List (Int × Int)) (hc : c.length ≤ 1048576) (u1 : List (List (Int × Int))) (u2 u3 : Int), loopC spec_MagazineOk_s2 (((), u1, u2, u3, c, (c.length : Int), (0 : Int), ()), ((s, ws, so, ()), ()), ()) =
        some (if c.all (ofFont s so) = true then .inr (((), u1, u2, u3, ()), ((s, ws, so, ()), ()), ()) else .inl ((false, ()), (), ())) := by
      intro c hc u1 u2 u3
      exact loop_all (s := spec_MagazineOk_s2) c (0, 0) (fun i => (((), u1, u2, u3, c, (c.length : Int), (i : Int), ()), ((s, ws, so, ()), ()), ())) (ofFont s so) (.inl ((false, ()), (), ())) (.inr (((), u1, u2, u3, ()), ((s, ws, so, ()), ()), ())) (by
        intro i hi
        simp only [spec_MagazineOk_s2, l2Matrix_eq hs e2, Int.toNat_natCast, Option.bind_some, br_ite]
        rw [if_pos (by simpa using hi), ck_pos (by omega), ck_pos hi, w64_succ hi (big_len hc)]
        show (if (!ofFont s so (c.getD i (0, 0))) = true then _ else _) = _
        cases ofFont s so (c.getD i (0, 0)) <;> rfl) (by
        simp only [spec_MagazineOk_s2, br_ite]
        rw [if_neg (by simp)])
    have h := loop_all (s := spec_MagazineOk_s0) d [] (fun i => (((), d, (d.length : Int), (i : Int), ()), ((s, ws, so, ()), ()), ())) (colB s so) (.inl ((false, ()), (), ())) (.inr ((), (), ())) (by
      intro i hi
      simp only [spec_MagazineOk_s0, Int.toNat_natCast, inner _ (hd' _ (getD_mem hi)), Option.bind_some, sumK_ite, sumK_inl, sumK_inr, br_ite, w64_succ hi (big_len hd)]
      rw [if_pos (by simpa using hi), ck_pos (by omega), ck_pos hi]
      unfold colB
      by_cases k : ((d.getD i []).length : Int) > 20
      · rw [if_pos (by simpa using k), decide_eq_false (by omega)]; rfl
      · rw [if_neg (by simpa using k), decide_eq_true (by omega)]
        cases (d.getD i []).all (ofFont s so) <;> rfl) (by
      simp only [spec_MagazineOk_s0, br_ite]
      rw [if_neg (by simp)])
    rw [h1, br_ite, if_neg (by simp)]
    by_cases h2 : d.length = s.size
    · rw [br_ite, if_neg (by simp [h2])]
      refine (congrArg (fun o => Option.bind o fun r16 => sumK r16 (fun y19 => some ((y19.1.1, ()), (), ())) (fun y20 => some ((true, ()), (), ()))) h).trans ?_
      simp only [Option.bind_some, sumK_ite, sumK_inl, sumK_inr, h2]
      cases d.all (colB s so) <;> simp
    · rw [br_ite, if_pos (by simp; omega), beq_false_of_ne h2, Bool.false_and, Bool.and_false]
  · rw [Bool.eq_false_iff.2 h1, br_ite, if_pos (by simp), Bool.false_and]
theorem implMagazineOk_eq : impl_MagazineOk s ws so d = some ((magOk s ws so d, ()), (), ()) := by
  simp only [impl_MagazineOk, implFontOk_eq hs hw ho, Option.bind_some, magOk]
  by_cases h1 : fontOk s ws so = true
  · obtain ⟨e1, e2, _⟩ := fontOk_len h1
    have h := loop_all (s := impl_MagazineOk_s0) d [] (fun i => (((), d, (d.length : Int), (i : Int), ()), ((s, ws, so, ()), ()), ())) (colB s so) (.inl ((false, ()), (), ())) (.inr ((), (), ())) (by
      intro i hi
      simp only [impl_MagazineOk_s0, Int.toNat_natCast, allOf_eq e2 (hd' _ (getD_mem hi)), Option.bind_some, br_ite, w64_succ hi (big_len hd)]
      rw [if_pos (by simpa using hi), ck_pos (by omega), ck_pos hi]
      unfold colB
      by_cases k : ((d.getD i []).length : Int) > 20
      · rw [if_pos (by simpa using k), decide_eq_false (by omega)]; rfl
      · rw [if_neg (by simpa using k), decide_eq_true (by omega)]
        cases (d.getD i []).all (ofFont s so) <;> rfl) (by
      simp only [impl_MagazineOk_s0, br_ite]
      rw [if_neg (by simp)])
    rw [h1, br_ite, if_neg (by simp)]
    by_cases h2 : d.length = s.size
    · rw [br_ite, if_neg (by simp [h2])]
      refine (congrArg (fun o => Option.bind o fun r16 => sumK r16 (fun y19 => some ((y19.1.1, ()), (), ())) (fun y20 => some ((true, ()), (), ()))) h).trans ?_
      simp only [Option.bind_some, sumK_ite, sumK_inl, sumK_inr, h2]
      cases d.all (colB s so) <;> simp
    · rw [br_ite, if_pos (by simp; omega), beq_false_of_ne h2, Bool.false_and, Bool.and_false]
  · rw [Bool.eq_false_iff.2 h1, br_ite, if_pos (by simp), Bool.false_and]
end
def measOk (a b c : Int) : Bool := inB a 1 2000 && (inB b 1 100 && inB c b 100)
theorem specMeasureOk_eq (a b c : Int) : spec_MeasureOk a b c = some ((measOk a b c, ()), (), ()) := by
  simp only [spec_MeasureOk, l1In_eq, Option.bind_some, measOk]
  cases inB a 1 2000 <;> cases inB b 1 100 <;> rfl
theorem implMeasureOk_eq (a b c : Int) : impl_MeasureOk a b c = some ((measOk a b c, ()), (), ()) := by
  have e : ∀ x lo hi : Int, inB x lo hi = (decide (x ≥ lo) && decide (x ≤ hi)) := fun x lo hi => by simp [inB]
  simp only [impl_MeasureOk, measOk, e]
  cases decide (a ≥ 1) <;> cases decide (a ≤ 2000) <;> cases decide (b ≥ 1) <;> cases decide (b ≤ 100) <;> cases decide (c ≥ b) <;> rfl
def bandB (m : Int × Int) : Bool := m.1 == -1 && m.2 == 0
theorem isBand_eq (a b : Int) : impl_isBand a b = some ((bandB (a, b), ()), (), ()) := rfl
def widOf (ws : List Int) (m : Int × Int) : Int := if m.1 < 0 then 0 else ws.getD m.1.toNat 0
theorem map_take_succ {α β : Type} (l : List α) (d : α) (f : α → β) {i : Nat} (h : i < l.length) : (l.take i).map f ++ [f (l.getD i d)] = (l.take (i + 1)).map f := by
  rw [List.take_succ_eq_append_getElem h, List.map_append, List.getD_eq_getElem?_getD, List.getElem?_eq_getElem h]; rfl
section
variable {s : ByteArray} {ws so : List Int} (e1 : ws.length = s.size) {l : List (Int × Int)} (hl : l.length ≤ 1048576) (hall : ∀ m ∈ l, (bandB m || ofFont s so m) = true)
include e1 hall
theorem letter_ok {i : Nat} (hi : i < l.length) (h : ¬ (l.getD i (0, 0)).1 < 0) : (l.getD i (0, 0)).1.toNat < ws.length := by
  have := hall _ (getD_mem (d := (0, 0)) hi)
  simp only [bandB, ofFont, Bool.or_eq_true, Bool.and_eq_true, beq_iff_eq, decide_eq_true_eq] at this
  omega
include hl
theorem specItems_eq : spec_l5Items s ws so l = some (((), ()), (), (l.map (widOf ws), ())) := by
  have h := loop_for (s := spec_l5Items_s0) (fun i => (((), (), l, (l.length : Int), (i : Int), ()), ((s, ws, so, ()), ()), ((l.take i).map (widOf ws), ()))) l.length (((), ()), (), (l.map (widOf ws), ())) (by
    intro i hi
    have hk := letter_ok e1 hall hi
    simp only [spec_l5Items_s0, Int.toNat_natCast, br_ite, List.length_cons, List.length_nil, List.length_map, List.length_take]
    rw [if_pos (by simpa using hi), ck_pos (by omega), ck_pos hi, ← map_take_succ l (0, 0) (widOf ws) hi, w64_succ hi (big_len hl)]
    unfold widOf
    by_cases k : (l.getD i (0, 0)).1 < 0
    · rw [if_pos (by simpa using k), ck_pos ⟨by omega, by omega⟩, if_pos k]
    · rw [if_neg (by simpa using k), ck_pos (by omega), ck_pos (hk k), ck_pos ⟨by omega, by omega⟩, if_neg k]) (by
    simp only [spec_l5Items_s0, br_ite, List.take_length]
    rw [if_neg (by simp)])
  exact congrArg (fun o => Option.bind o fun r9 => some (((), ()), (), (r9.2.2.1, ()))) h
theorem implItems_eq : impl_items s ws so l = some (((), ()), (), (l.map (widOf ws), ())) := by
  have h := loop_for (s := impl_items_s0) (fun i => (((), (), l, (l.length : Int), (i : Int), ()), ((s, ws, so, ()), ()), ((l.take i).map (widOf ws), ()))) l.length (((), ()), (), (l.map (widOf ws), ())) (by
    intro i hi
    have hk := letter_ok e1 hall hi
    have hb := hall _ (getD_mem (d := (0, 0)) hi)
    simp only [impl_items_s0, isBand_eq, Option.bind_some, Int.toNat_natCast, br_ite, List.length_cons, List.length_nil, List.length_map, List.length_take]
    rw [if_pos (by simpa using hi), ck_pos (by omega), ck_pos hi, ← map_take_succ l (0, 0) (widOf ws) hi, w64_succ hi (big_len hl)]
    unfold widOf
    have e : (bandB ((l.getD i (0, 0)).1, (l.getD i (0, 0)).2) = true) ↔ (l.getD i (0, 0)).1 < 0 := by
      simp only [bandB, ofFont, Bool.or_eq_true, Bool.and_eq_true, beq_iff_eq, decide_eq_true_eq] at hb ⊢
      omega
    by_cases k : (l.getD i (0, 0)).1 < 0
    · rw [if_pos (e.2 k), ck_pos ⟨by omega, by omega⟩, if_pos k]
    · rw [if_neg (fun h => k (e.1 h)), ck_pos (by omega), ck_pos (hk k), ck_pos ⟨by omega, by omega⟩, if_neg k]) (by
    simp only [impl_items_s0, br_ite, List.take_length]
    rw [if_neg (by simp)])
  exact congrArg (fun o => Option.bind o fun r9 => some (((), ()), (), (r9.2.2.1, ()))) h
end
end Go.Tree
namespace Go.Tree

def sumStep (l : List Int) (i : Nat) (a : Int × Int) : Int × Int := (w64 (a.1 + l.getD i 0), if l.getD i 0 == 0 then w64 (a.2 + 1) else a.2)
def sumW (l : List Int) : Int × Int := (List.range l.length).foldl (fun a i => sumStep l i a) (0, 0)
theorem l3Sum_eq {l : List Int} (hl : l.length ≤ 1048576) : spec_l3Sum l = some (((sumW l).1, (sumW l).2, ()), (), ()) := by
  have h := loop_acc (s := spec_l3Sum_s0) (fun i (a : Int × Int) => ((a.1, a.2, l, (l.length : Int), (i : Int), ()), (), ())) l.length (sumStep l) (fun _ _ => True) (fun a => ((a.1, a.2, ()), (), ())) (by
    intro i a hi _
    refine ⟨?_, trivial⟩
    simp only [spec_l3Sum_s0, Int.toNat_natCast, br_ite, sumStep]
    rw [if_pos (by simpa using hi), ck_pos (by omega), ck_pos hi, w64_succ hi (big_len hl)]
    cases (l.getD i 0 == 0) <;> rfl) (by
    intro a _
    simp only [spec_l3Sum_s0, br_ite]
    rw [if_neg (by simp)]) (0, 0) trivial
  exact congrArg (fun o => Option.bind o fun r8 => some ((r8.1.1, r8.1.2.1, ()), (), ())) h.1
theorem lettersAndBands_eq {l : List Int} (hl : l.length ≤ 1048576) : impl_lettersAndBands l = some (((sumW l).1, (sumW l).2, ()), (), ()) := l3Sum_eq hl
theorem sumW_range {l : List Int} (hl : l.length ≤ 1048576) (hr : ∀ x ∈ l, 0 ≤ x ∧ x ≤ 60) : 0 ≤ (sumW l).1 ∧ (sumW l).1 ≤ 60 * l.length ∧ 0 ≤ (sumW l).2 ∧ (sumW l).2 ≤ l.length := by
  have go : ∀ n, n ≤ l.length → 0 ≤ ((List.range n).foldl (fun a i => sumStep l i a) (0, 0)).1 ∧ ((List.range n).foldl (fun a i => sumStep l i a) (0, 0)).1 ≤ 60 * n ∧
      0 ≤ ((List.range n).foldl (fun a i => sumStep l i a) (0, 0)).2 ∧ ((List.range n).foldl (fun a i => sumStep l i a) (0, 0)).2 ≤ n := by
    intro n
    induction n with
    | zero => intro _; simp
    | succ n ih =>
      intro hn
      have := ih (by omega)
      rw [List.range_succ, List.foldl_append, List.foldl_cons, List.foldl_nil]
      generalize (List.range n).foldl (fun a i => sumStep l i a) (0, 0) = a at this
      have hx := hr _ (getD_mem (d := 0) (show n < l.length by omega))
      unfold sumStep
      simp only
      rw [w64_id (by omega) (by omega), w64_id (by omega) (by omega)]
      split <;> omega
  exact go l.length (Nat.le_refl _)
def lineOk (l : List Int) : Bool := decide ((l.length : Int) ≤ 120) && l.all fun x => inB x 0 60
theorem specLineOk_eq {l : List Int} (hl : l.length ≤ 1048576) : spec_LineOk l = some ((lineOk l, ()), (), ()) := by
  have h := loop_all (s := spec_LineOk_s0) l 0 (fun i => ((l, l, (l.length : Int), (i : Int), ()), (), ())) (fun x => inB x 0 60) (.inl ((false, ()), (), ())) (.inr ((l, ()), (), ())) (by
    intro i hi
    simp only [spec_LineOk_s0, Int.toNat_natCast, l1In_eq, Option.bind_some, br_ite]
    rw [if_pos (by simpa using hi), ck_pos (by omega), ck_pos hi, w64_succ hi (big_len hl)]
    cases inB (l.getD i 0) 0 60 <;> rfl) (by
    simp only [spec_LineOk_s0, br_ite]
    rw [if_neg (by simp)])
  refine (congrArg (fun o => Option.bind o fun r5 => sumK r5 (fun y8 => some ((y8.1.1, ()), (), ())) (fun y9 => let x10 : Bool := decide ((y9.1.1.length : Int) ≤ (120 : Int)); some ((x10, ()), (), ()))) h).trans ?_
  simp only [Option.bind_some, sumK_ite, sumK_inl, sumK_inr, lineOk]
  cases (l.all fun x => inB x 0 60) <;> simp
theorem implLineOk_eq {l : List Int} (hl : l.length ≤ 1048576) : impl_LineOk l = some ((lineOk l, ()), (), ()) := by
  simp only [impl_LineOk, between_eq hl, Option.bind_some, lineOk]
  cases decide ((l.length : Int) ≤ 120) <;> rfl
def fitsB (a b c : Int) (l : List Int) : Bool := lineOk l && decide ((sumW l).1 + (sumW l).2 * b ≤ a)
theorem lineOk_range {l : List Int} (h : lineOk l = true) : l.length ≤ 120 ∧ ∀ x ∈ l, 0 ≤ x ∧ x ≤ 60 := by
  simp only [lineOk, Bool.and_eq_true, decide_eq_true_eq, List.all_eq_true] at h
  exact ⟨by omega, fun x hx => by simpa [inB] using h.2 x hx⟩
theorem mul_range {x y : Int} (h1 : 0 ≤ x) (h2 : x ≤ 120) (h3 : 0 ≤ y) (h4 : y ≤ 100) : 0 ≤ x * y ∧ x * y ≤ 12000 :=
  ⟨Int.mul_nonneg h1 h3, Int.le_trans (Int.mul_le_mul h2 h4 h3 (by omega)) (by omega)⟩
theorem l3Fits_eq {l : List Int} (hl : l.length ≤ 1048576) {a b c : Int} (hm : measOk a b c = true) : spec_l3Fits a b c l = some ((fitsB a b c l, ()), (), ()) := by
  simp only [measOk, inB, Bool.and_eq_true, decide_eq_true_eq] at hm
  simp only [spec_l3Fits, l3Sum_eq hl, specLineOk_eq hl, Option.bind_some, fitsB]
  by_cases h : lineOk l = true
  · obtain ⟨h1, h2⟩ := lineOk_range h
    obtain ⟨r1, r2, r3, r4⟩ := sumW_range hl h2
    have := mul_range r3 (by omega) (y := b) (by omega) (by omega)
    rw [h, br_true, w64_id (x := (sumW l).2 * b) (by omega) (by omega), w64_id (by omega) (by omega)]
    rfl
  · rw [Bool.eq_false_iff.2 h]; rfl
theorem fits_eq {l : List Int} (hl : l.length ≤ 1048576) {a b c : Int} : impl_fits a b c l = some ((measOk a b c && fitsB a b c l, ()), (), ()) := by
  simp only [impl_fits, impl_SpreadLine, implMeasureOk_eq, implLineOk_eq hl, lettersAndBands_eq hl, Option.bind_some, fitsB]
  by_cases hm : measOk a b c = true
  · rw [hm]
    simp only [measOk, inB, Bool.and_eq_true, decide_eq_true_eq] at hm
    by_cases h : lineOk l = true
    · obtain ⟨h1, h2⟩ := lineOk_range h
      obtain ⟨r1, r2, r3, r4⟩ := sumW_range hl h2
      have := mul_range r3 (by omega) (y := b) (by omega) (by omega)
      rw [h]
      simp only [impl_spread, Bool.not_true, br_false, Bool.true_and]
      rw [w64_id (x := a - (sumW l).1) (by omega) (by omega), w64_id (x := (sumW l).2 * b) (by omega) (by omega), w64_id (x := a - (sumW l).1 - (sumW l).2 * b) (by omega) (by omega)]
      by_cases k : a - (sumW l).1 - (sumW l).2 * b < 0
      · rw [decide_eq_true k, br_true, decide_eq_false (by omega)]; rfl
      · rw [decide_eq_false k, br_false, decide_eq_true (by omega : (sumW l).1 + (sumW l).2 * b ≤ a)]
        by_cases z : (sumW l).2 > 0
        · rw [decide_eq_true z, br_true, ck_pos (by omega)]; rfl
        · rw [decide_eq_false z]; rfl
    · rw [Bool.eq_false_iff.2 h]; rfl
  · rw [Bool.eq_false_iff.2 hm]; rfl
def goodB (s : ByteArray) (so : List Int) (m : Int × Int) : Bool := bandB m || ofFont s so m
def machOk (s : ByteArray) (ws so : List Int) (d : List (List (Int × Int))) (e a b c : Int) (f g : List (Int × Int)) : Bool :=
  magOk s ws so d && (inB e 0 60 && (measOk a b c && (decide ((g.length : Int) ≤ 240) && (f.all (goodB s so) && (g.all (ofFont s so) && fitsB a b c (f.map (widOf ws)))))))
section
variable {s : ByteArray} {ws so : List Int} {d : List (List (Int × Int))} {e a b c : Int} {f g : List (Int × Int)} (hs : s.size ≤ 1048576) (hw : ws.length ≤ 1048576) (ho : so.length ≤ 1048576) (hd : d.length ≤ 1048576) (hd' : ∀ c ∈ d, c.length ≤ 1048576)
  (hf : f.length ≤ 1048576) (hg : g.length ≤ 1048576)
include hs hw ho hd hd' hf hg
theorem specMachineOk_eq : spec_MachineOk s ws so d e a b c f g = some ((machOk s ws so d e a b c f g, ()), (), ()) := by
  simp only [spec_MachineOk, specMagazineOk_eq hs hw ho hd hd', l1In_eq, specMeasureOk_eq, Option.bind_some, machOk]
  by_cases h1 : magOk s ws so d = true
  · have h1' : fontOk s ws so = true := by simp only [magOk, Bool.and_eq_true] at h1; exact h1.1
    obtain ⟨e1, e2, _⟩ := fontOk_len h1'
    rw [h1, Bool.not_true, br_false]
    by_cases h2 : inB e 0 60 = true
    · rw [h2, Bool.not_true, br_false]
      by_cases h3 : measOk a b c = true
      · rw [h3, Bool.not_true, br_false]
        by_cases h4 : (g.length : Int) > 240
        · rw [decide_eq_true h4, br_true, decide_eq_false (by omega)]; rfl
        · rw [decide_eq_false h4, br_false, decide_eq_true (by omega : (g.length : Int) ≤ 240)]
          have hA := loop_all (s := spec_MachineOk_s0) f (0, 0) (fun i => (((), f, (f.length : Int), (i : Int), ()), ((s, ws, so, d, e, a, b, c, f, g, ()), ()), ())) (goodB s so) (.inl ((false, ()), (), ())) (.inr (((), ()), ((s, ws, so, d, e, a, b, c, f, g, ()), ()), ())) (by
            intro i hi
            simp only [spec_MachineOk_s0, Int.toNat_natCast, l2Matrix_eq hs e2, Option.bind_some, br_ite, w64_succ hi (big_len hf)]
            rw [if_pos (by simpa using hi), ck_pos (by omega), ck_pos hi]
            unfold goodB bandB bne
            show (if (!ofFont s so (f.getD i (0, 0))) = true then _ else _) = _
            cases ofFont s so (f.getD i (0, 0)) <;> cases ((f.getD i (0, 0)).1 == -1) <;> cases ((f.getD i (0, 0)).2 == 0) <;> rfl) (by
            simp only [spec_MachineOk_s0, br_ite]
            rw [if_neg (by simp)])
          have hB := loop_all (s := spec_MachineOk_s2) g (0, 0) (fun i => (((), g, (g.length : Int), (i : Int), ()), ((s, ws, so, d, e, a, b, c, f, g, ()), ()), ())) (ofFont s so) (.inl ((false, ()), (), ())) (.inr (((), ()), ((s, ws, so, d, e, a, b, c, f, g, ()), ()), ())) (by
            intro i hi
            simp only [spec_MachineOk_s2, Int.toNat_natCast, l2Matrix_eq hs e2, Option.bind_some, br_ite, w64_succ hi (big_len hg)]
            rw [if_pos (by simpa using hi), ck_pos (by omega), ck_pos hi]
            show (if (!ofFont s so (g.getD i (0, 0))) = true then _ else _) = _
            cases ofFont s so (g.getD i (0, 0)) <;> rfl) (by
            simp only [spec_MachineOk_s2, br_ite]
            rw [if_neg (by simp)])
          simp only [Int.ofNat_zero, Int.natCast_zero] at hA hB
          rw [hA, Option.bind_some, sumK_ite, sumK_inl, sumK_inr]
          by_cases h5 : f.all (goodB s so) = true
          · rw [if_pos h5, h5]
            simp only []
            rw [hB, Option.bind_some, sumK_ite, sumK_inl, sumK_inr]
            by_cases h6 : g.all (ofFont s so) = true
            · rw [if_pos h6, h6]
              simp only []
              rw [specItems_eq e1 hf (fun m hm => List.all_eq_true.1 h5 m hm), Option.bind_some]
              simp only []
              rw [l3Fits_eq (by simpa using hf) h3]
              rfl
            · rw [if_neg h6, Bool.eq_false_iff.2 h6]; rfl
          · rw [if_neg h5, Bool.eq_false_iff.2 h5]; rfl
      · rw [Bool.eq_false_iff.2 h3]; rfl
    · rw [Bool.eq_false_iff.2 h2]; rfl
  · rw [Bool.eq_false_iff.2 h1]; rfl
set_option linter.unusedSectionVars false in
theorem containsGood (e1 : ws.length = s.size) (e2 : so.length = s.size) : ContainsFunc_Matrix_impl_MachineOk_1 f s ws so e a b c f g = some ((!f.all (goodB s so), ()), (), ()) := by
  have h1 : ∀ m : Int × Int, impl_MachineOk_1 m.1 m.2 s ws so e a b c f g = some ((!goodB s so m, ()), (), ()) := fun m => by
    simp only [impl_MachineOk_1, isBand_eq, ofFont_eq e2, Option.bind_some, goodB]
    show br (!bandB m) (some ((!ofFont s so m, ()), (), ())) _ = _
    cases bandB m <;> rfl
  have h := loop_idx (s := IndexFunc_Matrix_impl_MachineOk_1_s0) f (0, 0) (fun i => ((f, ((s, ws, so, (), e, a, b, c, f, g, ()), ()), (f.length : Int), (i : Int), ()), (), ())) (fun x => !goodB s so x) (fun i => .inl (((i : Int), ()), (), ())) (.inr ((), (), ())) (by
    intro i hi
    simp only [IndexFunc_Matrix_impl_MachineOk_1_s0, h1, Int.toNat_natCast, Option.bind_some, br_ite]
    rw [if_pos (by simpa using hi), ck_pos (by omega), ck_pos hi, w64_succ hi (big_len hf)]
    cases goodB s so (f.getD i (0, 0)) <;> rfl) (by
    simp only [IndexFunc_Matrix_impl_MachineOk_1_s0, br_ite]
    rw [if_neg (by simp)])
  have h2 : IndexFunc_Matrix_impl_MachineOk_1 f s ws so e a b c f g = some ((idxOf f (fun x => !goodB s so x), ()), (), ()) := by
    refine (congrArg (fun o => Option.bind o fun r5 => sumK r5 (fun y8 => some ((y8.1.1, ()), (), ())) (fun y9 => some (((-1 : Int), ()), (), ()))) h).trans ?_
    simp only [Option.bind_some, sumK_ite, sumK_inl, sumK_inr, idxOf]
    split <;> rfl
  simp only [ContainsFunc_Matrix_impl_MachineOk_1, h2, Option.bind_some, idxOf_ge]
  congr 3
  rw [Bool.eq_iff_iff]; simp
theorem implMachineOk_eq : impl_MachineOk s ws so d e a b c f g = some ((machOk s ws so d e a b c f g, ()), (), ()) := by
  simp only [impl_MachineOk, implMagazineOk_eq hs hw ho hd hd', Option.bind_some, machOk]
  by_cases h1 : magOk s ws so d = true
  · have h1' : fontOk s ws so = true := by simp only [magOk, Bool.and_eq_true] at h1; exact h1.1
    obtain ⟨e1, e2, _⟩ := fontOk_len h1'
    rw [h1, Bool.not_true, br_false, allOf_eq e2 hg, containsGood hs hw ho hd hd' hf hg e1 e2, Option.bind_some, Option.bind_some]
    by_cases h2 : inB e 0 60 = true
    · rw [h2]
      have h2' : 0 ≤ e ∧ e ≤ 60 := by simpa [inB] using h2
      rw [decide_eq_false (by omega : ¬ e < 0), br_false, decide_eq_false (by omega : ¬ e > 60), br_false]
      by_cases h7 : (f.length : Int) > 120
      · rw [decide_eq_true h7, br_true]
        have : fitsB a b c (f.map (widOf ws)) = false := by
          unfold fitsB lineOk
          rw [List.length_map, decide_eq_false (by omega : ¬ (f.length : Int) ≤ 120)]; rfl
        rw [this]
        simp
      · rw [decide_eq_false h7, br_false]
        by_cases h4 : (g.length : Int) > 240
        · rw [decide_eq_true h4, br_true, decide_eq_false (by omega : ¬ (g.length : Int) ≤ 240)]; simp
        · rw [decide_eq_false h4, br_false, decide_eq_true (by omega : (g.length : Int) ≤ 240)]
          by_cases h6 : g.all (ofFont s so) = true
          · rw [h6, Bool.not_true, br_false]
            by_cases h5 : f.all (goodB s so) = true
            · rw [h5, Bool.not_true, br_false, implItems_eq e1 hf (fun m hm => List.all_eq_true.1 h5 m hm), Option.bind_some]
              simp only []
              rw [fits_eq (by simpa using hf)]
              simp
            · rw [Bool.eq_false_iff.2 h5]; simp
          · rw [Bool.eq_false_iff.2 h6]; simp
    · rw [Bool.eq_false_iff.2 h2, br_ite, br_ite]
      have h2' : ¬ (0 ≤ e ∧ e ≤ 60) := by simpa [inB] using h2
      by_cases k1 : e < 0
      · rw [if_pos (by simpa using k1)]; rfl
      · rw [if_neg (by simpa using k1), if_pos (by simp; omega)]; rfl
  · rw [Bool.eq_false_iff.2 h1]; rfl
end
end Go.Tree
namespace Go.Tree
theorem ofBytes_append (a b : List Int) : ofBytes (a ++ b) = ofBytes a ++ ofBytes b := by
  apply ByteArray.ext
  simp [ofBytes]
theorem ofBytes_size (a : List Int) : (ofBytes a).size = a.length := by
  show (ofBytes a).data.size = _
  simp [ofBytes]
theorem extract_one {s : ByteArray} {i : Nat} (h : i < s.size) : s.extract i (i + 1) = ofBytes [byteAt s i] := by
  apply ByteArray.ext
  have h' : i < s.data.toList.length := by simpa using h
  have e : (UInt8.ofNat (byteAt s i).toNat) = s.data.toList[i] := by
    unfold byteAt
    rw [List.getD_eq_getElem?_getD, List.getElem?_eq_getElem h']
    simp
  rw [ByteArray.data_extract]
  apply Array.toList_inj.1
  rw [Array.toList_extract]
  simp only [ofBytes, List.map_cons, List.map_nil, e]
  apply List.ext_getElem?
  intro j
  simp only [List.extract_eq_take_drop, List.getElem?_take, List.getElem?_drop]
  cases j with
  | zero => rw [if_pos (by omega)]; simp [h']
  | succ j => rw [if_neg (by omega)]; simp
def letOf (s : ByteArray) (m : Int × Int) : Int := if m.1 < 0 then 32 else byteAt s m.1.toNat
section
variable {s : ByteArray} {ws so : List Int} (hs : s.size ≤ 1048576) {l : List (Int × Int)} (hl : l.length ≤ 1048576) (hall : ∀ m ∈ l, (bandB m || ofFont s so m) = true)
include hall in
theorem letter_in {i : Nat} (hi : i < l.length) (h : ¬ (l.getD i (0, 0)).1 < 0) : (l.getD i (0, 0)).1.toNat < s.size := by
  have := hall _ (getD_mem (d := (0, 0)) hi)
  simp only [bandB, ofFont, Bool.or_eq_true, Bool.and_eq_true, beq_iff_eq, decide_eq_true_eq] at this
  omega
include hs hl hall
theorem specText_eq : spec_l5Text s ws so l = some ((ofBytes (l.map (letOf s)), ()), (), ()) := by
  have h := loop_for (s := spec_l5Text_s0) (fun i => (((), ofBytes ((l.take i).map (letOf s)), l, (l.length : Int), (i : Int), ()), ((s, ws, so, ()), ()), ())) l.length ((ofBytes (l.map (letOf s)), ()), (), ()) (by
    intro i hi
    have hk := letter_in hall hi
    have hm : IntKind.i64.max = 9223372036854775807 := rfl
    have h1 : (ByteArray.mk #[32]).size = 1 := rfl
    have h2 : ofBytes [32] = ByteArray.mk #[32] := rfl
    simp only [spec_l5Text_s0, Int.toNat_natCast, br_ite, ofBytes_size, List.length_map, List.length_take]
    rw [if_pos (by simpa using hi), ck_pos (by omega), ck_pos hi, ← map_take_succ l (0, 0) (letOf s) hi, w64_succ hi (big_len hl), ofBytes_append]
    unfold letOf
    by_cases k : (l.getD i (0, 0)).1 < 0
    · rw [if_pos (by simpa using k), ck_pos (by rw [hm, h1]; omega), if_pos k, h2]
    · have hk' := hk k
      have e : w64 ((l.getD i (0, 0)).1 + 1) = (l.getD i (0, 0)).1 + 1 := w64_id (by omega) (by omega)
      have e' : ((l.getD i (0, 0)).1 + 1).toNat = (l.getD i (0, 0)).1.toNat + 1 := by omega
      rw [if_neg (by simpa using k), e, e', ck_pos (by omega), ck_pos (by omega), ck_pos ⟨by omega, by omega⟩, extract_one hk', ofBytes_size, ck_pos (by rw [hm, List.length_singleton]; omega), if_neg k]) (by
    simp only [spec_l5Text_s0, br_ite, List.take_length]
    rw [if_neg (by simp)])
  exact congrArg (fun o => Option.bind o fun r10 => some ((r10.1.1, ()), (), ())) h
set_option linter.unusedSectionVars false in
theorem implText_eq (d : List (List (Int × Int))) (e a b c : Int) (g : List (Int × Int)) :
    loopC impl_LineText_s0 (((), (), l, (l.length : Int), (0 : Int), ()), ((s, ws, so, d, e, a, b, c, l, g, ()), ()), ([], ())) = some (((), ()), (), (l.map (letOf s), ())) :=
  loop_for (s := impl_LineText_s0) (fun i => (((), (), l, (l.length : Int), (i : Int), ()), ((s, ws, so, d, e, a, b, c, l, g, ()), ()), ((l.take i).map (letOf s), ()))) l.length (((), ()), (), (l.map (letOf s), ())) (by
    intro i hi
    have hk := letter_in hall hi
    have hb := hall _ (getD_mem (d := (0, 0)) hi)
    simp only [impl_LineText_s0, isBand_eq, Option.bind_some, Int.toNat_natCast, br_ite, List.length_cons, List.length_nil, List.length_map, List.length_take]
    rw [if_pos (by simpa using hi), ck_pos (by omega), ck_pos hi, ← map_take_succ l (0, 0) (letOf s) hi, w64_succ hi (big_len hl)]
    unfold letOf
    have e : (bandB ((l.getD i (0, 0)).1, (l.getD i (0, 0)).2) = true) ↔ (l.getD i (0, 0)).1 < 0 := by
      simp only [bandB, ofFont, Bool.or_eq_true, Bool.and_eq_true, beq_iff_eq, decide_eq_true_eq] at hb ⊢
      omega
    by_cases k : (l.getD i (0, 0)).1 < 0
    · rw [if_pos (e.2 k), ck_pos ⟨by omega, by omega⟩, if_pos k]
    · rw [if_neg (fun h => k (e.1 h)), ck_pos ⟨by omega, hk k⟩, ck_pos ⟨by omega, by omega⟩, if_neg k]) (by
    simp only [impl_LineText_s0, br_ite, List.take_length]
    rw [if_neg (by simp)])
end
def lineText (s : ByteArray) (ws so : List Int) (d : List (List (Int × Int))) (e a b c : Int) (f g : List (Int × Int)) : ByteArray := if machOk s ws so d e a b c f g = true then ofBytes (f.map (letOf s)) else ByteArray.empty
theorem machOk_good {s : ByteArray} {ws so : List Int} {d : List (List (Int × Int))} {e a b c : Int} {f g : List (Int × Int)} (h : machOk s ws so d e a b c f g = true) : ∀ m ∈ f, (bandB m || ofFont s so m) = true := by
  simp only [machOk, Bool.and_eq_true] at h
  exact fun m hm => List.all_eq_true.1 h.2.2.2.2.1 m hm
section
variable {s : ByteArray} {ws so : List Int} {d : List (List (Int × Int))} {e a b c : Int} {f g : List (Int × Int)} (hs : s.size ≤ 1048576) (hw : ws.length ≤ 1048576) (ho : so.length ≤ 1048576) (hd : d.length ≤ 1048576) (hd' : ∀ c ∈ d, c.length ≤ 1048576)
  (hf : f.length ≤ 1048576) (hg : g.length ≤ 1048576)
include hs hw ho hd hd' hf hg
theorem implLineText_eq : impl_LineText s ws so d e a b c f g = some ((lineText s ws so d e a b c f g, ()), (), ()) := by
  simp only [impl_LineText, implMachineOk_eq hs hw ho hd hd' hf hg, Option.bind_some, lineText]
  by_cases h : machOk s ws so d e a b c f g = true
  · rw [h, implText_eq hs hf (machOk_good h)]; rfl
  · rw [Bool.eq_false_iff.2 h]; rfl
end
end Go.Tree
namespace Go.Tree
def markL (k : Int) (n : Nat) : List Int := (List.range n).map fun i : Nat => k + (i : Int)
def markTo (l : List Int) (k : Int) (i : Nat) : List Int := markL k i ++ l.drop i
theorem markL_length (k : Int) (n : Nat) : (markL k n).length = n := by simp [markL]
theorem markTo_length (l : List Int) (k : Int) {i : Nat} (h : i ≤ l.length) : (markTo l k i).length = l.length := by simp [markTo, markL_length]; omega
theorem map_range_set {α : Type} (f : Nat → α) (l : List α) {i : Nat} (h : i < l.length) : ((List.range i).map f ++ l.drop i).set i (f i) = (List.range (i + 1)).map f ++ l.drop (i + 1) := by
  rw [List.set_append_right _ _ (by simp)]
  simp only [List.length_map, List.length_range, Nat.sub_self]
  rw [List.drop_eq_getElem_cons h, List.set_cons_zero, List.range_succ, List.map_append, List.append_assoc]
  rfl
theorem markTo_set (l : List Int) (k : Int) {i : Nat} (h : i < l.length) : (markTo l k i).set i (k + (i : Int)) = markTo l k (i + 1) := map_range_set (fun i : Nat => k + (i : Int)) l h
theorem markTo_all (l : List Int) (k : Int) : markTo l k l.length = markL k l.length := by simp [markTo]
theorem markIntS_eq {l : List Int} {k : Int} (h0 : 0 ≤ k) (h1 : k ≤ 10000000000000) (hl : l.length ≤ 1048576) : laws_markIntS k l = some ((k + (l.length : Int), (), ()), (), (markL k l.length, ())) := by
  have h := loop_for (s := laws_markIntS_s0) (fun i => (((), k + (i : Int), (i : Int), ()), (), (markTo l k i, ()))) l.length (((), k + (l.length : Int), ()), (), (markL k l.length, ())) (by
    intro i hi
    simp only [laws_markIntS_s0, Int.toNat_natCast, br_ite, markTo_length l k (Nat.le_of_lt hi), markTo_set l k hi]
    rw [if_pos (by simpa using hi), ck_pos (by omega), ck_pos hi, ck_pos hi, w64_succ hi (big_len hl), w64_id (by omega) (by omega), show k + (i : Int) + 1 = k + ((i + 1 : Nat) : Int) by omega]) (by
    simp only [laws_markIntS_s0, br_ite, markTo_all, markL_length]
    rw [if_neg (by simp)])
  have e : markTo l k 0 = l := by simp [markTo, markL]
  simp only [e, Int.natCast_zero, Int.add_zero] at h
  exact congrArg (fun o => Option.bind o fun r5 => some ((r5.1.2.1, (), ()), (), (r5.2.2.1, ()))) h
theorem heldIntS_eq {k : Int} {n : Nat} (h0 : 0 ≤ k) (h1 : k ≤ 10000000000000) (hn : n ≤ 1048576) : laws_heldIntS (markL k n) k = some ((k + (n : Int), ()), (), ()) := by
  have hlen := markL_length k n
  have h := loop_for (s := laws_heldIntS_s0) (fun i => ((markL k n, k + (i : Int), (i : Int), ()), (), ())) n (.inr ((k + (n : Int), ()), (), ())) (by
    intro i hi
    have hg : (markL k n).getD i 0 = k + (i : Int) := by rw [List.getD_eq_getElem?_getD]; simp [markL, hi]
    simp only [laws_heldIntS_s0, Int.toNat_natCast, br_ite, hlen, hg]
    rw [if_pos (by simpa using hi), ck_pos (by omega), ck_pos hi, if_neg (by simp), w64_succ hi (big_len hn), w64_id (by omega) (by omega), show k + (i : Int) + 1 = k + ((i + 1 : Nat) : Int) by omega]) (by
    simp only [laws_heldIntS_s0, br_ite, hlen]
    rw [if_neg (by simp)])
  simp only [Int.natCast_zero, Int.add_zero] at h
  exact congrArg (fun o => Option.bind o fun r6 => sumK r6 (fun y9 => some ((y9.1.1, ()), (), ())) (fun y10 => some ((y10.1.1, ()), (), ()))) h
def markP (k : Int) (n : Nat) : List (Int × Int) := (List.range n).map fun i : Nat => (k + 2 * (i : Int), k + 2 * (i : Int) + 1)
def markPTo (l : List (Int × Int)) (k : Int) (i : Nat) : List (Int × Int) := markP k i ++ l.drop i
theorem markP_length (k : Int) (n : Nat) : (markP k n).length = n := by simp [markP]
theorem markPTo_length (l : List (Int × Int)) (k : Int) {i : Nat} (h : i ≤ l.length) : (markPTo l k i).length = l.length := by simp [markPTo, markP_length]; omega
theorem markPTo_set (l : List (Int × Int)) (k : Int) {i : Nat} (h : i < l.length) : (markPTo l k i).set i (k + 2 * (i : Int), k + 2 * (i : Int) + 1) = markPTo l k (i + 1) := map_range_set (fun i : Nat => (k + 2 * (i : Int), k + 2 * (i : Int) + 1)) l h
theorem markPTo_all (l : List (Int × Int)) (k : Int) : markPTo l k l.length = markP k l.length := by simp [markPTo]
theorem markMatrixS_eq {l : List (Int × Int)} {k : Int} (h0 : 0 ≤ k) (h1 : k ≤ 4000000000000) (hl : l.length ≤ 1048576) : laws_markMatrixS k l = some ((k + 2 * (l.length : Int), (), ()), (), (markP k l.length, ())) := by
  have h := loop_for (s := laws_markMatrixS_s0) (fun i => (((), k + 2 * (i : Int), (i : Int), ()), (), (markPTo l k i, ()))) l.length (((), k + 2 * (l.length : Int), ()), (), (markP k l.length, ())) (by
    intro i hi
    simp only [laws_markMatrixS_s0, Int.toNat_natCast, br_ite, List.length_set, markPTo_length l k (Nat.le_of_lt hi)]
    rw [w64_id (x := k + 2 * (i : Int) + 1) (by omega) (by omega)]
    rw [if_pos (by simpa using hi), ck_pos (by omega), ck_pos hi, ck_pos hi, ck_pos (by omega), ck_pos hi, ck_pos hi, w64_succ hi (big_len hl), w64_id (by omega) (by omega)]
    have e1 : ((markPTo l k i).set i (k + 2 * (i : Int), ((markPTo l k i).getD i (0, 0)).2)).getD i (0, 0) = (k + 2 * (i : Int), ((markPTo l k i).getD i (0, 0)).2) := by
      rw [List.getD_eq_getElem?_getD, List.getElem?_set_self (by rw [markPTo_length l k (Nat.le_of_lt hi)]; exact hi)]; rfl
    rw [e1, List.set_set]
    simp only []
    rw [markPTo_set l k hi, show k + 2 * (i : Int) + 1 + 1 = k + 2 * ((i + 1 : Nat) : Int) by omega]) (by
    simp only [laws_markMatrixS_s0, br_ite, markPTo_all, markP_length]
    rw [if_neg (by simp)])
  have e : markPTo l k 0 = l := by simp [markPTo, markP]
  simp only [e, Int.natCast_zero, Int.mul_zero, Int.add_zero] at h
  exact congrArg (fun o => Option.bind o fun r7 => some ((r7.1.2.1, (), ()), (), (r7.2.2.1, ()))) h
def markSS : Int → List (List (Int × Int)) → List (List (Int × Int))
  | _, [] => []
  | k, m :: t => markP k m.length :: markSS (k + 2 * (m.length : Int)) t
def sumLen (l : List (List (Int × Int))) : Int := (l.map fun m => (m.length : Int)).foldr (· + ·) 0
theorem sumLen_cons (m : List (Int × Int)) (t : List (List (Int × Int))) : sumLen (m :: t) = m.length + sumLen t := rfl
theorem sumLen_nonneg : ∀ l : List (List (Int × Int)), 0 ≤ sumLen l
  | [] => by simp [sumLen]
  | m :: t => by have := sumLen_nonneg t; rw [sumLen_cons]; omega
theorem sumLen_append (a b : List (List (Int × Int))) : sumLen (a ++ b) = sumLen a + sumLen b := by
  induction a with
  | nil => simp [sumLen]
  | cons m t ih => rw [List.cons_append, sumLen_cons, sumLen_cons, ih]; omega
theorem sumLen_le (l : List (List (Int × Int))) (h : ∀ m ∈ l, m.length ≤ 1048576) : sumLen l ≤ 1048576 * l.length := by
  induction l with
  | nil => simp [sumLen]
  | cons m t ih => have := ih (fun x hx => h x (List.mem_cons_of_mem _ hx)); have := h m (by simp); rw [sumLen_cons, List.length_cons]; omega
theorem markSS_length : ∀ (k : Int) (l : List (List (Int × Int))), (markSS k l).length = l.length
  | _, [] => rfl
  | k, m :: t => by simp [markSS, markSS_length _ t]
theorem markSS_append : ∀ (k : Int) (a b : List (List (Int × Int))), markSS k (a ++ b) = markSS k a ++ markSS (k + 2 * sumLen a) b
  | k, [], b => by simp [markSS, sumLen]
  | k, m :: t, b => by
    simp only [List.cons_append, markSS, markSS_append _ t b, sumLen_cons]
    congr 3
    omega
theorem markMatrixSS_eq {l : List (List (Int × Int))} {k : Int} (h0 : 0 ≤ k) (h1 : k ≤ 1000000000) (hl : l.length ≤ 1048576) (hm : ∀ m ∈ l, m.length ≤ 1048576) :
    laws_markMatrixSS k l = some ((k + 2 * sumLen l, (), ()), (), (markSS k l, ())) := by
  have h := loop_for (s := laws_markMatrixSS_s0) (fun i => (((), k + 2 * sumLen (l.take i), (i : Int), ()), (), (markSS k (l.take i) ++ l.drop i, ()))) l.length (((), k + 2 * sumLen l, ()), (), (markSS k l, ())) (by
    intro i hi
    have L : (markSS k (l.take i) ++ l.drop i).length = l.length := by simp [markSS_length]; omega
    have L1 : (markSS k (l.take i)).length = i := by simp [markSS_length]; omega
    have hg : (markSS k (l.take i) ++ l.drop i).getD i [] = l[i] := by
      rw [List.getD_eq_getElem?_getD, List.getElem?_append_right (by omega), L1, List.getElem?_drop]
      simp [hi]
    have hb := sumLen_le (l.take i) (fun m h => hm m (List.mem_of_mem_take h))
    have hb0 := sumLen_nonneg (l.take i)
    have hlt : (l.take i).length ≤ 1048576 := by simp; omega
    simp only [laws_markMatrixSS_s0, Int.toNat_natCast, br_ite, L, hg]
    rw [markMatrixS_eq (by omega) (by omega) (hm _ (List.getElem_mem hi))]
    rw [if_pos (by simpa using hi), ck_pos (by omega), ck_pos hi, ck_pos hi, ck_pos trivial, ck_pos hi, ck_pos ⟨trivial, hi⟩, Option.bind_some, ck_pos ⟨trivial, hi⟩, w64_succ hi (big_len hl)]
    have e1 : l.take (i + 1) = l.take i ++ [l[i]] := List.take_succ_eq_append_getElem hi
    have e2 : (markSS k (l.take i) ++ l.drop i).set i (markP (k + 2 * sumLen (l.take i)) l[i].length) = markSS k (l.take (i + 1)) ++ l.drop (i + 1) := by
      rw [List.set_append_right _ _ (by omega), L1, Nat.sub_self, List.drop_eq_getElem_cons hi, List.set_cons_zero, e1, markSS_append, List.append_assoc]
      rfl
    have e3 : k + 2 * sumLen (l.take (i + 1)) = k + 2 * sumLen (l.take i) + 2 * (l[i].length : Int) := by
      rw [e1, sumLen_append, sumLen_cons]; simp only [sumLen, List.map_nil, List.foldr_nil]; omega
    rw [e3, ← e2]) (by
    simp only [laws_markMatrixSS_s0, br_ite, List.take_length, List.drop_length, List.append_nil, markSS_length]
    rw [if_neg (by simp)])
  have e : sumLen [] = 0 := rfl
  simp only [List.take_zero, List.drop_zero, markSS, List.nil_append, e, Int.natCast_zero, Int.mul_zero, Int.add_zero] at h
  exact congrArg (fun o => Option.bind o fun r6 => some ((r6.1.2.1, (), ()), (), (r6.2.2.1, ()))) h
theorem markMachine_eq {a : ByteArray} {b c : List Int} {d : List (List (Int × Int))} {e0 e1 e2 e3 : Int} {f g : List (Int × Int)} {k : Int} (h0 : 0 ≤ k) (h1 : k ≤ 10000000) (hb : b.length ≤ 1048576) (hc : c.length ≤ 1048576)
    (hd : d.length ≤ 1048576) (hd' : ∀ m ∈ d, m.length ≤ 1048576) (hf : f.length ≤ 1048576) (hg : g.length ≤ 1048576) :
    laws_markMachine a e0 e1 e2 e3 k b c d f g = some ((k + b.length + c.length + 2 * sumLen d + 2 * f.length + 2 * g.length, (a, (), (), (), e0, e1, e2, e3, (), (), ()), ()), (),
      (markL k b.length, markL (k + b.length) c.length, markSS (k + b.length + c.length) d, markP (k + b.length + c.length + 2 * sumLen d) f.length, markP (k + b.length + c.length + 2 * sumLen d + 2 * f.length) g.length, ())) := by
  have s0 := sumLen_nonneg d
  have s1 := sumLen_le d hd'
  simp only [laws_markMachine, laws_markFont, markIntS_eq h0 (show k ≤ 10000000000000 by omega) hb, Option.bind_some]
  rw [markIntS_eq (by omega) (by omega) hc, Option.bind_some, Option.bind_some]
  simp only []
  rw [markMatrixSS_eq (by omega) (by omega) hd hd', Option.bind_some]
  simp only []
  rw [markMatrixS_eq (by omega) (by omega) hf, Option.bind_some]
  simp only []
  rw [markMatrixS_eq (by omega) (by omega) hg, Option.bind_some]
end Go.Tree
namespace Go.Tree
def itemsOf (s : ByteArray) (ws so : List Int) (d : List (List (Int × Int))) (e a b c : Int) (f g : List (Int × Int)) : List Int := if machOk s ws so d e a b c f g = true then f.map (widOf ws) else []
theorem machOk_font {s : ByteArray} {ws so : List Int} {d : List (List (Int × Int))} {e a b c : Int} {f g : List (Int × Int)} (h : machOk s ws so d e a b c f g = true) : ws.length = s.size ∧ ∀ m ∈ f, (bandB m || ofFont s so m) = true := by
  simp only [machOk, magOk, Bool.and_eq_true] at h
  exact ⟨(fontOk_len h.1.1).1, fun m hm => List.all_eq_true.1 h.2.2.2.2.1 m hm⟩
section
variable {s : ByteArray} {ws so : List Int} {d : List (List (Int × Int))} {e a b c : Int} {f g : List (Int × Int)} (hs : s.size ≤ 1048576) (hw : ws.length ≤ 1048576) (ho : so.length ≤ 1048576) (hd : d.length ≤ 1048576) (hd' : ∀ c ∈ d, c.length ≤ 1048576)
  (hf : f.length ≤ 1048576) (hg : g.length ≤ 1048576)
include hs hw ho hd hd' hf hg
theorem implItemsOf_eq : impl_ItemsOf s ws so d e a b c f g = some (((), ()), (), (itemsOf s ws so d e a b c f g, ())) := by
  simp only [impl_ItemsOf, implMachineOk_eq hs hw ho hd hd' hf hg, Option.bind_some, itemsOf]
  by_cases h : machOk s ws so d e a b c f g = true
  · rw [h, implItems_eq (machOk_font h).1 hf (machOk_font h).2]; rfl
  · rw [Bool.eq_false_iff.2 h]; rfl
end
end Go.Tree
namespace Go.Tree
theorem getD_of_lt {α : Type} {l : List α} {d : α} {i : Nat} (h : i < l.length) : l.getD i d = l[i] := by
  rw [List.getD_eq_getElem?_getD, List.getElem?_eq_getElem h]; rfl
structure Mach where
  s : ByteArray
  ws : List Int
  so : List Int
  d : List (List (Int × Int))
  e : Int
  a : Int
  b : Int
  c : Int
  f : List (Int × Int)
  g : List (Int × Int)
structure Mach.Sm (m : Mach) : Prop where
  s : m.s.size ≤ 1048576
  ws : m.ws.length ≤ 1048576
  so : m.so.length ≤ 1048576
  d : m.d.length ≤ 1048576
  d' : ∀ x ∈ m.d, x.length ≤ 1048576
  f : m.f.length ≤ 1048576
  g : m.g.length ≤ 1048576
def Mach.no : Mach := ⟨.empty, [], [], [], 0, 0, 0, 0, [], []⟩
theorem Mach.no_sm : Mach.no.Sm := ⟨by decide, by decide, by decide, by decide, (fun x hx => by cases hx), by decide, by decide⟩
abbrev Mach.ok (m : Mach) : Bool := machOk m.s m.ws m.so m.d m.e m.a m.b m.c m.f m.g
abbrev Mach.top (m : Mach) : ByteArray × Unit × Unit × Unit × Int × Int × Int × Int × Unit × Unit × Unit := (m.s, (), (), (), m.e, m.a, m.b, m.c, (), (), ())
abbrev Mach.obs (m : Mach) : List Int × List Int × List (List (Int × Int)) × List (Int × Int) × List (Int × Int) × Unit := (m.ws, m.so, m.d, m.f, m.g, ())
def Mach.tot (m : Mach) (k : Int) : Int := k + m.ws.length + m.so.length + 2 * sumLen m.d + 2 * m.f.length + 2 * m.g.length
theorem Mach.tot_bound {m : Mach} (h : m.Sm) (k : Int) : k ≤ m.tot k ∧ m.tot k ≤ k + 2300000000000 := by
  have s0 := sumLen_nonneg m.d
  have s1 := sumLen_le m.d h.d'
  have := h.ws; have := h.so; have := h.d; have := h.f; have := h.g
  unfold Mach.tot
  omega
section
variable {m : Mach} (h : m.Sm)
include h
theorem toM_eq : laws_toMachine m.s m.ws m.so m.d m.e m.a m.b m.c m.f m.g = some ((m.top, ()), (), m.obs) := toMachine_eq h.ws h.so h.d h.d' h.f h.g
theorem eqM_refl : laws_eqMachine m.s m.ws m.so m.d m.e m.a m.b m.c m.f m.g m.s m.ws m.so m.d m.e m.a m.b m.c m.f m.g = some ((true, ()), (), ()) := eqMachine_refl h.ws h.so h.d h.d' h.f h.g
theorem markM_eq {k : Int} (h0 : 0 ≤ k) (h1 : k ≤ 10000000) : laws_markMachine m.s m.e m.a m.b m.c k m.ws m.so m.d m.f m.g = some ((m.tot k, m.top, ()), (),
    (markL k m.ws.length, markL (k + m.ws.length) m.so.length, markSS (k + m.ws.length + m.so.length) m.d, markP (k + m.ws.length + m.so.length + 2 * sumLen m.d) m.f.length, markP (k + m.ws.length + m.so.length + 2 * sumLen m.d + 2 * m.f.length) m.g.length, ())) :=
  markMachine_eq h0 h1 h.ws h.so h.d h.d' h.f h.g
theorem specOk_eq : spec_MachineOk m.s m.ws m.so m.d m.e m.a m.b m.c m.f m.g = some ((m.ok, ()), (), ()) := specMachineOk_eq h.s h.ws h.so h.d h.d' h.f h.g
theorem implOk_eq : impl_MachineOk m.s m.ws m.so m.d m.e m.a m.b m.c m.f m.g = some ((m.ok, ()), (), ()) := implMachineOk_eq h.s h.ws h.so h.d h.d' h.f h.g
end
theorem szM_eq (m : Mach) (hs : m.s.size ≤ maxLen) (hw : m.ws.length ≤ maxLen) (ho : m.so.length ≤ maxLen) (hd : m.d.length ≤ maxLen) (hd' : ∀ c ∈ m.d, c.length ≤ maxLen) (hf : m.f.length ≤ maxLen) (hg : m.g.length ≤ maxLen) {n : Int} (h0 : 0 ≤ n) (h1 : n ≤ 1048576) :
    Sz (laws_szMachine m.s m.ws m.so m.d m.e m.a m.b m.c m.f m.g n) n m.Sm :=
  (szMachine_eq h0 h1 hs hw ho hd hd' hf hg).mono (Int.le_refl _) fun ⟨g1, g2, g3, g4, g5, g6, g7⟩ => ⟨by omega, by omega, by omega, by omega, fun x hx => by have := g5 x hx; omega, by omega, by omega⟩
theorem mag_parts {s : ByteArray} {ws so : List Int} {d : List (List (Int × Int))} (h : magOk s ws so d = true) : fontOk s ws so = true ∧ d.length = s.size ∧ ∀ c ∈ d, c.length ≤ 20 ∧ ∀ m ∈ c, ofFont s so m = true := by
  simp only [magOk, colB, Bool.and_eq_true, List.all_eq_true, beq_iff_eq, decide_eq_true_eq] at h
  exact ⟨h.1, h.2.1, fun c hc => ⟨by have := (h.2.2 c hc).1; omega, (h.2.2 c hc).2⟩⟩
theorem font_size {s : ByteArray} {ws so : List Int} (h : fontOk s ws so = true) : 1 ≤ s.size ∧ s.size ≤ 40 := by
  simp only [fontOk, inB, Bool.and_eq_true, decide_eq_true_eq] at h
  omega
theorem ofFont_teeth {s : ByteArray} {so : List Int} {m : Int × Int} (h : ofFont s so m = true) : 0 ≤ m.1 ∧ m.1 < s.size ∧ 0 ≤ m.2 ∧ m.2 ≤ 127 := by
  simp only [ofFont, setB, inB, Bool.and_eq_true, decide_eq_true_eq] at h
  omega
theorem ok_parts {m : Mach} (h : m.ok = true) : magOk m.s m.ws m.so m.d = true ∧ (0 ≤ m.e ∧ m.e ≤ 60) ∧ measOk m.a m.b m.c = true ∧ (m.g.length : Int) ≤ 240 ∧ (∀ x ∈ m.f, goodB m.s m.so x = true) ∧ (∀ x ∈ m.g, ofFont m.s m.so x = true) ∧ fitsB m.a m.b m.c (m.f.map (widOf m.ws)) = true := by
  simp only [Mach.ok, machOk, inB, Bool.and_eq_true, decide_eq_true_eq, List.all_eq_true] at h
  exact h
theorem ok_of {m : Mach} (h1 : magOk m.s m.ws m.so m.d = true) (h2 : 0 ≤ m.e ∧ m.e ≤ 60) (h3 : measOk m.a m.b m.c = true) (h4 : (m.g.length : Int) ≤ 240) (h5 : ∀ x ∈ m.f, goodB m.s m.so x = true) (h6 : ∀ x ∈ m.g, ofFont m.s m.so x = true) (h7 : fitsB m.a m.b m.c (m.f.map (widOf m.ws)) = true) : m.ok = true := by
  simp only [Mach.ok, machOk, inB, Bool.and_eq_true, decide_eq_true_eq, List.all_eq_true]
  exact ⟨h1, h2, h3, h4, h5, h6, h7⟩
theorem fits_len {a b c : Int} {l : List Int} (h : fitsB a b c l = true) : l.length ≤ 120 := by
  simp only [fitsB, Bool.and_eq_true] at h
  exact (lineOk_range h.1).1
theorem ok_sm {m : Mach} (h : m.ok = true) : m.Sm := by
  obtain ⟨h1, h2, h3, h4, h5, h6, h7⟩ := ok_parts h
  obtain ⟨hf, hl, hc⟩ := mag_parts h1
  obtain ⟨e1, e2, _⟩ := fontOk_len hf
  have hs := font_size hf
  have hi := fits_len h7
  rw [List.length_map] at hi
  exact ⟨by omega, by omega, by omega, by omega, fun x hx => by have := (hc x hx).1; omega, by omega, by omega⟩
theorem foldl_range {α β : Type} (l : List α) (d : α) (F : β → α → β) (a : β) : (List.range l.length).foldl (fun a i => F a (l.getD i d)) a = l.foldl F a := by
  have gen : ∀ (k : Nat), k ≤ l.length → (List.range k).foldl (fun a i => F a (l.getD i d)) a = (l.take k).foldl F a := by
    intro k
    induction k with
    | zero => intro _; rfl
    | succ k ih =>
      intro hk
      rw [List.range_succ, List.foldl_append, ih (by omega), List.take_succ_eq_append_getElem (by omega), List.foldl_append]
      simp only [List.foldl_cons, List.foldl_nil, getD_of_lt (show k < l.length by omega)]
  rw [gen l.length (Nat.le_refl _), List.take_length]
theorem good_kinds {m : Mach} (hok : m.ok = true) : ∀ x ∈ m.f ++ m.g, (bandB x = decide (x.1 < 0)) ∧ (¬ x.1 < 0 → x.1.toNat < m.d.length) := by
  obtain ⟨h1, h2, h3, h4, h5, h6, h7⟩ := ok_parts hok
  obtain ⟨hf, hl, hc⟩ := mag_parts h1
  intro x hx
  have key : bandB x = true ∨ ofFont m.s m.so x = true := by
    rcases List.mem_append.1 hx with hx | hx
    · have := h5 x hx
      unfold goodB at this
      exact Bool.or_eq_true _ _ ▸ this
    · exact .inr (h6 x hx)
  rcases key with hb | ho
  · have : x.1 = -1 := by
      simp only [bandB, Bool.and_eq_true, beq_iff_eq] at hb
      exact hb.1
    exact ⟨by rw [hb, decide_eq_true (by omega)], fun h => by omega⟩
  · obtain ⟨t1, t2, _, _⟩ := ofFont_teeth ho
    refine ⟨?_, fun _ => by omega⟩
    rw [decide_eq_false (by omega)]
    simp only [bandB, Bool.and_eq_false_iff, beq_eq_false_iff_ne]
    left; omega
end Go.Tree
namespace Go.Tree
theorem heldMatrixS_eq {k : Int} {n : Nat} (h0 : 0 ≤ k) (h1 : k ≤ 4000000000000) (hn : n ≤ 1048576) : laws_heldMatrixS (markP k n) k = some ((k + 2 * (n : Int), ()), (), ()) := by
  have hlen := markP_length k n
  have h := loop_for (s := laws_heldMatrixS_s0) (fun i => ((markP k n, k + 2 * (i : Int), (i : Int), ()), (), ())) n (.inr ((k + 2 * (n : Int), ()), (), ())) (by
    intro i hi
    have hg : (markP k n).getD i (0, 0) = (k + 2 * (i : Int), k + 2 * (i : Int) + 1) := by rw [List.getD_eq_getElem?_getD]; simp [markP, hi]
    simp only [laws_heldMatrixS_s0, Int.toNat_natCast, br_ite, hlen, hg]
    rw [w64_id (x := k + 2 * (i : Int) + 1) (by omega) (by omega)]
    rw [if_pos (by simpa using hi), ck_pos (by omega), ck_pos hi, if_neg (by simp), ck_pos (by omega), ck_pos hi, if_neg (by simp), w64_succ hi (big_len hn), w64_id (by omega) (by omega), show k + 2 * (i : Int) + 1 + 1 = k + 2 * ((i + 1 : Nat) : Int) by omega]) (by
    simp only [laws_heldMatrixS_s0, br_ite, hlen]
    rw [if_neg (by simp)])
  simp only [Int.natCast_zero, Int.mul_zero, Int.add_zero] at h
  exact congrArg (fun o => Option.bind o fun r8 => sumK r8 (fun y11 => some ((y11.1.1, ()), (), ())) (fun y12 => some ((y12.1.1, ()), (), ()))) h
theorem markSS_get : ∀ (k : Int) (l : List (List (Int × Int))) (i : Nat) (hi : i < l.length), (markSS k l).getD i [] = markP (k + 2 * sumLen (l.take i)) l[i].length
  | k, m :: t, 0, _ => by simp [markSS, sumLen]
  | k, m :: t, i + 1, hi => by
    have ih := markSS_get (k + 2 * (m.length : Int)) t i (by simpa using hi)
    simp only [markSS, List.getD_cons_succ, List.take_succ_cons, List.getElem_cons_succ, sumLen_cons] at ih ⊢
    rw [ih]
    congr 1
    omega
theorem heldMatrixSS_eq {l : List (List (Int × Int))} {k : Int} (h0 : 0 ≤ k) (h1 : k ≤ 1000000000) (hl : l.length ≤ 1048576) (hm : ∀ m ∈ l, m.length ≤ 1048576) :
    laws_heldMatrixSS (markSS k l) k = some ((k + 2 * sumLen l, ()), (), ()) := by
  have hlen := markSS_length k l
  have h := loop_for (s := laws_heldMatrixSS_s0) (fun i => ((markSS k l, k + 2 * sumLen (l.take i), (i : Int), ()), (), ())) l.length (.inr ((k + 2 * sumLen l, ()), (), ())) (by
    intro i hi
    have hb := sumLen_le (l.take i) (fun m h => hm m (List.mem_of_mem_take h))
    have hb0 := sumLen_nonneg (l.take i)
    have hlt : (l.take i).length ≤ 1048576 := by simp; omega
    simp only [laws_heldMatrixSS_s0, Int.toNat_natCast, br_ite, hlen, markSS_get k l i hi]
    rw [heldMatrixS_eq (by omega) (by omega) (hm _ (List.getElem_mem hi)), Option.bind_some]
    have e3 : k + 2 * sumLen (l.take (i + 1)) = k + 2 * sumLen (l.take i) + 2 * (l[i].length : Int) := by
      rw [List.take_succ_eq_append_getElem hi, sumLen_append, sumLen_cons]; simp only [sumLen, List.map_nil, List.foldr_nil]; omega
    rw [if_pos (by simpa using hi), ck_pos (by omega), ck_pos hi]
    simp only []
    rw [if_neg (by simp; omega), w64_succ hi (big_len hl), e3]) (by
    simp only [laws_heldMatrixSS_s0, br_ite, hlen, List.take_length]
    rw [if_neg (by simp)])
  have e : sumLen [] = 0 := rfl
  simp only [List.take_zero, e, Int.natCast_zero, Int.mul_zero, Int.add_zero] at h
  exact congrArg (fun o => Option.bind o fun r6 => sumK r6 (fun y9 => some ((y9.1.1, ()), (), ())) (fun y10 => some ((y10.1.1, ()), (), ()))) h

section
variable {m : Mach} (h : m.Sm)
include h
theorem heldM_eq {k : Int} (h0 : 0 ≤ k) (h1 : k ≤ 10000000) (s : ByteArray) (e a b c : Int) : laws_heldMachine s (markL k m.ws.length) (markL (k + m.ws.length) m.so.length) (markSS (k + m.ws.length + m.so.length) m.d) e a b c (markP (k + m.ws.length + m.so.length + 2 * sumLen m.d) m.f.length)
    (markP (k + m.ws.length + m.so.length + 2 * sumLen m.d + 2 * m.f.length) m.g.length) k = some ((m.tot k, ()), (), ()) := by
  have s0 := sumLen_nonneg m.d
  have s1 := sumLen_le m.d h.d'
  have := h.ws; have := h.so; have := h.d; have := h.f; have := h.g
  have H1 : laws_heldFont s (markL k m.ws.length) (markL (k + m.ws.length) m.so.length) k = some ((k + m.ws.length + m.so.length, ()), (), ()) := by
    simp only [laws_heldFont, heldIntS_eq (k := k) (n := m.ws.length) h0 (by omega) h.ws, Option.bind_some, br_ite]
    rw [if_neg (by simp; omega), heldIntS_eq (by omega) (by omega) h.so, Option.bind_some]
    simp only []
    rw [if_neg (by simp; omega)]
  simp only [laws_heldMachine, H1, Option.bind_some, br_ite]
  rw [if_neg (by simp; omega), heldMatrixSS_eq (by omega) (by omega) h.d h.d', Option.bind_some]
  simp only []
  rw [if_neg (by simp; omega), heldMatrixS_eq (by omega) (by omega) h.f, Option.bind_some]
  simp only []
  rw [if_neg (by simp; omega), heldMatrixS_eq (by omega) (by omega) h.g, Option.bind_some]
  simp only []
  rw [if_neg (by simp; omega)]
  rfl
end
end Go.Tree
namespace Go.Tree
theorem cloneMat_eq {l : List (Int × Int)} (hl : l.length ≤ 1048576) : Clone_Matrix l = some (((), ()), (), (l, ())) := by
  simp only [Clone_Matrix, List.nil_append, List.length_nil, Nat.zero_add, br_ite]
  have e : ∀ {α : Type} (x : Option α), ck (l.length * 16 ≤ 140737488355328 ∧ l.length ≤ 9223372036854775807) x = x := fun x => ck_pos (by omega) x
  rw [e]
  split
  · rename_i h
    have : l = [] := by simpa using h
    subst this
    exact both_self _
  · rfl
theorem l2Copy_eq {d : List (List (Int × Int))} (hd : d.length ≤ 1048576) (hd' : ∀ c ∈ d, c.length ≤ 1048576) : spec_l2Copy d = some (((), ()), (), (d, ())) := by
  have h := loop_for (s := spec_l2Copy_s0) (fun i => (((), d, (d.length : Int), (i : Int), ()), (), (d.take i, ()))) d.length (((), ()), (), (d, ())) (by
    intro i hi
    have hmem : d.getD i [] ∈ d := getD_mem hi
    have hc := hd' _ hmem
    have hlen : (d.take i).length = i := by simp; omega
    simp only [spec_l2Copy_s0, Int.toNat_natCast, br_ite, List.nil_append, List.length_nil, Nat.zero_add, hlen]
    rw [if_pos (by simpa using hi), ck_pos (by omega), ck_pos hi, ck_pos (by omega), ck_pos (by omega), w64_succ hi (big_len hd), getD_of_lt hi, ← List.take_succ_eq_append_getElem hi]) (by
    simp only [spec_l2Copy_s0, br_ite, List.take_length]
    rw [if_neg (by simp)])
  exact congrArg (fun o => Option.bind o fun r6 => some (((), ()), (), (r6.2.2.1, ()))) h
theorem copyMag_eq {d : List (List (Int × Int))} (hd : d.length ≤ 1048576) (hd' : ∀ c ∈ d, c.length ≤ 1048576) : impl_copyMagazine d = some (((), ()), (), (d, ())) := by
  have h := loop_for (s := impl_copyMagazine_s0) (fun i => (((), d, (d.length : Int), (i : Int), ()), (), (d.take i, ()))) d.length (((), ()), (), (d, ())) (by
    intro i hi
    have hmem : d.getD i [] ∈ d := getD_mem hi
    have hc := hd' _ hmem
    have hlen : (d.take i).length = i := by simp; omega
    simp only [impl_copyMagazine_s0, Int.toNat_natCast, br_ite, cloneMat_eq hc, Option.bind_some, hlen]
    rw [if_pos (by simpa using hi), ck_pos (by omega), ck_pos hi, ck_pos (by omega), w64_succ hi (big_len hd), getD_of_lt hi, ← List.take_succ_eq_append_getElem hi]) (by
    simp only [impl_copyMagazine_s0, br_ite, List.take_length]
    rw [if_neg (by simp)])
  exact congrArg (fun o => Option.bind o fun r6 => some (((), ()), (), (r6.2.2.1, ()))) h
theorem cloneInt_eq {l : List Int} (hl : l.length ≤ 1048576) : Clone_int l = some (((), ()), (), (l, ())) := by
  simp only [Clone_int, List.nil_append, List.length_nil, Nat.zero_add, br_ite]
  have e : ∀ {α : Type} (x : Option α), ck (l.length * 8 ≤ 140737488355328 ∧ l.length ≤ 9223372036854775807) x = x := fun x => ck_pos (by omega) x
  rw [e]
  split
  · rename_i h
    have : l = [] := by simpa using h
    subst this
    exact both_self _
  · rfl
section
variable {m : Mach} (h : m.Sm)
include h
theorem l5Copy_eq : spec_l5Copy m.s m.ws m.so m.d m.e m.a m.b m.c m.f m.g = some ((m.top, ()), (), m.obs) := by
  have := h.ws; have := h.so; have := h.f; have := h.g
  simp only [spec_l5Copy, l2Copy_eq h.d h.d', List.nil_append, List.length_nil, Nat.zero_add, Option.bind_some]
  rw [ck_pos (by omega), ck_pos (by omega), ck_pos (by omega), ck_pos (by omega)]
theorem copyM_eq : impl_copyMachine m.s m.ws m.so m.d m.e m.a m.b m.c m.f m.g = some ((m.top, ()), (), m.obs) := by
  simp only [impl_copyMachine, copyMag_eq h.d h.d', cloneInt_eq h.ws, cloneInt_eq h.so, cloneMat_eq h.f, cloneMat_eq h.g, Option.bind_some]
end
end Go.Tree
namespace Go.Tree
def dropD (so : List Int) (d : List (List (Int × Int))) (x : Int × Int) : List (List (Int × Int)) := d.set (fallN so x.2) (d.getD (fallN so x.2) [] ++ [x])
def dropB (s : ByteArray) (ws so : List Int) (d : List (List (Int × Int))) (x : Int × Int) : Bool := magOk s ws so d && (ofFont s so x && !(((d.getD (fallN so x.2) []).length : Int) == 20))
theorem fall_in {s : ByteArray} {so : List Int} {x : Int × Int} (ho : so.length = s.size) (h : ofFont s so x = true) : fallN so x.2 < so.length := by
  simp only [ofFont, Bool.and_eq_true, decide_eq_true_eq] at h
  unfold fallN
  rw [List.findIdx_lt_length]
  exact ⟨so.getD x.1.toNat 0, getD_mem (by omega), h.2.2⟩
theorem dropB_parts {s : ByteArray} {ws so : List Int} {d : List (List (Int × Int))} {x : Int × Int} (h : dropB s ws so d x = true) : magOk s ws so d = true ∧ ofFont s so x = true ∧ fallN so x.2 < d.length ∧ (d.getD (fallN so x.2) []).length < 20 := by
  simp only [dropB, Bool.and_eq_true, Bool.not_eq_true', beq_eq_false_iff_ne, ne_eq] at h
  obtain ⟨h1, h2, h3⟩ := h
  obtain ⟨hf, hl, hc⟩ := mag_parts h1
  have hi : fallN so x.2 < d.length := by rw [hl, ← (fontOk_len hf).2.1]; exact fall_in (fontOk_len hf).2.1 h2
  have := (hc _ (getD_mem (d := []) hi)).1
  exact ⟨h1, h2, hi, by omega⟩
section
variable {s : ByteArray} {ws so : List Int} {d : List (List (Int × Int))} (hs : s.size ≤ 1048576) (hw : ws.length ≤ 1048576) (ho : so.length ≤ 1048576) (hd : d.length ≤ 1048576) (hd' : ∀ c ∈ d, c.length ≤ 1048576)
include hd hd' in
theorem dropD_small (x : Int × Int) (h : dropB s ws so d x = true) : (dropD so d x).length ≤ 1048576 ∧ ∀ c ∈ dropD so d x, c.length ≤ 1048576 := by
  obtain ⟨_, _, h3, h4⟩ := dropB_parts h
  unfold dropD
  refine ⟨by rw [List.length_set]; exact hd, fun c hc => ?_⟩
  rcases List.mem_or_eq_of_mem_set hc with hc | hc
  · exact hd' c hc
  · rw [hc, List.length_append, List.length_singleton]; omega
include hs hw ho hd hd'
theorem specDrop_eq (a b : Int) : spec_DropMatrix s ws so d a b = some (((), (if dropB s ws so d (a, b) = true then (fallN so b : Int) else 0), dropB s ws so d (a, b), ()), (), (if dropB s ws so d (a, b) = true then dropD so d (a, b) else [], ())) := by
  simp only [spec_DropMatrix, specMagazineOk_eq hs hw ho hd hd', Option.bind_some]
  by_cases h1 : magOk s ws so d = true
  · obtain ⟨hf, hl, hc⟩ := mag_parts h1
    have h1' := (fontOk_len hf).2.1
    simp only [l2Matrix_eq hs h1', Option.bind_some]
    by_cases h2 : ofFont s so (a, b) = true
    · have hi : fallN so b < d.length := by rw [hl, ← h1']; exact fall_in (x := (a, b)) h1' h2
      have hlen := (hc _ (getD_mem (d := []) hi)).1
      have hB : dropB s ws so d (a, b) = !(((d.getD (fallN so b) []).length : Int) == 20) := by simp only [dropB, h1, h2, Bool.true_and]
      have hD : dropD so d (a, b) = d.set (fallN so b) (d.getD (fallN so b) [] ++ [(a, b)]) := rfl
      rw [hB, hD]
      simp only [h1, h2, Bool.not_true, br_false, l1Fall_eq ho, Option.bind_some, Int.toNat_natCast, l2Copy_eq hd hd']
      have h0 : (0 : Int) ≤ (fallN so b : Int) := by omega
      have hs : ((d.getD (fallN so b) []).length + [(a, b)].length) * 16 ≤ 140737488355328 ∧ ((d.getD (fallN so b) []).length + [(a, b)].length) ≤ 9223372036854775807 := by rw [List.length_singleton]; omega
      generalize fallN so b = i at hi hlen h0 hs ⊢
      rw [ck_pos h0, ck_pos hi]
      cases h3 : (((d.getD i []).length : Int) == 20)
      · rw [br_false, ck_pos h0, ck_pos hi, ck_pos hi, ck_pos hi, ck_pos hi, ck_pos hs, ck_pos h0, ck_pos hi, ck_pos ⟨trivial, hi⟩]
        rfl
      · rw [br_true]; rfl
    · simp only [dropB, h1, Bool.eq_false_iff.2 h2, Bool.not_true, Bool.not_false, br_true, br_false, Bool.true_and, Bool.false_and, Bool.and_false, Bool.false_eq_true, if_false]
  · simp only [dropB, Bool.eq_false_iff.2 h1, Bool.not_true, Bool.not_false, br_true, br_false, Bool.true_and, Bool.false_and, Bool.and_false, Bool.false_eq_true, if_false]
theorem implDrop_eq (a b : Int) : impl_DropMatrix s ws so d a b = some (((), (if dropB s ws so d (a, b) = true then (fallN so b : Int) else 0), dropB s ws so d (a, b), ()), (), (if dropB s ws so d (a, b) = true then dropD so d (a, b) else [], ())) := by
  simp only [impl_DropMatrix, implMagazineOk_eq hs hw ho hd hd', Option.bind_some]
  by_cases h1 : magOk s ws so d = true
  · obtain ⟨hf, hl, hc⟩ := mag_parts h1
    have h1' := (fontOk_len hf).2.1
    simp only [ofFont_eq h1', Option.bind_some]
    by_cases h2 : ofFont s so (a, b) = true
    · have hi : fallN so b < d.length := by rw [hl, ← h1']; exact fall_in (x := (a, b)) h1' h2
      have hlen := (hc _ (getD_mem (d := []) hi)).1
      have hB : dropB s ws so d (a, b) = !(((d.getD (fallN so b) []).length : Int) == 20) := by simp only [dropB, h1, h2, Bool.true_and]
      have hD : dropD so d (a, b) = d.set (fallN so b) (d.getD (fallN so b) [] ++ [(a, b)]) := rfl
      rw [hB, hD]
      simp only [h1, h2, Bool.not_true, br_false, fall_eq ho, Option.bind_some, Int.toNat_natCast, copyMag_eq hd hd']
      have h0 : (0 : Int) ≤ (fallN so b : Int) := by omega
      have hs : ((d.getD (fallN so b) []).length + [(a, b)].length) * 16 ≤ 140737488355328 ∧ ((d.getD (fallN so b) []).length + [(a, b)].length) ≤ 9223372036854775807 := by rw [List.length_singleton]; omega
      generalize fallN so b = i at hi hlen h0 hs ⊢
      rw [ck_pos h0, ck_pos hi]
      cases h3 : (((d.getD i []).length : Int) == 20)
      · rw [br_false, ck_pos h0, ck_pos hi, ck_pos hi, ck_pos hi, ck_pos hi, ck_pos hs, ck_pos h0, ck_pos hi, ck_pos ⟨trivial, hi⟩]
        rfl
      · rw [br_true]; rfl
    · simp only [dropB, h1, Bool.eq_false_iff.2 h2, Bool.not_true, Bool.not_false, br_true, br_false, Bool.true_and, Bool.false_and, Bool.and_false, Bool.false_eq_true, if_false]
  · simp only [dropB, Bool.eq_false_iff.2 h1, Bool.not_true, Bool.not_false, br_true, br_false, Bool.true_and, Bool.false_and, Bool.and_false, Bool.false_eq_true, if_false]
end
def dropR (s : ByteArray) (ws so : List Int) (most : Int) : Int → List (List (Int × Int)) → List (Int × Int) → List (List (Int × Int)) × List (Int × Int) × Int
  | n, d, [] => (d, [], n)
  | n, d, x :: g => if n < most ∧ dropB s ws so d x = true then dropR s ws so most (n + 1) (dropD so d x) g else (d, x :: g, n)
section
variable {s : ByteArray} {ws so : List Int} (hs : s.size ≤ 1048576) (hw : ws.length ≤ 1048576) (ho : so.length ≤ 1048576) {most : Int} {e a b c : Int} {f : List (Int × Int)}
theorem dropR_small : ∀ (g : List (Int × Int)) (n : Int) (d : List (List (Int × Int))), d.length ≤ 1048576 → (∀ c ∈ d, c.length ≤ 1048576) →
    (dropR s ws so most n d g).1.length ≤ 1048576 ∧ (∀ c ∈ (dropR s ws so most n d g).1, c.length ≤ 1048576) ∧ (dropR s ws so most n d g).2.1.length ≤ g.length
  | [], n, d, hd, hd' => ⟨hd, hd', by simp [dropR]⟩
  | x :: g, n, d, hd, hd' => by
    unfold dropR
    split
    · rename_i h
      obtain ⟨k1, k2⟩ := dropD_small hd hd' x h.2
      obtain ⟨q1, q2, q3⟩ := dropR_small g (n + 1) _ k1 k2
      exact ⟨q1, q2, by simp only [List.length_cons]; omega⟩
    · exact ⟨hd, hd', Nat.le_refl _⟩
theorem cut_tail {α : Type} (x : α) (g : List α) : cut (x :: g) 1 (x :: g).length = g := by simp [cut]
include hs hw ho
theorem implDrop_loop (zs : ByteArray) (ze za zb zc : Int) : ∀ (g : List (Int × Int)) (n : Nat) (d : List (List (Int × Int))), d.length ≤ 1048576 → (∀ c ∈ d, c.length ≤ 1048576) → n + g.length ≤ 1048576 →
    loopC impl_DropWaiting_s0 ((most, (), (), (n : Int), ()), ((s, (), (), (), e, a, b, c, (), (), ()), (zs, (), (), (), ze, za, zb, zc, (), (), ()), ()), (ws, so, d, f, g, ())) =
      some (((), (), (dropR s ws so most n d g).2.2, ()), ((s, (), (), (), e, a, b, c, (), (), ()), (zs, (), (), (), ze, za, zb, zc, (), (), ()), ()), (ws, so, (dropR s ws so most n d g).1, f, (dropR s ws so most n d g).2.1, ()))
  | [], n, d, hd, hd', hn => by
    refine loop_out ?_
    simp only [impl_DropWaiting_s0, br_ite, dropR]
    split
    · rw [if_neg (by simp)]
    · rfl
  | x :: g, n, d, hd, hd', hn => by
    have I := implDrop_eq hs hw ho hd hd' x.1 x.2
    by_cases h : (n : Int) < most
    · by_cases hb : dropB s ws so d x = true
      · obtain ⟨k1, k2⟩ := dropD_small hd hd' x hb
        have e1 : dropR s ws so most n d (x :: g) = dropR s ws so most ((n + 1 : Nat) : Int) (dropD so d x) g := by
          rw [dropR, if_pos ⟨h, hb⟩]; rfl
        rw [e1, ← implDrop_loop zs ze za zb zc g (n + 1) _ k1 k2 (by simp at hn; omega)]
        refine loop_step ?_
        simp only [impl_DropWaiting_s0, br_ite, List.getD_cons_zero, I, Option.bind_some, hb, cut_tail]
        rw [if_pos (by simpa using h), if_pos (by simp), ck_pos (by simp), ck_pos (by simp), if_neg (by simp), ck_pos (by simp), w64_id (by simp at hn; omega) (by simp at hn; omega)]
        rfl
      · have e1 : dropR s ws so most n d (x :: g) = (d, x :: g, (n : Int)) := by rw [dropR, if_neg (fun h => hb h.2)]
        rw [e1]
        refine loop_out ?_
        simp only [impl_DropWaiting_s0, br_ite, List.getD_cons_zero, I, Option.bind_some, Bool.eq_false_iff.2 hb]
        rw [if_pos (by simpa using h), if_pos (by simp), ck_pos (by simp), ck_pos (by simp), if_pos (by simp)]
    · have e1 : dropR s ws so most n d (x :: g) = (d, x :: g, (n : Int)) := by rw [dropR, if_neg (fun h' => h h'.1)]
      rw [e1]
      refine loop_out ?_
      simp only [impl_DropWaiting_s0, br_ite]
      rw [if_neg (by simpa using h)]
end
def dropM (m : Mach) (most : Int) : Mach × Int := if (m.ok && !decide (most < 0)) = true then ({ m with d := (dropR m.s m.ws m.so most 0 m.d m.g).1, g := (dropR m.s m.ws m.so most 0 m.d m.g).2.1 }, (dropR m.s m.ws m.so most 0 m.d m.g).2.2) else (Mach.no, -1)
theorem dropM_sm {m : Mach} (h : m.Sm) (most : Int) : (dropM m most).1.Sm := by
  unfold dropM
  split
  · obtain ⟨q1, q2, q3⟩ := dropR_small (s := m.s) (ws := m.ws) (so := m.so) (most := most) m.g 0 m.d h.d h.d'
    exact ⟨h.s, h.ws, h.so, q1, q2, h.f, Nat.le_trans q3 h.g⟩
  · exact Mach.no_sm
theorem implDropM_eq {m : Mach} (h : m.Sm) (most : Int) : impl_DropWaiting m.s m.ws m.so m.d m.e m.a m.b m.c m.f m.g most = some (((dropM m most).1.top, (dropM m most).2, ()), (), (dropM m most).1.obs) := by
  simp only [impl_DropWaiting, implOk_eq h, copyM_eq h, Option.bind_some, dropM]
  cases hm : m.ok
  · rfl
  · by_cases k : most < 0
    · rw [decide_eq_true k]; rfl
    · rw [decide_eq_false k, Bool.not_true, br_false, br_false]
      have L := implDrop_loop h.s h.ws h.so (most := most) (e := m.e) (a := m.a) (b := m.b) (c := m.c) (f := m.f) ByteArray.empty 0 0 0 0 m.g 0 m.d h.d h.d' (by have := h.g; omega)
      simp only [Int.natCast_zero] at L
      rw [L]
      rfl
section
variable {s : ByteArray} {ws so : List Int} (hs : s.size ≤ 1048576) (hw : ws.length ≤ 1048576) (ho : so.length ≤ 1048576) {most : Int} {e a b c : Int} {f : List (Int × Int)}
include hs hw ho
theorem specDrop_loop (g0 : List (Int × Int)) (d0 : List (List (Int × Int))) (hg0 : g0.length ≤ 1048576) (zs : ByteArray) (ze za zb zc : Int) : ∀ (k n : Nat) (d : List (List (Int × Int))), n + k = g0.length → (n : Int) ≤ most → d.length ≤ 1048576 → (∀ c ∈ d, c.length ≤ 1048576) →
    (loopC spec_DropWaiting_s0 ((most, (), (), (), g0, (g0.length : Int), (n : Int), ()), ((s, ws, so, d0, e, a, b, c, f, g0, ()), (zs, (), (), (), ze, za, zb, zc, (), (), ()), (s, (), (), (), e, a, b, c, (), (), ()), ()), (ws, so, d, f, g0.drop n, ()))).bind (fun r10 =>
      sumK r10 (fun y13 =>
        some (((y13.2.1.1.1, (), (), (), y13.2.1.1.2.2.2.2.1, y13.2.1.1.2.2.2.2.2.1, y13.2.1.1.2.2.2.2.2.2.1, y13.2.1.1.2.2.2.2.2.2.2.1, (), (), ()), y13.1.2.1, ()), (), (y13.2.2.1, y13.2.2.2.1, y13.2.2.2.2.1, y13.2.2.2.2.2.1, y13.2.2.2.2.2.2.1, ()))) (fun y14 =>
        some (((y14.2.1.2.2.1.1, (), (), (), y14.2.1.2.2.1.2.2.2.2.1, y14.2.1.2.2.1.2.2.2.2.2.1, y14.2.1.2.2.1.2.2.2.2.2.2.1, y14.2.1.2.2.1.2.2.2.2.2.2.2.1, (), (), ()), (y14.2.1.1.2.2.2.2.2.2.2.2.2.1.length : Int), ()), (), (y14.2.2.1, y14.2.2.2.1, y14.2.2.2.2.1, y14.2.2.2.2.2.1, y14.2.2.2.2.2.2.1, ())))) =
      some (((s, (), (), (), e, a, b, c, (), (), ()), (dropR s ws so most n d (g0.drop n)).2.2, ()), (), (ws, so, (dropR s ws so most n d (g0.drop n)).1, f, (dropR s ws so most n d (g0.drop n)).2.1, ()))
  | 0, n, d, hk, hm, hd, hd' => by
    have hn : n = g0.length := by omega
    have hdr : g0.drop n = [] := by rw [hn]; simp
    rw [hdr, loop_out (z := .inr (((), (), (), ()), ((s, ws, so, d0, e, a, b, c, f, g0, ()), (zs, (), (), (), ze, za, zb, zc, (), (), ()), (s, (), (), (), e, a, b, c, (), (), ()), ()), (ws, so, d, f, [], ())))]
    · simp only [Option.bind_some, sumK_inr, dropR, hn]
    · simp only [spec_DropWaiting_s0, br_ite]
      rw [if_neg (by simp; omega)]
  | k + 1, n, d, hk, hm, hd, hd' => by
    have hn : n < g0.length := by omega
    have hdr : g0.drop n = g0[n] :: g0.drop (n + 1) := List.drop_eq_getElem_cons hn
    have hge : g0.getD n (0, 0) = g0[n] := getD_of_lt hn
    have I := specDrop_eq hs hw ho hd hd' g0[n].1 g0[n].2
    have hlt : (n : Int) < (g0.length : Int) := by omega
    rw [hdr]
    by_cases h : (n : Int) < most
    · by_cases hb : dropB s ws so d g0[n] = true
      · obtain ⟨k1, k2⟩ := dropD_small hd hd' g0[n] hb
        have e1 : dropR s ws so most n d (g0[n] :: g0.drop (n + 1)) = dropR s ws so most ((n + 1 : Nat) : Int) (dropD so d g0[n]) (g0.drop (n + 1)) := by
          rw [dropR, if_pos ⟨h, hb⟩]; rfl
        rw [e1, ← specDrop_loop g0 d0 hg0 zs ze za zb zc k (n + 1) _ (by omega) (by omega) k1 k2]
        rw [loop_step]
        simp only [spec_DropWaiting_s0, br_ite, Int.toNat_natCast, hge, I, Option.bind_some, hb, cut_tail]
        rw [if_pos (by simpa using hlt), ck_pos (by omega), ck_pos hn, if_neg (by simp; omega), if_neg (by simp), ck_pos ⟨by simp; omega, Nat.le_refl _⟩, w64_id (by omega) (by omega)]
        rfl
      · have e1 : dropR s ws so most n d (g0[n] :: g0.drop (n + 1)) = (d, g0[n] :: g0.drop (n + 1), (n : Int)) := by rw [dropR, if_neg (fun h => hb h.2)]
        rw [e1, loop_out (z := .inl (((), (n : Int), ()), ((s, (), (), (), e, a, b, c, (), (), ()), ()), (ws, so, d, f, g0[n] :: g0.drop (n + 1), ())))]
        · rfl
        · simp only [spec_DropWaiting_s0, br_ite, Int.toNat_natCast, hge, I, Option.bind_some, Bool.eq_false_iff.2 hb]
          rw [if_pos (by simpa using hlt), ck_pos (by omega), ck_pos hn, if_neg (by simp; omega), if_pos (by simp)]
    · have e1 : dropR s ws so most n d (g0[n] :: g0.drop (n + 1)) = (d, g0[n] :: g0.drop (n + 1), (n : Int)) := by rw [dropR, if_neg (fun h' => h h'.1)]
      rw [e1, loop_out (z := .inl (((), (n : Int), ()), ((s, (), (), (), e, a, b, c, (), (), ()), ()), (ws, so, d, f, g0[n] :: g0.drop (n + 1), ())))]
      · rfl
      · simp only [spec_DropWaiting_s0, br_ite, Int.toNat_natCast, hge]
        rw [if_pos (by simpa using hlt), ck_pos (by omega), ck_pos hn, if_pos (by simp; omega)]
end
theorem specDropM_eq {m : Mach} (h : m.Sm) (most : Int) : spec_DropWaiting m.s m.ws m.so m.d m.e m.a m.b m.c m.f m.g most = some (((dropM m most).1.top, (dropM m most).2, ()), (), (dropM m most).1.obs) := by
  simp only [spec_DropWaiting, specOk_eq h, l5Copy_eq h, Option.bind_some, dropM]
  cases hm : m.ok
  · rfl
  · by_cases k : most < 0
    · rw [decide_eq_true k]; rfl
    · rw [decide_eq_false k, Bool.not_true, br_false, br_false]
      have L := specDrop_loop h.s h.ws h.so (most := most) (e := m.e) (a := m.a) (b := m.b) (c := m.c) (f := m.f) m.g m.d h.g ByteArray.empty 0 0 0 0 m.g.length 0 m.d (by omega) (by omega) h.d h.d'
      simp only [Int.natCast_zero, List.drop_zero] at L
      exact L
end Go.Tree
namespace Go.Tree
def keyIdx (s : ByteArray) (l : Int) : Int := ((List.range s.size).findSome? fun i : Nat => if (byteAt s i == l) = true then some (i : Int) else none).getD (-1)
theorem find_sum (L : List Nat) (p : Nat → Bool) {X Y Z : Type} (mk : Int → X) (done : Y) (K1 : X → Z) (K2 : Y → Z) (k : Int → Z) (h1 : ∀ i, K1 (mk i) = k i) (h2 : K2 done = k (-1)) :
    sumK ((L.findSome? fun i : Nat => if p i = true then some (.inl (mk (i : Int)) : X ⊕ Y) else none).getD (.inr done)) K1 K2 = k ((L.findSome? fun i : Nat => if p i = true then some (i : Int) else none).getD (-1)) := by
  induction L with
  | nil => exact h2
  | cons a L ih =>
    rw [List.findSome?_cons, List.findSome?_cons]
    by_cases h : p a = true
    · simp only [h, if_true, Option.getD_some]; exact h1 a
    · simp only [h, if_false]; exact ih
theorem keyIdx_cases (s : ByteArray) (l : Int) : keyIdx s l = -1 ∨ (0 ≤ keyIdx s l ∧ (keyIdx s l).toNat < s.size ∧ byteAt s (keyIdx s l).toNat = l) := by
  unfold keyIdx
  cases h : (List.range s.size).findSome? fun i : Nat => if (byteAt s i == l) = true then some (i : Int) else none with
  | none => exact .inl rfl
  | some v =>
    obtain ⟨i, hi, hv⟩ := List.exists_of_findSome?_eq_some h
    split at hv
    · rename_i hb
      cases hv
      refine .inr ⟨by simp, by simpa using hi, by simpa using hb⟩
    · cases hv
theorem byte_w64 (s : ByteArray) (i : Nat) : w64 (byteAt s i) = byteAt s i := by
  have := byte_range s i
  exact w64_id (by omega) (by omega)
theorem specKeyOf_eq {s : ByteArray} {ws so : List Int} (hs : s.size ≤ 1048576) (hw : ws.length ≤ 1048576) (ho : so.length ≤ 1048576) (l : Int) : spec_KeyOf s ws so l = some ((if fontOk s ws so = true then keyIdx s l else -1, ()), (), ()) := by
  simp only [spec_KeyOf, specFontOk_eq hs hw ho, Option.bind_some]
  cases hf : fontOk s ws so
  · rfl
  · have h := loop_find (s := spec_KeyOf_s0) (fun i => ((l, (), (i : Int), ()), ((s, ws, so, ()), ()), ())) s.size (fun i => if (byteAt s i == l) = true then some (.inl (((i : Int), ()), (), ())) else none) (.inr ((), (), ())) (by
      intro i hi
      simp only [spec_KeyOf_s0, Int.toNat_natCast, br_ite, byte_w64]
      rw [if_pos (by simpa using hi), ck_pos ⟨by omega, hi⟩, w64_succ hi (big_len hs)]
      split <;> rfl) (by
      simp only [spec_KeyOf_s0, br_ite]
      rw [if_neg (by simp)])
    rw [Bool.not_true, br_false]
    refine (congrArg (fun o => Option.bind o fun r7 => sumK r7 (fun y10 => some ((y10.1.1, ()), (), ())) (fun y11 => some (((-1 : Int), ()), (), ()))) h).trans ?_
    rw [Option.bind_some]
    exact find_sum _ (fun i => byteAt s i == l) (fun i => ((i, ()), (), ())) _ _ _ (fun i => some ((i, ()), (), ())) (fun i => rfl) rfl
theorem implKey_eq {s : ByteArray} {ws so : List Int} (hs : s.size ≤ 1048576) (l : Int) : impl_key s ws so l = some ((keyIdx s l, ()), (), ()) := by
  have h := loop_find (s := impl_key_s0) (fun i => ((l, (), (s.size : Int), (i : Int), ()), ((s, ws, so, ()), ()), ())) s.size (fun i => if (byteAt s i == l) = true then some (.inl (((i : Int), ()), (), ())) else none) (.inr ((), (), ())) (by
    intro i hi
    simp only [impl_key_s0, Int.toNat_natCast, br_ite, byte_w64]
    rw [if_pos (by simpa using hi), ck_pos ⟨by omega, hi⟩, w64_succ hi (big_len hs)]
    split <;> rfl) (by
    simp only [impl_key_s0, br_ite]
    rw [if_neg (by simp)])
  refine (congrArg (fun o => Option.bind o fun r7 => sumK r7 (fun y10 => some ((y10.1.1, ()), (), ())) (fun y11 => some (((-1 : Int), ()), (), ()))) h).trans ?_
  rw [Option.bind_some]
  exact find_sum _ (fun i => byteAt s i == l) (fun i => ((i, ()), (), ())) _ _ _ (fun i => some ((i, ()), (), ())) (fun i => rfl) rfl

def takeB (s : ByteArray) (ws so : List Int) (d : List (List (Int × Int))) (k : Int) : Bool := magOk s ws so d && (inB k 0 ((d.length : Int) - 1) && !(((d.getD k.toNat []).length : Int) == 0))
def takeD (d : List (List (Int × Int))) (k : Nat) : List (List (Int × Int)) := d.set k (d.getD k []).tail
def headX (d : List (List (Int × Int))) (k : Nat) : Int × Int := (d.getD k []).getD 0 (0, 0)
theorem cut_one {α : Type} (l : List α) : cut l 1 l.length = l.tail := by cases l <;> simp [cut]
theorem specTake_eq {s : ByteArray} {ws so : List Int} {d : List (List (Int × Int))} (hs : s.size ≤ 1048576) (hw : ws.length ≤ 1048576) (ho : so.length ≤ 1048576) (hd : d.length ≤ 1048576) (hd' : ∀ c ∈ d, c.length ≤ 1048576) (k : Int) :
    spec_TakeMatrix s ws so d k = some (((), ((if takeB s ws so d k = true then (headX d k.toNat).1 else 0), (if takeB s ws so d k = true then (headX d k.toNat).2 else 0), ()), takeB s ws so d k, ()), (), (if takeB s ws so d k = true then takeD d k.toNat else [], ())) := by
  simp only [spec_TakeMatrix, specMagazineOk_eq hs hw ho hd hd', l1In_eq, l2Copy_eq hd hd', Option.bind_some]
  rw [w64_id (x := (d.length : Int) - 1) (by omega) (by omega)]
  by_cases h1 : magOk s ws so d = true
  · by_cases h2 : inB k 0 ((d.length : Int) - 1) = true
    · have h2' : 0 ≤ k ∧ k ≤ (d.length : Int) - 1 := by simpa [inB] using h2
      have hk : k.toNat < d.length := by omega
      have hB : takeB s ws so d k = !(((d.getD k.toNat []).length : Int) == 0) := by simp only [takeB, h1, h2, Bool.true_and]
      rw [h1, h2, Bool.not_true, br_false, br_false, ck_pos h2'.1, ck_pos hk, hB]
      cases h3 : (((d.getD k.toNat []).length : Int) == 0)
      · have hpos : 0 < (d.getD k.toNat []).length := by
          have := beq_eq_false_iff_ne.1 h3
          omega
        simp only [br_false, ck_pos h2'.1, ck_pos hk, ck_pos (And.intro hk hpos), cut_one, ck_pos (And.intro (show 1 ≤ (d.getD k.toNat []).length from hpos) (Nat.le_refl _)), ck_pos (And.intro trivial hk)]
        rfl
      · rw [br_true]; rfl
    · simp only [takeB, h1, Bool.eq_false_iff.2 h2, Bool.not_true, Bool.not_false, br_true, br_false, Bool.true_and, Bool.false_and, Bool.false_eq_true, if_false]
  · simp only [takeB, Bool.eq_false_iff.2 h1, Bool.not_false, br_true, Bool.false_and, Bool.false_eq_true, if_false]
def keyBand (m : Mach) : Mach := { m with e := m.e - 1, f := m.f ++ [(-1, 0)] }
def keyTake (m : Mach) (k : Nat) : Mach := { m with d := takeD m.d k, f := m.f ++ [headX m.d k] }
def keyStep (m : Mach) (l : Int) : Option Mach :=
  if (l == 32) = true then (if (keyBand m).ok = true then some (keyBand m) else none)
  else if (takeB m.s m.ws m.so m.d (keyIdx m.s l) && (keyTake m (keyIdx m.s l).toNat).ok) = true then some (keyTake m (keyIdx m.s l).toNat) else none
theorem keyStep_ok {m m' : Mach} {l : Int} (h : keyStep m l = some m') : m'.ok = true := by
  unfold keyStep at h
  split at h
  · split at h
    · rename_i hk; cases h; exact hk
    · cases h
  · split at h
    · rename_i hk; cases h; exact (Bool.and_eq_true _ _ ▸ hk).2
    · cases h
theorem takeD_small {d : List (List (Int × Int))} (hd : d.length ≤ 1048576) (hd' : ∀ c ∈ d, c.length ≤ 1048576) (k : Nat) : (takeD d k).length ≤ 1048576 ∧ ∀ c ∈ takeD d k, c.length ≤ 1048576 := by
  unfold takeD
  refine ⟨by rw [List.length_set]; exact hd, fun c hc => ?_⟩
  rcases List.mem_or_eq_of_mem_set hc with hc | hc
  · exact hd' c hc
  · rw [hc, List.length_tail]
    by_cases hk : k < d.length
    · have := hd' _ (getD_mem (d := []) hk); omega
    · rw [List.getD_eq_getElem?_getD, List.getElem?_eq_none (by omega)]; simp
theorem specKey_eq {m : Mach} (hok : m.ok = true) (l : Int) : spec_l5Key m.s m.ws m.so m.d m.e m.a m.b m.c m.f m.g l =
    some (match keyStep m l with | none => .inl (((m.s, (), (), (), m.e, m.a, m.b, m.c, (), (), ()), (), ()), (), ()) | some y => .inr ((y.top, (), ()), (), y.obs)) := by
  have h := ok_sm hok
  obtain ⟨h1, h2, h3, h4, h5, h6, h7⟩ := ok_parts hok
  obtain ⟨hf, hl, hc⟩ := mag_parts h1
  have hfl := fits_len h7
  rw [List.length_map] at hfl
  have hsm : ∀ x : Int × Int, (m.f.length + [x].length) * 16 ≤ 140737488355328 ∧ (m.f.length + [x].length) ≤ 9223372036854775807 := fun x => by rw [List.length_singleton]; omega
  simp only [spec_l5Key, l5Copy_eq h, Option.bind_some, keyStep]
  by_cases hb : (l == 32) = true
  · have sm : (keyBand m).Sm := ⟨h.s, h.ws, h.so, h.d, h.d', by simp only [keyBand, List.length_append, List.length_singleton]; omega, h.g⟩
    have O : spec_MachineOk m.s m.ws m.so m.d (m.e - 1) m.a m.b m.c (m.f ++ [(-1, 0)]) m.g = some (((keyBand m).ok, ()), (), ()) := specOk_eq sm
    rw [hb, br_true, ck_pos (hsm _), w64_id (x := m.e - 1) (by omega) (by omega), if_pos rfl, O, Option.bind_some]
    cases ho : (keyBand m).ok <;> rfl
  · rw [Bool.eq_false_iff.2 hb, br_false, if_neg (by simp), specKeyOf_eq h.s h.ws h.so, Option.bind_some]
    simp only [hf, if_true, specTake_eq h.s h.ws h.so h.d h.d', Option.bind_some]
    cases ht : takeB m.s m.ws m.so m.d (keyIdx m.s l)
    · rfl
    · have sm : (keyTake m (keyIdx m.s l).toNat).Sm := ⟨h.s, h.ws, h.so, (takeD_small h.d h.d' _).1, (takeD_small h.d h.d' _).2, by simp only [keyTake, List.length_append, List.length_singleton]; omega, h.g⟩
      have O : spec_MachineOk m.s m.ws m.so (takeD m.d (keyIdx m.s l).toNat) m.e m.a m.b m.c (m.f ++ [headX m.d (keyIdx m.s l).toNat]) m.g = some (((keyTake m (keyIdx m.s l).toNat).ok, ()), (), ()) := specOk_eq sm
      simp only [if_true, Bool.not_true, br_false, Bool.true_and]
      rw [ck_pos (hsm _), O, Option.bind_some]
      cases ho : (keyTake m (keyIdx m.s l).toNat).ok <;> rfl
end Go.Tree
namespace Go.Tree
theorem okBand {m : Mach} (h : m.ok = true) : (keyBand m).ok = (!(m.e == 0) && fitsB m.a m.b m.c ((m.f ++ [(-1, 0)]).map (widOf m.ws))) := by
  obtain ⟨h1, h2, h3, h4, h5, h6, h7⟩ := ok_parts h
  rw [Bool.eq_iff_iff]
  constructor
  · intro h'
    obtain ⟨g1, g2, g3, g4, g5, g6, g7⟩ := ok_parts h'
    have g2 : 0 ≤ m.e - 1 ∧ m.e - 1 ≤ 60 := g2
    have g7 : fitsB m.a m.b m.c ((m.f ++ [(-1, 0)]).map (widOf m.ws)) = true := g7
    rw [g7, Bool.and_true, Bool.not_eq_true', beq_eq_false_iff_ne]
    omega
  · intro h'
    rw [Bool.and_eq_true, Bool.not_eq_true', beq_eq_false_iff_ne] at h'
    refine ok_of h1 (show 0 ≤ m.e - 1 ∧ m.e - 1 ≤ 60 by omega) h3 h4 (fun x hx => ?_) h6 h'.2
    have hx : x ∈ m.f ++ [(-1, 0)] := hx
    rcases List.mem_append.1 hx with hx | hx
    · exact h5 x hx
    · simp at hx; subst hx; rfl
theorem takeD_mem {d : List (List (Int × Int))} {k : Nat} {c : List (Int × Int)} (hk : k < d.length) (h : c ∈ takeD d k) : ∃ c' ∈ d, c.length ≤ c'.length ∧ ∀ x ∈ c, x ∈ c' := by
  rcases List.mem_or_eq_of_mem_set h with h | h
  · exact ⟨c, h, Nat.le_refl _, fun x hx => hx⟩
  · exact ⟨_, getD_mem (d := []) hk, by rw [h, List.length_tail]; omega, fun x hx => List.mem_of_mem_tail (h ▸ hx)⟩
theorem headX_mem {d : List (List (Int × Int))} {k : Nat} (hp : 0 < (d.getD k []).length) : headX d k ∈ d.getD k [] := getD_mem hp
theorem okTake {m : Mach} (h : m.ok = true) {k : Nat} (hk : k < m.d.length) (hp : 0 < (m.d.getD k []).length) : (keyTake m k).ok = fitsB m.a m.b m.c ((m.f ++ [headX m.d k]).map (widOf m.ws)) := by
  obtain ⟨h1, h2, h3, h4, h5, h6, h7⟩ := ok_parts h
  rw [Bool.eq_iff_iff]
  constructor
  · intro h'
    exact (ok_parts h').2.2.2.2.2.2
  · intro h'
    obtain ⟨hf, hl, hc⟩ := mag_parts h1
    refine ok_of (m := keyTake m k) ?_ h2 h3 h4 (fun x hx => ?_) h6 h'
    · show magOk m.s m.ws m.so (takeD m.d k) = true
      simp only [magOk, hf, Bool.true_and, Bool.and_eq_true, beq_iff_eq, List.all_eq_true]
      refine ⟨by simp only [takeD, List.length_set]; exact hl, fun c hcm => ?_⟩
      obtain ⟨c', hc', l1, l2⟩ := takeD_mem hk hcm
      have := hc c' hc'
      simp only [colB, Bool.and_eq_true, decide_eq_true_eq, List.all_eq_true]
      exact ⟨by omega, fun x hx => this.2 x (l2 x hx)⟩
    · have hx : x ∈ m.f ++ [headX m.d k] := hx
      rcases List.mem_append.1 hx with hx | hx
      · exact h5 x hx
      · simp at hx
        subst hx
        show goodB m.s m.so (headX m.d k) = true
        unfold goodB
        rw [(hc _ (getD_mem (d := []) hk)).2 _ (headX_mem hp), Bool.or_true]
theorem takeB_ok {m : Mach} (h : m.ok = true) (l : Int) : takeB m.s m.ws m.so m.d (keyIdx m.s l) = (!decide (keyIdx m.s l < 0) && !(((m.d.getD (keyIdx m.s l).toNat []).length : Int) == 0)) := by
  obtain ⟨h1, _⟩ := ok_parts h
  obtain ⟨hf, hl, hc⟩ := mag_parts h1
  have hsz := font_size hf
  unfold takeB
  rw [h1, Bool.true_and]
  rcases keyIdx_cases m.s l with hk | ⟨k0, k1, k2⟩
  · rw [hk]; rfl
  · have e : inB (keyIdx m.s l) 0 ((m.d.length : Int) - 1) = true := by simp only [inB, decide_eq_true_eq]; omega
    rw [e, decide_eq_false (by omega)]; rfl
def keyR (text : ByteArray) : Nat → Nat → Mach → Mach × Int
  | 0, n, m => (m, n)
  | k + 1, n, m => match keyStep m (byteAt text n) with
    | some y => keyR text k (n + 1) y
    | none => (m, n)
theorem keyR_ok (text : ByteArray) : ∀ (k n : Nat) (m : Mach), m.ok = true → (keyR text k n m).1.ok = true
  | 0, _, _, h => h
  | k + 1, n, m, h => by
    simp only [keyR]
    cases hs : keyStep m (byteAt text n) with
    | none => exact h
    | some y => exact keyR_ok text k (n + 1) y (keyStep_ok hs)
section
variable {text : ByteArray} (ht : text.size ≤ 1048576) (zs : ByteArray) (ze za zb zc : Int)
abbrev keySt (text zs : ByteArray) (ze za zb zc : Int) (n : Nat) (m : Mach) : (ByteArray × Unit × Unit × Int × Int × Unit) × ((ByteArray × Unit × Unit × Unit × Int × Int × Int × Int × Unit × Unit × Unit) × (ByteArray × Unit × Unit × Unit × Int × Int × Int × Int × Unit × Unit × Unit) × Unit) × (List Int × List Int × List (List (Int × Int)) × List (Int × Int) × List (Int × Int) × Unit) :=
  ((text, (), (), (text.size : Int), (n : Int), ()), (m.top, (zs, (), (), (), ze, za, zb, zc, (), (), ()), ()), m.obs)
include ht in
theorem implKey_step {m : Mach} (hok : m.ok = true) {n : Nat} (hn : n < text.size) : impl_KeyText_s0 (keySt text zs ze za zb zc n m) =
    some (match keyStep m (byteAt text n) with | some y => .inl (keySt text zs ze za zb zc (n + 1) y) | none => .inr (.inl (((), (n : Int), ()), (m.top, ()), m.obs))) := by
  have h := ok_sm hok
  obtain ⟨h1, h2, h3, h4, h5, h6, h7⟩ := ok_parts hok
  obtain ⟨hf, hl, hc⟩ := mag_parts h1
  obtain ⟨e1, e2, _⟩ := fontOk_len hf
  have hfl := fits_len h7
  rw [List.length_map] at hfl
  have hsm : ∀ x : Int × Int, (m.f.length + [x].length) * 16 ≤ 140737488355328 ∧ (m.f.length + [x].length) ≤ 9223372036854775807 := fun x => by rw [List.length_singleton]; omega
  have hit : ∀ x : Int × Int, goodB m.s m.so x = true → impl_items m.s m.ws m.so (m.f ++ [x]) = some (((), ()), (), ((m.f ++ [x]).map (widOf m.ws), ())) := fun x hx => implItems_eq e1 (by rw [List.length_append, List.length_singleton]; omega) fun y hy => by
    rcases List.mem_append.1 hy with hy | hy
    · exact h5 y hy
    · simp at hy; subst hy; exact hx
  have hfi : ∀ x : Int × Int, impl_fits m.a m.b m.c ((m.f ++ [x]).map (widOf m.ws)) = some ((fitsB m.a m.b m.c ((m.f ++ [x]).map (widOf m.ws)), ()), (), ()) := fun x => by
    rw [fits_eq (by rw [List.length_map, List.length_append, List.length_singleton]; omega), h3, Bool.true_and]
  have hlt : (n : Int) < (text.size : Int) := by omega
  simp only [impl_KeyText_s0, Int.toNat_natCast, cloneMat_eq h.f, Option.bind_some, byte_w64]
  rw [decide_eq_true hlt, br_true, ck_pos ⟨by omega, hn⟩]
  simp only [keyStep]
  by_cases hb : (byteAt text n == 32) = true
  · rw [hb, br_true, if_pos rfl, okBand hok]
    cases he : (m.e == 0)
    · rw [br_false, both_self, ck_pos (hsm _), hit (-1, 0) rfl, Option.bind_some]
      simp only []
      rw [hfi, Option.bind_some]
      cases hfb : fitsB m.a m.b m.c ((m.f ++ [(-1, 0)]).map (widOf m.ws))
      · rfl
      · simp only [Bool.not_true, br_false, Bool.not_false, Bool.and_self, if_true]
        rw [w64_id (x := m.e - 1) (by omega) (by omega), w64_succ hn (big_len ht)]
        rfl
    · rw [br_true]; rfl
  · rw [Bool.eq_false_iff.2 hb, br_false, if_neg (by simp), ck_pos ⟨by omega, hn⟩, implKey_eq h.s, Option.bind_some, takeB_ok hok]
    rcases keyIdx_cases m.s (byteAt text n) with hk | ⟨k0, k1, k2⟩
    · rw [hk]; rfl
    · have hkd : (keyIdx m.s (byteAt text n)).toNat < m.d.length := by omega
      simp only []
      rw [decide_eq_false (by omega : ¬ keyIdx m.s (byteAt text n) < 0), br_false, ck_pos k0, ck_pos hkd, ck_pos hkd, ck_pos hkd]
      cases he : (((m.d.getD (keyIdx m.s (byteAt text n)).toNat []).length : Int) == 0)
      · have hp : 0 < (m.d.getD (keyIdx m.s (byteAt text n)).toNat []).length := by
          have := beq_eq_false_iff_ne.1 he; omega
        have hx : goodB m.s m.so (headX m.d (keyIdx m.s (byteAt text n)).toNat) = true := by
          unfold goodB
          rw [(hc _ (getD_mem (d := []) hkd)).2 _ (headX_mem hp), Bool.or_true]
        rw [okTake hok hkd hp]
        rw [br_false, ck_pos k0, ck_pos hkd, ck_pos hkd, ck_pos ⟨hkd, hp⟩, ck_pos ⟨hkd, hp⟩, both_self, ck_pos (hsm _)]
        have I := hit _ hx
        have F := hfi (headX m.d (keyIdx m.s (byteAt text n)).toNat)
        simp only [headX] at I F ⊢
        rw [I, Option.bind_some]
        simp only []
        rw [F, Option.bind_some]
        by_cases hq : fitsB m.a m.b m.c ((m.f ++ [(m.d.getD (keyIdx m.s (byteAt text n)).toNat []).getD 0 (0, 0)]).map (widOf m.ws)) = true
        rotate_left
        · simp only [Bool.eq_false_iff.2 hq]; rfl
        · simp only [hq, Bool.not_true, br_false, Bool.not_false, Bool.and_self, if_true]
          rw [ck_pos k0, ck_pos hkd, ck_pos hkd, ck_pos hkd, ck_pos ⟨hp, Nat.le_refl _⟩, ck_pos k0, ck_pos hkd, ck_pos ⟨trivial, hkd⟩, cut_one, w64_succ hn (big_len ht)]
          rfl
      · rfl
include ht in
theorem implKey_loop : ∀ (k n : Nat) (m : Mach), m.ok = true → n + k = text.size →
    (loopC impl_KeyText_s0 (keySt text zs ze za zb zc n m)).bind (fun r31 => sumK r31 (fun y34 =>
      some (((y34.2.1.1.1, (), (), (), y34.2.1.1.2.2.2.2.1, y34.2.1.1.2.2.2.2.2.1, y34.2.1.1.2.2.2.2.2.2.1, y34.2.1.1.2.2.2.2.2.2.2.1, (), (), ()), y34.1.2.1, ()), (), (y34.2.2.1, y34.2.2.2.1, y34.2.2.2.2.1, y34.2.2.2.2.2.1, y34.2.2.2.2.2.2.1, ()))) (fun y35 =>
      some (((y35.2.1.1.1, (), (), (), y35.2.1.1.2.2.2.2.1, y35.2.1.1.2.2.2.2.2.1, y35.2.1.1.2.2.2.2.2.2.1, y35.2.1.1.2.2.2.2.2.2.2.1, (), (), ()), (y35.1.1.size : Int), ()), (), (y35.2.2.1, y35.2.2.2.1, y35.2.2.2.2.1, y35.2.2.2.2.2.1, y35.2.2.2.2.2.2.1, ())))) =
      some (((keyR text k n m).1.top, (keyR text k n m).2, ()), (), (keyR text k n m).1.obs)
  | 0, n, m, hok, hn => by
    have e : n = text.size := by omega
    subst e
    rw [loop_out (z := .inr ((text, (), (), ()), (m.top, (zs, (), (), (), ze, za, zb, zc, (), (), ()), ()), m.obs))]
    · rfl
    · simp only [impl_KeyText_s0, br_ite]
      rw [if_neg (by simp)]
  | k + 1, n, m, hok, hn => by
    have hlt : n < text.size := by omega
    have S := implKey_step ht zs ze za zb zc hok hlt
    simp only [keyR]
    cases hs : keyStep m (byteAt text n) with
    | none =>
      rw [hs] at S
      rw [loop_out S]
      rfl
    | some y =>
      rw [hs] at S
      rw [loop_step S]
      exact implKey_loop k (n + 1) y (keyStep_ok hs) (by omega)
include ht in
theorem specKey_loop : ∀ (k n : Nat) (m : Mach), m.ok = true → n + k = text.size →
    (loopC spec_KeyText_s0 ((text, (), (), (n : Int), ()), (m.top, (zs, (), (), (), ze, za, zb, zc, (), (), ()), ()), m.obs)).bind (fun r31 => sumK r31 (fun y34 =>
      some (((y34.2.1.1.1, (), (), (), y34.2.1.1.2.2.2.2.1, y34.2.1.1.2.2.2.2.2.1, y34.2.1.1.2.2.2.2.2.2.1, y34.2.1.1.2.2.2.2.2.2.2.1, (), (), ()), y34.1.2.1, ()), (), (y34.2.2.1, y34.2.2.2.1, y34.2.2.2.2.1, y34.2.2.2.2.2.1, y34.2.2.2.2.2.2.1, ()))) (fun y35 =>
      some (((y35.2.1.1.1, (), (), (), y35.2.1.1.2.2.2.2.1, y35.2.1.1.2.2.2.2.2.1, y35.2.1.1.2.2.2.2.2.2.1, y35.2.1.1.2.2.2.2.2.2.2.1, (), (), ()), (y35.1.1.size : Int), ()), (), (y35.2.2.1, y35.2.2.2.1, y35.2.2.2.2.1, y35.2.2.2.2.2.1, y35.2.2.2.2.2.2.1, ())))) =
      some (((keyR text k n m).1.top, (keyR text k n m).2, ()), (), (keyR text k n m).1.obs)
  | 0, n, m, hok, hn => by
    have e : n = text.size := by omega
    subst e
    rw [loop_out (z := .inr ((text, (), (), ()), (m.top, (zs, (), (), (), ze, za, zb, zc, (), (), ()), ()), m.obs))]
    · rfl
    · simp only [spec_KeyText_s0, br_ite]
      rw [if_neg (by simp)]
  | k + 1, n, m, hok, hn => by
    have hlt : n < text.size := by omega
    have hlt' : (n : Int) < (text.size : Int) := by omega
    have S := specKey_eq hok (byteAt text n)
    simp only [keyR]
    cases hs : keyStep m (byteAt text n) with
    | none =>
      rw [hs] at S
      rw [loop_out (z := .inl (((), (n : Int), ()), (m.top, ()), m.obs))]
      · rfl
      · simp only [spec_KeyText_s0, br_ite, Int.toNat_natCast, byte_w64]
        rw [if_pos (by simpa using hlt'), ck_pos ⟨by omega, hlt⟩, S]
        rfl
    | some y =>
      rw [hs] at S
      rw [← specKey_loop k (n + 1) y (keyStep_ok hs) (by omega)]
      rw [loop_step (y := ((text, (), (), ((n + 1 : Nat) : Int), ()), (y.top, (zs, (), (), (), ze, za, zb, zc, (), (), ()), ()), y.obs))]
      simp only [spec_KeyText_s0, br_ite, Int.toNat_natCast, byte_w64]
      rw [if_pos (by simpa using hlt'), ck_pos ⟨by omega, hlt⟩, S, Option.bind_some, sumK_inr, w64_succ hlt (big_len ht)]
end
def keyM (m : Mach) (text : ByteArray) : Mach × Int := if m.ok = true then keyR text text.size 0 m else (Mach.no, -1)
theorem keyM_sm {m : Mach} (text : ByteArray) : (keyM m text).1.Sm := by
  unfold keyM
  split
  · rename_i h; exact ok_sm (keyR_ok text _ _ _ h)
  · exact Mach.no_sm
section
variable {m : Mach} (h : m.Sm) {text : ByteArray} (ht : text.size ≤ 1048576)
include h ht
theorem implKeyM_eq : impl_KeyText m.s m.ws m.so m.d m.e m.a m.b m.c m.f m.g text = some (((keyM m text).1.top, (keyM m text).2, ()), (), (keyM m text).1.obs) := by
  simp only [impl_KeyText, implOk_eq h, copyM_eq h, Option.bind_some, keyM]
  by_cases hm : m.ok = true
  · rw [if_pos hm, hm, Bool.not_true, br_false]
    exact implKey_loop ht ByteArray.empty 0 0 0 0 text.size 0 m hm (by omega)
  · rw [if_neg hm, Bool.eq_false_iff.2 hm]; rfl
theorem specKeyM_eq : spec_KeyText m.s m.ws m.so m.d m.e m.a m.b m.c m.f m.g text = some (((keyM m text).1.top, (keyM m text).2, ()), (), (keyM m text).1.obs) := by
  simp only [spec_KeyText, specOk_eq h, l5Copy_eq h, Option.bind_some, keyM]
  by_cases hm : m.ok = true
  · rw [if_pos hm, hm, Bool.not_true, br_false]
    exact specKey_loop ht ByteArray.empty 0 0 0 0 text.size 0 m hm (by omega)
  · rw [if_neg hm, Bool.eq_false_iff.2 hm]; rfl
end
end Go.Tree
namespace Go.Tree
def freeOf (a b : Int) (l : List Int) : Int := a - (sumW l).1 - (sumW l).2 * b
def riseOf (a b c : Int) (l : List Int) : Int := if (sumW l).2 > 0 then (if freeOf a b l / (sumW l).2 < c - b then freeOf a b l / (sumW l).2 else c - b) else 0
def restOf (a b c : Int) (l : List Int) : Int := freeOf a b l - (sumW l).2 * riseOf a b c l
def fullB (a b c : Int) (l : List Int) : Bool := measOk a b c && (fitsB a b c l && (restOf a b c l == 0 || decide (restOf a b c l < (sumW l).2)))
structure Fit (a b c : Int) (l : List Int) : Prop where
  m : (1 ≤ a ∧ a ≤ 2000) ∧ (1 ≤ b ∧ b ≤ 100) ∧ (b ≤ c ∧ c ≤ 100)
  len : l.length ≤ 120
  el : ∀ x ∈ l, 0 ≤ x ∧ x ≤ 60
  sum : 0 ≤ (sumW l).1 ∧ (sumW l).1 ≤ 60 * l.length ∧ 0 ≤ (sumW l).2 ∧ (sumW l).2 ≤ l.length
  mul : 0 ≤ (sumW l).2 * b ∧ (sumW l).2 * b ≤ 12000
  free : 0 ≤ freeOf a b l ∧ freeOf a b l ≤ 2000
theorem fit_of {a b c : Int} {l : List Int} (hm : measOk a b c = true) (hf : fitsB a b c l = true) : Fit a b c l := by
  simp only [measOk, inB, Bool.and_eq_true, decide_eq_true_eq] at hm
  simp only [fitsB, Bool.and_eq_true, decide_eq_true_eq] at hf
  obtain ⟨h1, h2⟩ := lineOk_range hf.1
  have hs := sumW_range (by omega) h2
  have hmul := mul_range hs.2.2.1 (by omega) (y := b) (by omega) (by omega)
  exact ⟨hm, h1, h2, hs, hmul, by unfold freeOf; omega⟩
section
variable {a b c : Int} {l : List Int} (F : Fit a b c l)
include F
theorem rise_range : 0 ≤ riseOf a b c l ∧ riseOf a b c l ≤ c - b ∧ 0 ≤ (sumW l).2 * riseOf a b c l ∧ (sumW l).2 * riseOf a b c l ≤ freeOf a b l := by
  obtain ⟨⟨a1, a2⟩, ⟨b1, b2⟩, c1, c2⟩ := F.m
  obtain ⟨f1, f2⟩ := F.free
  obtain ⟨s1, s2, s3, s4⟩ := F.sum
  unfold riseOf
  by_cases hn : (sumW l).2 > 0
  · rw [if_pos hn]
    have hq : 0 ≤ freeOf a b l / (sumW l).2 := Int.ediv_nonneg f1 s3
    have hq2 : (sumW l).2 * (freeOf a b l / (sumW l).2) ≤ freeOf a b l := Int.mul_ediv_self_le (by omega)
    by_cases hc : freeOf a b l / (sumW l).2 < c - b
    · rw [if_pos hc]; exact ⟨hq, by omega, Int.mul_nonneg s3 hq, hq2⟩
    · rw [if_neg hc]
      refine ⟨by omega, by omega, Int.mul_nonneg s3 (by omega), ?_⟩
      have : (sumW l).2 * (c - b) ≤ (sumW l).2 * (freeOf a b l / (sumW l).2) := Int.mul_le_mul_of_nonneg_left (by omega) s3
      omega
  · rw [if_neg hn]; exact ⟨by omega, by omega, by simp, by simpa using f1⟩
theorem implSpread_eq : impl_spread a b c (sumW l).1 (sumW l).2 = some ((riseOf a b c l, restOf a b c l, true, ()), (), ()) := by
  obtain ⟨⟨a1, a2⟩, ⟨b1, b2⟩, c1, c2⟩ := F.m
  obtain ⟨f1, f2⟩ := F.free
  obtain ⟨s1, s2, s3, s4⟩ := F.sum
  obtain ⟨m1, m2⟩ := F.mul
  obtain ⟨r1, r2, r3, r4⟩ := rise_range F
  have hlen := F.len
  have e : w64 (w64 (a - (sumW l).1) - w64 ((sumW l).2 * b)) = freeOf a b l := by
    rw [w64_id (x := a - (sumW l).1) (by omega) (by omega), w64_id (x := (sumW l).2 * b) (by omega) (by omega)]
    exact w64_id (by unfold freeOf at f1; omega) (by unfold freeOf at f2; omega)
  simp only [impl_spread, e]
  rw [decide_eq_false (by omega), br_false]
  by_cases hn : (sumW l).2 > 0
  · have hq : 0 ≤ freeOf a b l / (sumW l).2 := Int.ediv_nonneg f1 s3
    have hq3 : freeOf a b l / (sumW l).2 ≤ freeOf a b l := Int.ediv_le_self _ f1
    have e2 : (if w64 ((freeOf a b l).tdiv (sumW l).2) < w64 (c - b) then w64 ((freeOf a b l).tdiv (sumW l).2) else w64 (c - b)) = riseOf a b c l := by
      rw [Int.tdiv_eq_ediv_of_nonneg f1, w64_id (x := freeOf a b l / (sumW l).2) (by omega) (by omega), w64_id (x := c - b) (by omega) (by omega)]
      unfold riseOf
      rw [if_pos hn]
    rw [decide_eq_true hn, br_true, ck_pos (by omega)]
    simp only [e2]
    rw [w64_id (x := (sumW l).2 * riseOf a b c l) (by omega) (by omega), w64_id (by omega) (by omega)]
    rfl
  · have hr : riseOf a b c l = 0 := by unfold riseOf; rw [if_neg hn]
    have hz : (sumW l).2 = 0 := by omega
    rw [decide_eq_false hn, br_false, hr]
    unfold restOf
    rw [hr, hz, Int.zero_mul]
    rw [show w64 0 = 0 from rfl, w64_id (by omega) (by omega)]
theorem specSpread_loop (c1 : Int) : ∀ (k : Nat) (r : Int), 0 ≤ r → r + k = riseOf a b c l →
    loopC spec_l3Spread_s0 (((), (sumW l).2, freeOf a b l - (sumW l).2 * r, r, ()), ((c1, b, c, ()), ()), ()) = some ((restOf a b c l, riseOf a b c l, ()), (), ())
  | 0, r, h0, hr => by
    obtain ⟨⟨a1, a2⟩, ⟨b1, b2⟩, c1', c2⟩ := F.m
    obtain ⟨f1, f2⟩ := F.free
    obtain ⟨s1, s2, s3, s4⟩ := F.sum
    have e : r = riseOf a b c l := by omega
    subst e
    obtain ⟨r1, r2, r3, r4⟩ := rise_range F
    refine loop_out ?_
    simp only [spec_l3Spread_s0, br_ite, w64_id (x := c - b) (by omega) (by omega)]
    by_cases hn : (sumW l).2 > 0
    · rw [if_pos (by simpa using hn)]
      by_cases hc : riseOf a b c l < c - b
      · rw [if_pos (by simpa using hc)]
        rw [if_neg]
        · rfl
        · have hq : riseOf a b c l = freeOf a b l / (sumW l).2 := by
            unfold riseOf at hc ⊢
            rw [if_pos hn] at hc ⊢
            split
            · rfl
            · rename_i hh; rw [if_neg hh] at hc; omega
          have := Int.lt_mul_ediv_self_add (x := freeOf a b l) (k := (sumW l).2) hn
          rw [← hq] at this
          simp only [decide_eq_true_eq]
          omega
      · rw [if_neg (by simpa using hc)]; rfl
    · rw [if_neg (by simpa using hn)]; rfl
  | k + 1, r, h0, hr => by
    obtain ⟨⟨a1, a2⟩, ⟨b1, b2⟩, c1', c2⟩ := F.m
    obtain ⟨f1, f2⟩ := F.free
    obtain ⟨s1, s2, s3, s4⟩ := F.sum
    obtain ⟨r1, r2, r3, r4⟩ := rise_range F
    have hlen := F.len
    have hn : (sumW l).2 > 0 := by
      by_cases hn : (sumW l).2 > 0
      · exact hn
      · have : riseOf a b c l = 0 := by unfold riseOf; rw [if_neg hn]
        omega
    have hmul : (sumW l).2 * (r + 1) ≤ (sumW l).2 * riseOf a b c l := Int.mul_le_mul_of_nonneg_left (by omega) s3
    have hexp : (sumW l).2 * (r + 1) = (sumW l).2 * r + (sumW l).2 := by rw [Int.mul_add, Int.mul_one]
    have hr0 : 0 ≤ (sumW l).2 * r := Int.mul_nonneg s3 h0
    rw [← specSpread_loop c1 k (r + 1) (by omega) (by omega)]
    refine loop_step ?_
    simp only [spec_l3Spread_s0, br_ite, w64_id (x := c - b) (by omega) (by omega)]
    rw [if_pos (by simpa using hn), if_pos (by simp; omega), if_pos (by simp; omega), w64_id (x := r + 1) (by omega) (by omega), w64_id (by omega) (by omega), hexp]
    congr 6
    omega
theorem specSpread_eq : spec_l3Spread a b c l = some ((riseOf a b c l, restOf a b c l, ()), (), ()) := by
  obtain ⟨⟨a1, a2⟩, ⟨b1, b2⟩, c1, c2⟩ := F.m
  obtain ⟨f1, f2⟩ := F.free
  obtain ⟨s1, s2, s3, s4⟩ := F.sum
  obtain ⟨m1, m2⟩ := F.mul
  obtain ⟨r1, r2, r3, r4⟩ := rise_range F
  have hlen := F.len
  have e : w64 (w64 (a - (sumW l).1) - w64 ((sumW l).2 * b)) = freeOf a b l := by
    rw [w64_id (x := a - (sumW l).1) (by omega) (by omega), w64_id (x := (sumW l).2 * b) (by omega) (by omega)]
    exact w64_id (by unfold freeOf at f1; omega) (by unfold freeOf at f2; omega)
  have L := specSpread_loop F a (riseOf a b c l).toNat 0 (by omega) (by omega)
  rw [Int.mul_zero, Int.sub_zero] at L
  simp only [spec_l3Spread, l3Sum_eq (show l.length ≤ 1048576 by omega), Option.bind_some, e, L]
end
section
variable {a b c : Int} {l : List Int} (hl : l.length ≤ 1048576)
include hl
theorem specIsFull_eq : spec_IsFull a b c l = some ((fullB a b c l, ()), (), ()) := by
  simp only [spec_IsFull, spec_SpreadLine, specMeasureOk_eq, l3Sum_eq hl, Option.bind_some, fullB]
  by_cases hm : measOk a b c = true
  · simp only [l3Fits_eq hl hm, Option.bind_some]
    by_cases hf : fitsB a b c l = true
    · simp only [specSpread_eq (fit_of hm hf), Option.bind_some, hm, hf, Bool.not_true, br_false, br_true, Bool.true_and]
      cases h : (restOf a b c l == 0) <;> rfl
    · rw [hm, Bool.eq_false_iff.2 hf]; rfl
  · rw [Bool.eq_false_iff.2 hm]; rfl
theorem implIsFull_eq : impl_IsFull a b c l = some ((fullB a b c l, ()), (), ()) := by
  simp only [impl_IsFull, impl_full, implMeasureOk_eq, lettersAndBands_eq hl, implLineOk_eq hl, Option.bind_some, fullB]
  by_cases hm : measOk a b c = true
  · by_cases hf : fitsB a b c l = true
    · have hlo : lineOk l = true := by simp only [fitsB, Bool.and_eq_true] at hf; exact hf.1
      simp only [implSpread_eq (fit_of hm hf), Option.bind_some, hm, hf, hlo, br_true, Bool.true_and]
      cases h : (restOf a b c l == 0) <;> rfl
    · rw [hm, Bool.eq_false_iff.2 hf, br_true]
      by_cases hlo : lineOk l = true
      · have hm' := hm
        simp only [measOk, inB, Bool.and_eq_true, decide_eq_true_eq] at hm'
        obtain ⟨h1, h2⟩ := lineOk_range hlo
        obtain ⟨s1, s2, s3, s4⟩ := sumW_range hl h2
        have hmul := mul_range s3 (by omega) (y := b) (by omega) (by omega)
        have hneg : a - (sumW l).1 - (sumW l).2 * b < 0 := by
          have : ¬ ((sumW l).1 + (sumW l).2 * b ≤ a) := fun h => hf (by simp only [fitsB, hlo, Bool.true_and]; exact decide_eq_true h)
          omega
        rw [hlo, br_true]
        simp only [impl_spread]
        rw [w64_id (x := a - (sumW l).1) (by omega) (by omega), w64_id (x := (sumW l).2 * b) (by omega) (by omega), w64_id (x := a - (sumW l).1 - (sumW l).2 * b) (by omega) (by omega), decide_eq_true hneg, br_true]
        rfl
      · rw [Bool.eq_false_iff.2 hlo]; rfl
  · rw [Bool.eq_false_iff.2 hm]; rfl
end
end Go.Tree
namespace Go.Tree
def bandW (w0 wd : Int) (k : Nat) : Int := if (k : Int) < wd then w0 + 1 else w0
def wideL (w0 wd : Int) : Nat → List Int → List Int
  | _, [] => []
  | k, x :: t => if x = 0 then bandW w0 wd k :: wideL w0 wd (k + 1) t else x :: wideL w0 wd k t
def bandL (w0 wd : Int) : Nat → List Int → List Int
  | _, [] => []
  | k, x :: t => if x = 0 then bandW w0 wd k :: bandL w0 wd (k + 1) t else bandL w0 wd k t
def placeL : Int → List Int → List Int
  | _, [] => []
  | p, w :: t => p :: placeL (p + w) t
theorem wideL_length (w0 wd : Int) : ∀ (k : Nat) (l : List Int), (wideL w0 wd k l).length = l.length
  | _, [] => rfl
  | k, x :: t => by unfold wideL; split <;> simp [wideL_length w0 wd _ t]
theorem wideL_range {w0 wd : Int} (h0 : 0 ≤ w0) (h1 : w0 ≤ 100) : ∀ (k : Nat) (l : List Int), (∀ x ∈ l, 0 ≤ x ∧ x ≤ 60) → ∀ y ∈ wideL w0 wd k l, 0 ≤ y ∧ y ≤ 101
  | _, [], _, y, hy => by cases hy
  | k, x :: t, hl, y, hy => by
    have hx := hl x (by simp)
    have ih := fun k => wideL_range h0 h1 (wd := wd) k t (fun z hz => hl z (List.mem_cons_of_mem _ hz))
    unfold wideL at hy
    split at hy
    · rcases List.mem_cons.1 hy with rfl | hy
      · unfold bandW; split <;> omega
      · exact ih _ y hy
    · rcases List.mem_cons.1 hy with rfl | hy
      · omega
      · exact ih _ y hy
def widerOf (a b c : Int) (l : List Int) : Int := if fullB a b c l = true then restOf a b c l else 0
section
variable {a b c : Int} {l : List Int} (F : Fit a b c l)
include F
theorem rest_range : 0 ≤ restOf a b c l ∧ restOf a b c l ≤ 2000 := by
  obtain ⟨r1, r2, r3, r4⟩ := rise_range F
  obtain ⟨f1, f2⟩ := F.free
  unfold restOf
  omega
theorem specWide_loop {wd : Int} (h0 : 0 ≤ wd) (h1 : wd ≤ 2000) : ∀ (k i kk : Nat) (out : List Int), i + k = l.length → out.length = i → kk ≤ i →
    loopC spec_l3Wide_s0 (((), riseOf a b c l, (if (kk : Int) ≤ wd then wd - kk else 0), (), l, (l.length : Int), (i : Int), ()), ((a, b, c, ()), ()), (out, ())) = some (((), ()), (), (out ++ wideL (b + riseOf a b c l) wd kk (l.drop i), ()))
  | 0, i, kk, out, hk, ho, hkk => by
    have e : i = l.length := by omega
    subst e
    refine loop_out ?_
    simp only [spec_l3Wide_s0, br_ite, List.drop_length, wideL, List.append_nil]
    rw [if_neg (by simp)]
  | k + 1, i, kk, out, hk, ho, hkk => by
    have hi : i < l.length := by omega
    have hlen := F.len
    obtain ⟨⟨a1, a2⟩, ⟨b1, b2⟩, c1, c2⟩ := F.m
    obtain ⟨r1, r2, r3, r4⟩ := rise_range F
    have hlt : (i : Int) < (l.length : Int) := by omega
    have hdr : l.drop i = l[i] :: l.drop (i + 1) := List.drop_eq_getElem_cons hi
    have hge : l.getD i 0 = l[i] := getD_of_lt hi
    have hsm : ∀ x : Int, (out.length + [x].length) * 8 ≤ 140737488355328 ∧ (out.length + [x].length) ≤ 9223372036854775807 := fun x => by rw [List.length_singleton]; omega
    rw [hdr]
    by_cases hx : l[i] = 0
    · have e1 : wideL (b + riseOf a b c l) wd kk (l[i] :: l.drop (i + 1)) = bandW (b + riseOf a b c l) wd kk :: wideL (b + riseOf a b c l) wd (kk + 1) (l.drop (i + 1)) := by rw [wideL, if_pos hx]
      rw [e1, List.append_cons, ← specWide_loop h0 h1 k (i + 1) (kk + 1) (out ++ [bandW (b + riseOf a b c l) wd kk]) (by omega) (by simp; omega) (by omega)]
      refine loop_step ?_
      simp only [spec_l3Wide_s0, Int.toNat_natCast, br_ite, hge]
      rw [if_pos (by simpa using hlt), ck_pos (by omega), ck_pos hi, if_pos (by simp [hx]), w64_id (x := b + riseOf a b c l) (by omega) (by omega), w64_succ hi (by unfold maxLen; omega)]
      unfold bandW
      by_cases hw : (kk : Int) < wd
      · have e2 : (if (kk : Int) ≤ wd then wd - kk else 0) = wd - kk := if_pos (by omega)
        have e3 : (if ((kk + 1 : Nat) : Int) ≤ wd then wd - ((kk + 1 : Nat) : Int) else 0) = wd - kk - 1 := by rw [if_pos (by omega)]; omega
        rw [e2, e3, if_pos (by simp; omega), if_pos hw, ck_pos (hsm _), w64_id (x := b + riseOf a b c l + 1) (by omega) (by omega), w64_id (x := wd - (kk : Int) - 1) (by omega) (by omega)]
      · have e2 : (if (kk : Int) ≤ wd then wd - kk else 0) = 0 := by split <;> omega
        have e3 : (if ((kk + 1 : Nat) : Int) ≤ wd then wd - ((kk + 1 : Nat) : Int) else 0) = 0 := if_neg (by omega)
        rw [e2, e3, if_neg (by simp), if_neg hw, ck_pos (hsm _)]
    · have e1 : wideL (b + riseOf a b c l) wd kk (l[i] :: l.drop (i + 1)) = l[i] :: wideL (b + riseOf a b c l) wd kk (l.drop (i + 1)) := by rw [wideL, if_neg hx]
      rw [e1, List.append_cons, ← specWide_loop h0 h1 k (i + 1) kk (out ++ [l[i]]) (by omega) (by simp; omega) (by omega)]
      refine loop_step ?_
      simp only [spec_l3Wide_s0, Int.toNat_natCast, br_ite, hge]
      rw [if_pos (by simpa using hlt), ck_pos (by omega), ck_pos hi, if_neg (by simp [hx]), ck_pos (hsm _), w64_succ hi (by unfold maxLen; omega)]
theorem implBand_loop {wd : Int} (h0 : 0 ≤ wd) (h1 : wd ≤ 2000) : ∀ (k i : Nat) (out : List Int), i + k = l.length → out.length ≤ i →
    loopC impl_BandWidths_s0 (((), riseOf a b c l, wd, (), l, (l.length : Int), (i : Int), ()), ((a, b, c, ()), ()), (out, ())) = some (((), ()), (), (out ++ bandL (b + riseOf a b c l) wd out.length (l.drop i), ()))
  | 0, i, out, hk, ho => by
    have e : i = l.length := by omega
    subst e
    refine loop_out ?_
    simp only [impl_BandWidths_s0, br_ite, List.drop_length, bandL, List.append_nil]
    rw [if_neg (by simp)]
  | k + 1, i, out, hk, ho => by
    have hi : i < l.length := by omega
    have hlen := F.len
    obtain ⟨⟨a1, a2⟩, ⟨b1, b2⟩, c1, c2⟩ := F.m
    obtain ⟨r1, r2, r3, r4⟩ := rise_range F
    have hlt : (i : Int) < (l.length : Int) := by omega
    have hdr : l.drop i = l[i] :: l.drop (i + 1) := List.drop_eq_getElem_cons hi
    have hge : l.getD i 0 = l[i] := getD_of_lt hi
    have hel := F.el _ (List.getElem_mem hi)
    have hsm : ∀ x : Int, (out.length + [x].length) * 8 ≤ 140737488355328 ∧ (out.length + [x].length) ≤ 9223372036854775807 := fun x => by rw [List.length_singleton]; omega
    rw [hdr]
    by_cases hx : l[i] = 0
    · have e1 : bandL (b + riseOf a b c l) wd out.length (l[i] :: l.drop (i + 1)) = bandW (b + riseOf a b c l) wd out.length :: bandL (b + riseOf a b c l) wd (out.length + 1) (l.drop (i + 1)) := by rw [bandL, if_pos hx]
      have ih := implBand_loop h0 h1 k (i + 1) (out ++ [bandW (b + riseOf a b c l) wd out.length]) (by omega) (by simp; omega)
      rw [List.length_append, List.length_singleton] at ih
      rw [e1, List.append_cons, ← ih]
      refine loop_step ?_
      simp only [impl_BandWidths_s0, Int.toNat_natCast, br_ite, hge]
      rw [if_pos (by simpa using hlt), ck_pos (by omega), ck_pos hi, if_neg (by simp [hx]), w64_id (x := b + riseOf a b c l) (by omega) (by omega), w64_succ hi (by unfold maxLen; omega)]
      unfold bandW
      by_cases hw : (out.length : Int) < wd
      · rw [if_pos (by simpa using hw), if_pos hw, ck_pos (hsm _), w64_id (x := b + riseOf a b c l + 1) (by omega) (by omega)]
      · rw [if_neg (by simpa using hw), if_neg hw, ck_pos (hsm _)]
    · have e1 : bandL (b + riseOf a b c l) wd out.length (l[i] :: l.drop (i + 1)) = bandL (b + riseOf a b c l) wd out.length (l.drop (i + 1)) := by rw [bandL, if_neg hx]
      rw [e1, ← implBand_loop h0 h1 k (i + 1) out (by omega) (by omega)]
      refine loop_step ?_
      simp only [impl_BandWidths_s0, Int.toNat_natCast, br_ite, hge]
      rw [if_pos (by simpa using hlt), ck_pos (by omega), ck_pos hi, if_pos (by simp; omega), w64_succ hi (by unfold maxLen; omega)]
theorem implPlace_loop {w0 wd : Int} (h0 : 0 ≤ w0) (h1 : w0 ≤ 100) (B0 : List Int) : ∀ (k i kk : Nat) (p : Int) (out : List Int), i + k = l.length → out.length = i → 0 ≤ p → p ≤ 101 * i →
    loopC impl_PlacesOf_s0 ((bandL w0 wd kk (l.drop i), (), p, l, (l.length : Int), (i : Int), ()), (), (B0, out, ())) = some (((), ()), (), (out ++ placeL p (wideL w0 wd kk (l.drop i)), ()))
  | 0, i, kk, p, out, hk, ho, hp, hp' => by
    have e : i = l.length := by omega
    subst e
    refine loop_out ?_
    simp only [impl_PlacesOf_s0, br_ite, List.drop_length, wideL, placeL, List.append_nil]
    rw [if_neg (by simp)]
  | k + 1, i, kk, p, out, hk, ho, hp, hp' => by
    have hi : i < l.length := by omega
    have hlen := F.len
    have hlt : (i : Int) < (l.length : Int) := by omega
    have hdr : l.drop i = l[i] :: l.drop (i + 1) := List.drop_eq_getElem_cons hi
    have hge : l.getD i 0 = l[i] := getD_of_lt hi
    have hel := F.el _ (List.getElem_mem hi)
    have hsm : (out.length + [p].length) * 8 ≤ 140737488355328 ∧ (out.length + [p].length) ≤ 9223372036854775807 := by rw [List.length_singleton]; omega
    rw [hdr]
    by_cases hx : l[i] = 0
    · have e1 : wideL w0 wd kk (l[i] :: l.drop (i + 1)) = bandW w0 wd kk :: wideL w0 wd (kk + 1) (l.drop (i + 1)) := by rw [wideL, if_pos hx]
      have e2 : bandL w0 wd kk (l[i] :: l.drop (i + 1)) = bandW w0 wd kk :: bandL w0 wd (kk + 1) (l.drop (i + 1)) := by rw [bandL, if_pos hx]
      have hb : 0 ≤ bandW w0 wd kk ∧ bandW w0 wd kk ≤ 101 := by unfold bandW; split <;> omega
      rw [e1, e2, placeL, List.append_cons, ← implPlace_loop h0 h1 B0 k (i + 1) (kk + 1) (p + bandW w0 wd kk) (out ++ [p]) (by omega) (by simp; omega) (by omega) (by omega)]
      refine loop_step ?_
      simp only [impl_PlacesOf_s0, Int.toNat_natCast, br_ite, hge]
      rw [if_pos (by simpa using hlt), ck_pos (by omega), ck_pos hi, ck_pos hsm, if_pos (by simp [hx]), ck_pos (by simp), ck_pos ⟨by simp, Nat.le_refl _⟩, w64_succ hi (by unfold maxLen; omega)]
      show some (Sum.inl ((cut (bandW w0 wd kk :: bandL w0 wd (kk + 1) (l.drop (i + 1))) 1 (bandW w0 wd kk :: bandL w0 wd (kk + 1) (l.drop (i + 1))).length, (), w64 (p + bandW w0 wd kk), l, (l.length : Int), ((i + 1 : Nat) : Int), ()), (), (B0, out ++ [p], ()))) = _
      rw [w64_id (x := p + bandW w0 wd kk) (by omega) (by omega)]
      simp [cut]
    · have e1 : wideL w0 wd kk (l[i] :: l.drop (i + 1)) = l[i] :: wideL w0 wd kk (l.drop (i + 1)) := by rw [wideL, if_neg hx]
      have e2 : bandL w0 wd kk (l[i] :: l.drop (i + 1)) = bandL w0 wd kk (l.drop (i + 1)) := by rw [bandL, if_neg hx]
      rw [e1, e2, placeL, List.append_cons, ← implPlace_loop h0 h1 B0 k (i + 1) kk (p + l[i]) (out ++ [p]) (by omega) (by simp; omega) (by omega) (by omega)]
      refine loop_step ?_
      simp only [impl_PlacesOf_s0, Int.toNat_natCast, br_ite, hge]
      rw [if_pos (by simpa using hlt), ck_pos (by omega), ck_pos hi, ck_pos hsm, if_neg (by simp [hx]), w64_succ hi (by unfold maxLen; omega), w64_id (x := p + l[i]) (by omega) (by omega)]
end
theorem specPlace_loop (W : List Int) (hW : W.length ≤ 120) (hr : ∀ y ∈ W, 0 ≤ y ∧ y ≤ 101) : ∀ (k i : Nat) (p : Int) (out : List Int), i + k = W.length → out.length = i → 0 ≤ p → p ≤ 101 * i →
    loopC spec_PlacesOf_s0 (((), p, (), (W.length : Int), (i : Int), ()), (), (out, W, ())) = some (((), ()), (), (out ++ placeL p (W.drop i), ()))
  | 0, i, p, out, hk, ho, hp, hp' => by
    have e : i = W.length := by omega
    subst e
    refine loop_out ?_
    simp only [spec_PlacesOf_s0, br_ite, List.drop_length, placeL, List.append_nil]
    rw [if_neg (by simp)]
  | k + 1, i, p, out, hk, ho, hp, hp' => by
    have hi : i < W.length := by omega
    have hlt : (i : Int) < (W.length : Int) := by omega
    have hdr : W.drop i = W[i] :: W.drop (i + 1) := List.drop_eq_getElem_cons hi
    have hge : W.getD i 0 = W[i] := getD_of_lt hi
    have hel := hr _ (List.getElem_mem hi)
    have hsm : (out.length + [p].length) * 8 ≤ 140737488355328 ∧ (out.length + [p].length) ≤ 9223372036854775807 := by rw [List.length_singleton]; omega
    rw [hdr, placeL, List.append_cons, ← specPlace_loop W hW hr k (i + 1) (p + W[i]) (out ++ [p]) (by omega) (by simp; omega) (by omega) (by omega)]
    refine loop_step ?_
    simp only [spec_PlacesOf_s0, Int.toNat_natCast, br_ite, hge]
    rw [if_pos (by simpa using hlt), ck_pos (by omega), ck_pos hi, ck_pos hi, ck_pos hsm, w64_succ hi (by unfold maxLen; omega), w64_id (x := p + W[i]) (by omega) (by omega)]
def placesA (a b c : Int) (l : List Int) : List Int := if (measOk a b c && fitsB a b c l) = true then placeL 0 (wideL (b + riseOf a b c l) (widerOf a b c l) 0 l) else []
section
variable {a b c : Int} {l : List Int} (hl : l.length ≤ 1048576)
include hl
theorem specPlaces_eq : spec_PlacesOf a b c l = some (((), ()), (), (placesA a b c l, ())) := by
  simp only [spec_PlacesOf, specMeasureOk_eq, Option.bind_some, placesA]
  by_cases hm : measOk a b c = true
  · simp only [l3Fits_eq hl hm, Option.bind_some]
    by_cases hf : fitsB a b c l = true
    · have F := fit_of hm hf
      obtain ⟨⟨a1, a2⟩, ⟨b1, b2⟩, c1, c2⟩ := F.m
      obtain ⟨r1, r2, r3, r4⟩ := rise_range F
      have W : spec_l3Wide a b c l = some (((), ()), (), (wideL (b + riseOf a b c l) (widerOf a b c l) 0 l, ())) := by
        simp only [spec_l3Wide, specSpread_eq F, specIsFull_eq hl, Option.bind_some, widerOf]
        by_cases hfu : fullB a b c l = true
        · have L := specWide_loop F (rest_range F).1 (rest_range F).2 l.length 0 0 [] (by omega) rfl (Nat.le_refl _)
          simp only [Int.natCast_zero, if_pos (rest_range F).1, Int.sub_zero, List.drop_zero, List.nil_append] at L
          rw [hfu, Bool.not_true, br_false, L, if_pos rfl]; rfl
        · have L := specWide_loop F (wd := 0) (Int.le_refl 0) (by omega) l.length 0 0 [] (by omega) rfl (Nat.le_refl _)
          simp only [Int.natCast_zero, Int.le_refl, if_true, Int.sub_zero, List.drop_zero, List.nil_append] at L
          rw [Bool.eq_false_iff.2 hfu, Bool.not_false, br_true, L, if_neg (by simp)]; rfl
      have hwl := wideL_length (b + riseOf a b c l) (widerOf a b c l) 0 l
      have hwr := wideL_range (w0 := b + riseOf a b c l) (wd := widerOf a b c l) (by omega) (by omega) 0 l F.el
      have hlen := F.len
      rw [hm, hf, Bool.not_true, br_false, br_false, W, Option.bind_some, Bool.and_self, if_pos rfl]
      generalize wideL (b + riseOf a b c l) (widerOf a b c l) 0 l = V at hwl hwr
      have L := specPlace_loop V (by omega) hwr V.length 0 0 [] (by omega) rfl (Int.le_refl 0) (by omega)
      simp only [Int.natCast_zero, List.drop_zero, List.nil_append] at L
      exact congrArg (fun o => Option.bind o fun r9 => some (((), ()), (), (r9.2.2.1, ()))) L
    · rw [hm, Bool.eq_false_iff.2 hf]; rfl
  · rw [Bool.eq_false_iff.2 hm]; rfl
theorem implPlaces_eq : impl_PlacesOf a b c l = some (((), ()), (), (placesA a b c l, ())) := by
  simp only [impl_PlacesOf, fits_eq hl, Option.bind_some, placesA]
  by_cases hmf : (measOk a b c && fitsB a b c l) = true
  · have hm := (Bool.and_eq_true _ _ ▸ hmf).1
    have hf := (Bool.and_eq_true _ _ ▸ hmf).2
    have F := fit_of hm hf
    obtain ⟨⟨a1, a2⟩, ⟨b1, b2⟩, c1, c2⟩ := F.m
    obtain ⟨r1, r2, r3, r4⟩ := rise_range F
    have hlo : lineOk l = true := by simp only [fitsB, Bool.and_eq_true] at hf; exact hf.1
    have B : impl_BandWidths a b c l = some (((), ()), (), (bandL (b + riseOf a b c l) (widerOf a b c l) 0 l, ())) := by
      simp only [impl_BandWidths, impl_SpreadLine, implMeasureOk_eq, implLineOk_eq hl, lettersAndBands_eq hl, hm, hlo, Bool.not_true, br_false, implSpread_eq F, implIsFull_eq hl, Option.bind_some, widerOf]
      by_cases hfu : fullB a b c l = true
      · have L := implBand_loop F (rest_range F).1 (rest_range F).2 l.length 0 [] (by omega) (Nat.le_refl _)
        simp only [Int.natCast_zero, List.drop_zero, List.nil_append, List.length_nil] at L
        rw [hfu, br_true, L, if_pos rfl]; rfl
      · have L := implBand_loop F (wd := 0) (Int.le_refl 0) (by omega) l.length 0 [] (by omega) (Nat.le_refl _)
        simp only [Int.natCast_zero, List.drop_zero, List.nil_append, List.length_nil] at L
        rw [Bool.eq_false_iff.2 hfu, br_false, L, if_neg (by simp)]; rfl
    have L := implPlace_loop F (w0 := b + riseOf a b c l) (wd := widerOf a b c l) (by omega) (by omega) (bandL (b + riseOf a b c l) (widerOf a b c l) 0 l) l.length 0 0 0 [] (by omega) rfl (Int.le_refl 0) (by omega)
    simp only [Int.natCast_zero, List.drop_zero, List.nil_append] at L
    rw [hmf, Bool.not_true, br_false, B, Option.bind_some, if_pos rfl]
    exact congrArg (fun o => Option.bind o fun r9 => some (((), ()), (), (r9.2.2.1, ()))) L
  · rw [Bool.eq_false_iff.2 hmf]; rfl
end
end Go.Tree
namespace Go.Tree
def castS (p : Int × List (Int × Int)) (y : Int × Int) : Int × List (Int × Int) := if y.1 < 0 then (p.1 + 1, p.2) else (p.1, p.2 ++ [y])
def castP (m : Mach) : Int × List (Int × Int) := m.f.foldl castS (m.e, m.g)
def castM (m : Mach) : Mach := { m with e := (castP m).1, f := [], g := (castP m).2 }
theorem castS_range : ∀ (xs : List (Int × Int)) (p : Int × List (Int × Int)), p.1 ≤ (xs.foldl castS p).1 ∧ (xs.foldl castS p).1 ≤ p.1 + xs.length ∧ (xs.foldl castS p).2.length ≤ p.2.length + xs.length
  | [], p => by simp
  | x :: xs, p => by
    have ih := castS_range xs (castS p x)
    have h : p.1 ≤ (castS p x).1 ∧ (castS p x).1 ≤ p.1 + 1 ∧ (castS p x).2.length ≤ p.2.length + 1 := by
      unfold castS
      split
      · exact ⟨by omega, by omega, by simp⟩
      · exact ⟨by simp, by simp; omega, by simp⟩
    rw [List.foldl_cons, List.length_cons]
    omega
theorem castM_sm {m : Mach} (hok : m.ok = true) : (castM m).Sm := by
  have h := ok_sm hok
  obtain ⟨h1, h2, h3, h4, h5, h6, h7⟩ := ok_parts hok
  have hfl := fits_len h7
  rw [List.length_map] at hfl
  have hr := castS_range m.f (m.e, m.g)
  exact ⟨h.s, h.ws, h.so, h.d, h.d', by simp [castM], by show (castP m).2.length ≤ _; unfold castP; simp only at hr; omega⟩
section
variable {m : Mach} (hok : m.ok = true) (zs : ByteArray) (ze za zb zc : Int)
include hok
theorem implCast_loop (text : ByteArray) (pl : List Int) :
    loopC impl_CastLine_s0 (((), (), text, (), (), (m.f.length : Int), (0 : Int), ()), (m.top, (zs, (), (), (), ze, za, zb, zc, (), (), ()), ()), (pl, m.f, m.ws, m.so, m.d, m.g, ())) =
      some (((), (), text, (), ()), ((castM m).top, (zs, (), (), (), ze, za, zb, zc, (), (), ()), ()), (pl, m.ws, m.so, m.d, m.f, (castM m).g, ())) := by
  obtain ⟨h1, h2, h3, h4, h5, h6, h7⟩ := ok_parts hok
  have hfl := fits_len h7
  rw [List.length_map] at hfl
  have hg := good_kinds hok
  have L := (loop_acc (s := impl_CastLine_s0) (fun i (p : Int × List (Int × Int)) => (((), (), text, (), (), (m.f.length : Int), (i : Int), ()), ((m.s, (), (), (), p.1, m.a, m.b, m.c, (), (), ()), (zs, (), (), (), ze, za, zb, zc, (), (), ()), ()), (pl, m.f, m.ws, m.so, m.d, p.2, ()))) m.f.length
    (fun i p => castS p (m.f.getD i (0, 0))) (fun i p => 0 ≤ p.1 ∧ p.1 ≤ 60 + i ∧ p.2.length ≤ 240 + i)
    (fun p => (((), (), text, (), ()), ((m.s, (), (), (), p.1, m.a, m.b, m.c, (), (), ()), (zs, (), (), (), ze, za, zb, zc, (), (), ()), ()), (pl, m.ws, m.so, m.d, m.f, p.2, ()))) (by
    intro i p hi ⟨i1, i2, i3⟩
    have hb := (hg _ (List.mem_append_left _ (getD_mem (d := (0, 0)) hi))).1
    have hlt : (i : Int) < (m.f.length : Int) := by omega
    refine ⟨?_, ?_⟩
    · simp only [impl_CastLine_s0, Int.toNat_natCast, br_ite, isBand_eq, Option.bind_some]
      rw [if_pos (by simpa using hlt), ck_pos (by omega), ck_pos hi, ck_pos hi, w64_succ hi (by unfold maxLen; omega)]
      show (if bandB (m.f.getD i (0, 0)) = true then _ else _) = _
      rw [hb]
      unfold castS
      by_cases k : (m.f.getD i (0, 0)).1 < 0
      · rw [if_pos (by simpa using k), if_pos k, w64_id (x := p.1 + 1) (by omega) (by omega)]
      · rw [if_neg (by simpa using k), if_neg k, ck_pos (by rw [List.length_singleton]; omega)]
    · unfold castS
      split
      · exact ⟨by omega, by simp; omega, by simp; omega⟩
      · exact ⟨i1, by simp; omega, by simp; omega⟩) (by
    intro p hp
    simp only [impl_CastLine_s0, br_ite]
    rw [if_neg (by simp)]) (m.e, m.g) ⟨by omega, by simp; omega, by simp; omega⟩).1
  rw [foldl_range m.f (0, 0) castS] at L
  exact L
theorem specCast_loop :
    loopC spec_CastLine_s0 (((), (), (), m.f, (m.f.length : Int), (0 : Int), ()), ((m.s, m.ws, m.so, m.d, m.e, m.a, m.b, m.c, m.f, m.g, ()), (zs, (), (), (), ze, za, zb, zc, (), (), ()), m.top, ()), (m.ws, m.so, m.d, m.g, ())) =
      some (((), (), (), ()), ((m.s, m.ws, m.so, m.d, m.e, m.a, m.b, m.c, m.f, m.g, ()), (zs, (), (), (), ze, za, zb, zc, (), (), ()), (castM m).top, ()), (m.ws, m.so, m.d, (castM m).g, ())) := by
  obtain ⟨h1, h2, h3, h4, h5, h6, h7⟩ := ok_parts hok
  have hfl := fits_len h7
  rw [List.length_map] at hfl
  have L := (loop_acc (s := spec_CastLine_s0) (fun i (p : Int × List (Int × Int)) => (((), (), (), m.f, (m.f.length : Int), (i : Int), ()), ((m.s, m.ws, m.so, m.d, m.e, m.a, m.b, m.c, m.f, m.g, ()), (zs, (), (), (), ze, za, zb, zc, (), (), ()), (m.s, (), (), (), p.1, m.a, m.b, m.c, (), (), ()), ()), (m.ws, m.so, m.d, p.2, ()))) m.f.length
    (fun i p => castS p (m.f.getD i (0, 0))) (fun i p => 0 ≤ p.1 ∧ p.1 ≤ 60 + i ∧ p.2.length ≤ 240 + i)
    (fun p => (((), (), (), ()), ((m.s, m.ws, m.so, m.d, m.e, m.a, m.b, m.c, m.f, m.g, ()), (zs, (), (), (), ze, za, zb, zc, (), (), ()), (m.s, (), (), (), p.1, m.a, m.b, m.c, (), (), ()), ()), (m.ws, m.so, m.d, p.2, ()))) (by
    intro i p hi ⟨i1, i2, i3⟩
    have hlt : (i : Int) < (m.f.length : Int) := by omega
    refine ⟨?_, ?_⟩
    · simp only [spec_CastLine_s0, Int.toNat_natCast, br_ite]
      rw [if_pos (by simpa using hlt), ck_pos (by omega), ck_pos hi, w64_succ hi (by unfold maxLen; omega)]
      unfold castS
      by_cases k : (m.f.getD i (0, 0)).1 < 0
      · rw [if_pos (by simpa using k), if_pos k, w64_id (x := p.1 + 1) (by omega) (by omega)]
      · rw [if_neg (by simpa using k), if_neg k, ck_pos (by rw [List.length_singleton]; omega)]
    · unfold castS
      split
      · exact ⟨by omega, by simp; omega, by simp; omega⟩
      · exact ⟨i1, by simp; omega, by simp; omega⟩) (by
    intro p hp
    simp only [spec_CastLine_s0, br_ite]
    rw [if_neg (by simp)]) (m.e, m.g) ⟨by omega, by simp; omega, by simp; omega⟩).1
  rw [foldl_range m.f (0, 0) castS] at L
  exact L
end
def castB (m : Mach) (ragged : Bool) : Bool := m.ok && (!((m.f.length : Int) == 0) && ((ragged || fullB m.a m.b m.c (m.f.map (widOf m.ws))) && (castM m).ok))
def castY (m : Mach) (ragged : Bool) : Mach := if castB m ragged = true then castM m else Mach.no
def castT (m : Mach) (ragged : Bool) : ByteArray := if castB m ragged = true then ofBytes (m.f.map (letOf m.s)) else ByteArray.empty
def castL (m : Mach) (ragged : Bool) : List Int := if castB m ragged = true then placesA m.a m.b m.c (m.f.map (widOf m.ws)) else []
theorem castY_f (m : Mach) (ragged : Bool) : (castY m ragged).f = [] := by unfold castY; split <;> rfl
theorem castY_sm (m : Mach) (ragged : Bool) : (castY m ragged).Sm := by
  unfold castY
  split
  · rename_i h
    simp only [castB, Bool.and_eq_true] at h
    exact castM_sm h.1
  · exact Mach.no_sm
section
variable {m : Mach} (h : m.Sm)
include h
theorem specCast_eq (r : Bool) : spec_CastLine m.s m.ws m.so m.d m.e m.a m.b m.c m.f m.g r = some (((castY m r).top, castT m r, (), castB m r, ()), (), ((castY m r).ws, (castY m r).so, (castY m r).d, (castY m r).g, castL m r, ())) := by
  simp only [spec_CastLine, specOk_eq h, l5Copy_eq h, Option.bind_some]
  by_cases hm : m.ok = true
  · obtain ⟨h1, h2, h3, h4, h5, h6, h7⟩ := ok_parts hm
    obtain ⟨hf, hl, hc⟩ := mag_parts h1
    obtain ⟨e1, e2, _⟩ := fontOk_len hf
    have hfl : (m.f.map (widOf m.ws)).length ≤ 1048576 := by rw [List.length_map]; exact h.f
    simp only [specItems_eq e1 h.f h5, specIsFull_eq hfl, specCast_loop hm, Option.bind_some]
    have O : spec_MachineOk (castM m).s m.ws m.so m.d (castM m).e (castM m).a (castM m).b (castM m).c [] (castM m).g = some (((castM m).ok, ()), (), ()) := specOk_eq (castM_sm hm)
    have T := specText_eq (ws := m.ws) h.s h.f h5
    have P := specPlaces_eq (a := m.a) (b := m.b) (c := m.c) hfl
    rw [hm, Bool.not_true, br_false]
    unfold castY castT castL castB
    rw [hm, Bool.true_and]
    cases hz : ((m.f.length : Int) == 0)
    · rw [br_false, Bool.not_false, Bool.true_and]
      cases r
      · rw [Bool.not_false, br_true, Bool.false_or]
        cases hfu : fullB m.a m.b m.c (m.f.map (widOf m.ws))
        · rfl
        · simp only [Bool.not_true, br_false, Bool.true_and]
          rw [O, Option.bind_some]
          cases hco : (castM m).ok
          · rfl
          · simp only [Bool.not_true, br_false, T, P, Option.bind_some, if_true]
            rfl
      · rw [Bool.not_true, br_false, Bool.true_or, Bool.true_and, O, Option.bind_some]
        cases hco : (castM m).ok
        · rfl
        · simp only [Bool.not_true, br_false, T, P, Option.bind_some, if_true]
          rfl
    · rfl
  · unfold castY castT castL castB
    rw [Bool.eq_false_iff.2 hm]; rfl
theorem implCast_eq (r : Bool) : impl_CastLine m.s m.ws m.so m.d m.e m.a m.b m.c m.f m.g r = some (((castY m r).top, castT m r, (), castB m r, ()), (), ((castY m r).ws, (castY m r).so, (castY m r).d, (castY m r).g, castL m r, ())) := by
  simp only [impl_CastLine, implOk_eq h, copyM_eq h, Option.bind_some]
  by_cases hm : m.ok = true
  · obtain ⟨h1, h2, h3, h4, h5, h6, h7⟩ := ok_parts hm
    have hfl : (m.f.map (widOf m.ws)).length ≤ 1048576 := by rw [List.length_map]; exact h.f
    have I : impl_ItemsOf m.s m.ws m.so m.d m.e m.a m.b m.c m.f m.g = some (((), ()), (), (m.f.map (widOf m.ws), ())) := by
      rw [implItemsOf_eq h.s h.ws h.so h.d h.d' h.f h.g]
      unfold itemsOf
      rw [if_pos hm]
    have T : impl_LineText m.s m.ws m.so m.d m.e m.a m.b m.c m.f m.g = some ((ofBytes (m.f.map (letOf m.s)), ()), (), ()) := by
      rw [implLineText_eq h.s h.ws h.so h.d h.d' h.f h.g]
      unfold lineText
      rw [if_pos hm]
    have O : impl_MachineOk (castM m).s m.ws m.so m.d (castM m).e (castM m).a (castM m).b (castM m).c [] (castM m).g = some (((castM m).ok, ()), (), ()) := implOk_eq (castM_sm hm)
    have P := implPlaces_eq (a := m.a) (b := m.b) (c := m.c) hfl
    simp only [I, T, P, implIsFull_eq hfl, implCast_loop hm, Option.bind_some]
    rw [hm, Bool.not_true, br_false]
    unfold castY castT castL castB
    rw [hm, Bool.true_and]
    cases hz : ((m.f.length : Int) == 0)
    · rw [br_false, Bool.not_false, Bool.true_and]
      cases r
      · rw [Bool.not_false, br_true, Bool.false_or]
        cases hfu : fullB m.a m.b m.c (m.f.map (widOf m.ws))
        · rfl
        · simp only [Bool.not_true, br_false, Bool.true_and]
          rw [O, Option.bind_some]
          cases hco : (castM m).ok <;> rfl
      · rw [Bool.not_true, br_false, Bool.true_or, Bool.true_and, O, Option.bind_some]
        cases hco : (castM m).ok <;> rfl
    · rfl
  · unfold castY castT castL castB
    rw [Bool.eq_false_iff.2 hm]; rfl
end
end Go.Tree
namespace Go.Tree
theorem toStringS_eq {l : List ByteArray} (hl : l.length ≤ 1048576) : laws_toStringS l = some (((), ()), (), (l, ())) := by
  have h := loop_for (s := laws_toStringS_s0) (fun i => ((l, (), (i : Int), ()), (), (fillTo l ByteArray.empty i, ()))) l.length (((), ()), (), (l, ())) (by
    intro i hi
    simp only [laws_toStringS_s0, Int.toNat_natCast, br_ite, decide_eq_true_eq, Int.ofNat_lt, fillTo_length l ByteArray.empty (Nat.le_of_lt hi)]
    rw [if_pos hi, ck_pos (by omega), ck_pos hi, ck_pos (by omega), ck_pos hi, ck_pos hi, fillTo_set l ByteArray.empty ByteArray.empty hi, w64_succ hi (big_len hl)]) (by
    simp only [laws_toStringS_s0, br_ite, fillTo_all]
    rw [if_neg (by simp)])
  simp only [laws_toStringS, Int.toNat_natCast]
  rw [ck_pos (by omega), ck_pos (by omega), ck_pos ⟨trivial, by omega, by omega⟩, ← fillTo_zero l ByteArray.empty]
  exact congrArg (fun o => Option.bind o fun r6 => some (((), ()), (), (r6.2.2.1, ()))) h
theorem eqStringS_refl {l : List ByteArray} (hl : l.length ≤ 1048576) : laws_eqStringS l l = some ((true, ()), (), ()) := by
  have h := loop_for (s := laws_eqStringS_s0) (fun i => ((l, l, (i : Int), ()), (), ())) l.length (.inr ((), (), ())) (by
    intro i hi
    simp only [laws_eqStringS_s0, Int.toNat_natCast, br_ite, decide_eq_true_eq, Int.ofNat_lt, strEq_refl]
    rw [if_pos hi, ck_pos (by omega), ck_pos hi, ck_pos (by omega), ck_pos hi, if_neg (by simp), w64_succ hi (big_len hl)]) (by
    simp only [laws_eqStringS_s0, br_ite]
    rw [if_neg (by simp)])
  simp only [laws_eqStringS, br_ite]
  rw [if_neg (by simp)]
  exact congrArg (fun o => Option.bind o fun r7 => sumK r7 (fun y10 => some ((y10.1.1, ()), (), ())) (fun y11 => some ((true, ()), (), ()))) h
theorem ofBytes_one (x : Int) : (ofBytes [x]).size = 1 := rfl
theorem i64_max : IntKind.i64.max = 9223372036854775807 := rfl
theorem markText_some {k : Int} (hk : k ≤ 100000000000000) : ∃ t, laws_markText k = some ((t, ()), (), ()) := by
  by_cases h0 : k ≤ 0
  · exact ⟨_, by simp only [laws_markText]; rw [decide_eq_true h0]; rfl⟩
  · obtain ⟨z, hz, hQ⟩ := loopC_rule (step := laws_markText_s0) (fun x => ∃ (n : Int) (s : ByteArray), x = ((n, s, ()), (), ()) ∧ 0 ≤ n ∧ n ≤ k ∧ (s.size : Int) + n ≤ k) (fun x => x.1.1.toNat) (fun z => ∃ s, z = ((s, ()), (), ()) ∧ (s.size : Int) ≤ k) (by
      rintro _ ⟨n, s, rfl, n0, n1, n2⟩
      simp only [laws_markText_s0, br_ite, decide_eq_true_eq]
      by_cases hn : n > 0
      · rw [if_pos hn, ck_pos (by rw [ofBytes_one, i64_max]; omega)]
        have hd : n.tdiv 10 = n / 10 := Int.tdiv_eq_ediv_of_nonneg n0
        rw [hd, w64_id (by omega) (by omega)]
        refine .inl ⟨_, rfl, ⟨_, _, rfl, by omega, by omega, ?_⟩, by dsimp only; omega⟩
        rw [ByteArray.size_append, ofBytes_one]
        omega
      · rw [if_neg hn]
        exact .inr ⟨_, rfl, _, rfl, by omega⟩) k.toNat ((k, ByteArray.empty, ()), (), ()) (by simp) ⟨k, .empty, rfl, by omega, Int.le_refl _, by show ((0 : Nat) : Int) + k ≤ k; omega⟩
    obtain ⟨s, rfl, hs⟩ := hQ
    refine ⟨(ByteArray.mk #[109]) ++ s, ?_⟩
    · simp only [laws_markText]
      rw [decide_eq_false h0, br_false, hz, Option.bind_some]
      have : (ByteArray.mk #[109]).size = 1 := rfl
      simp only []
      rw [ck_pos (by rw [this, i64_max]; omega)]
noncomputable def mtext (k : Int) : ByteArray := match laws_markText k with | some r => r.1.1 | none => ByteArray.empty
theorem mtext_eq {k : Int} (hk : k ≤ 100000000000000) : laws_markText k = some ((mtext k, ()), (), ()) := by
  obtain ⟨t, ht⟩ := markText_some hk
  unfold mtext
  rw [ht]
noncomputable def markT (k : Int) (n : Nat) : List ByteArray := (List.range n).map fun i : Nat => mtext (k + (i : Int))
theorem markT_length (k : Int) (n : Nat) : (markT k n).length = n := by simp [markT]
noncomputable def markTTo (l : List ByteArray) (k : Int) (i : Nat) : List ByteArray := markT k i ++ l.drop i
theorem markTTo_length (l : List ByteArray) (k : Int) {i : Nat} (h : i ≤ l.length) : (markTTo l k i).length = l.length := by simp [markTTo, markT_length]; omega
theorem markTTo_set (l : List ByteArray) (k : Int) {i : Nat} (h : i < l.length) : (markTTo l k i).set i (mtext (k + (i : Int))) = markTTo l k (i + 1) := map_range_set (fun i : Nat => mtext (k + (i : Int))) l h
theorem markStringS_eq {l : List ByteArray} {k : Int} (h0 : 0 ≤ k) (h1 : k ≤ 10000000000000) (hl : l.length ≤ 1048576) : laws_markStringS k l = some ((k + (l.length : Int), (), ()), (), (markT k l.length, ())) := by
  have h := loop_for (s := laws_markStringS_s0) (fun i => (((), k + (i : Int), (i : Int), ()), (), (markTTo l k i, ()))) l.length (((), k + (l.length : Int), ()), (), (markT k l.length, ())) (by
    intro i hi
    simp only [laws_markStringS_s0, Int.toNat_natCast, br_ite, markTTo_length l k (Nat.le_of_lt hi), mtext_eq (show k + (i : Int) ≤ 100000000000000 by omega), Option.bind_some, markTTo_set l k hi]
    rw [if_pos (by simpa using hi), ck_pos (by omega), ck_pos hi, ck_pos hi, w64_succ hi (big_len hl), w64_id (by omega) (by omega), show k + (i : Int) + 1 = k + ((i + 1 : Nat) : Int) by omega]) (by
    simp only [laws_markStringS_s0, br_ite, markTTo, List.drop_length, List.append_nil, markT_length]
    rw [if_neg (by simp)])
  have e : markTTo l k 0 = l := by simp [markTTo, markT]
  simp only [e, Int.natCast_zero, Int.add_zero] at h
  exact congrArg (fun o => Option.bind o fun r5 => some ((r5.1.2.1, (), ()), (), (r5.2.2.1, ()))) h
end Go.Tree
namespace Go.Tree
theorem keyR_le (text : ByteArray) : ∀ (k n : Nat) (m : Mach), n + k = text.size → (keyR text k n m).2 ≤ text.size
  | 0, n, m, h => by simp only [keyR]; omega
  | k + 1, n, m, h => by
    simp only [keyR]
    cases hs : keyStep m (byteAt text n) with
    | none => simp only; omega
    | some y => exact keyR_le text k (n + 1) y (by omega)
theorem keyM_le (m : Mach) (text : ByteArray) : (keyM m text).2 ≤ text.size := by
  unfold keyM
  split
  · exact keyR_le text _ _ _ (by omega)
  · show (-1 : Int) ≤ _; omega
def setStep (m : Mach) (x : ByteArray) : Option (Mach × ByteArray) :=
  if (keyM m x).2 < x.size then none
  else if castB (keyM m x).1 true = true then some ((dropM (castY (keyM m x).1 true) 240).1, castT (keyM m x).1 true) else none
def setR : List ByteArray → Mach → List ByteArray → Option (Mach × List ByteArray)
  | [], m, out => some (m, out)
  | x :: l, m, out => match setStep m x with
    | some p => setR l p.1 (out ++ [p.2])
    | none => none
theorem setR_small : ∀ (l : List ByteArray) (m : Mach) (out : List ByteArray) (y : Mach) (t : List ByteArray), m.Sm → setR l m out = some (y, t) → y.Sm ∧ t.length = out.length + l.length
  | [], m, out, y, t, h, e => by cases e; exact ⟨h, by simp⟩
  | x :: l, m, out, y, t, h, e => by
    simp only [setR] at e
    split at e
    · rename_i p hp
      have hs : p.1.Sm := by
        unfold setStep at hp
        split at hp
        · cases hp
        · split at hp
          · cases hp; exact dropM_sm (castY_sm _ _) _
          · cases hp
      obtain ⟨k1, k2⟩ := setR_small l p.1 _ y t hs e
      exact ⟨k1, by rw [k2]; simp; omega⟩
    · cases e
section
variable {lines : List ByteArray} (hl : lines.length ≤ 1048576) (hx : ∀ x ∈ lines, x.size ≤ 1048576) (zs : ByteArray) (ze za zb zc : Int)
include hl hx
theorem implSet_loop : ∀ (k i : Nat) (m : Mach) (out : List ByteArray), m.Sm → i + k = lines.length → out.length = i →
    (loopC impl_SetLines_s0 (((), (), (), lines, (lines.length : Int), (i : Int), ()), (m.top, (zs, (), (), (), ze, za, zb, zc, (), (), ()), ()), (out, m.ws, m.so, m.d, m.f, m.g, ()))).bind (fun r11 =>
      sumK r11 (fun y14 =>
      some (((y14.2.1.1.1, (), (), (), y14.2.1.1.2.2.2.2.1, y14.2.1.1.2.2.2.2.2.1, y14.2.1.1.2.2.2.2.2.2.1, y14.2.1.1.2.2.2.2.2.2.2.1, (), (), ()), (), y14.1.2.2.1, ()), (), ([], [], [], [], [], [], ()))) (fun y15 =>
      some (((y15.2.1.1.1, (), (), (), y15.2.1.1.2.2.2.2.1, y15.2.1.1.2.2.2.2.2.1, y15.2.1.1.2.2.2.2.2.2.1, y15.2.1.1.2.2.2.2.2.2.2.1, (), (), ()), (), true, ()), (), (y15.2.2.2.1, y15.2.2.2.2.1, y15.2.2.2.2.2.1, y15.2.2.2.2.2.2.1, y15.2.2.2.2.2.2.2.1, y15.2.2.1, ())))) =
    some (match setR (lines.drop i) m out with
      | some (y, t) => ((y.top, (), true, ()), (), (y.ws, y.so, y.d, y.f, y.g, t, ()))
      | none => ((Mach.no.top, (), false, ()), (), ([], [], [], [], [], [], ())))
  | 0, i, m, out, h, hk, ho => by
    have e : i = lines.length := by omega
    subst e
    rw [loop_out (z := .inr (((), (), (), ()), (m.top, (zs, (), (), (), ze, za, zb, zc, (), (), ()), ()), (out, m.ws, m.so, m.d, m.f, m.g, ())))]
    · rw [List.drop_length]; rfl
    · simp only [impl_SetLines_s0, br_ite]
      rw [if_neg (by simp)]
  | k + 1, i, m, out, h, hk, ho => by
    have hi : i < lines.length := by omega
    have hlt : (i : Int) < (lines.length : Int) := by omega
    have hdr : lines.drop i = lines[i] :: lines.drop (i + 1) := List.drop_eq_getElem_cons hi
    have hge : lines.getD i ByteArray.empty = lines[i] := getD_of_lt hi
    have hsz := hx _ (List.getElem_mem hi)
    have hsm : ∀ x : ByteArray, (out.length + [x].length) * 16 ≤ 140737488355328 ∧ (out.length + [x].length) ≤ 9223372036854775807 := fun x => by rw [List.length_singleton]; omega
    have I1 := implKeyM_eq h hsz
    have s1 := keyM_sm (m := m) lines[i]
    have I2 := implCast_eq s1 true
    have s2 := castY_sm (keyM m lines[i]).1 true
    have I3 := implDropM_eq s2 240
    rw [castY_f] at I3
    have hle := keyM_le m lines[i]
    rw [hdr]
    simp only [setR, setStep]
    by_cases hn : (keyM m lines[i]).2 < lines[i].size
    · rw [if_pos hn, loop_out (z := .inl (((), (), false, ()), (Mach.no.top, ()), ()))]
      · rfl
      · simp only [impl_SetLines_s0, br_ite, Int.toNat_natCast, hge, I1, Option.bind_some]
        rw [if_pos (by simpa using hlt), ck_pos (by omega), ck_pos hi, if_pos (by simp; omega)]
        rfl
    · rw [if_neg hn]
      by_cases hb : castB (keyM m lines[i]).1 true = true
      · rw [if_pos hb]
        have ih := implSet_loop k (i + 1) (dropM (castY (keyM m lines[i]).1 true) 240).1 (out ++ [castT (keyM m lines[i]).1 true]) (dropM_sm s2 _) (by omega) (by simp; omega)
        simp only []
        rw [← ih, loop_step]
        simp only [impl_SetLines_s0, br_ite, Int.toNat_natCast, hge, I1, I2, I3, Option.bind_some, hb]
        rw [if_pos (by simpa using hlt), ck_pos (by omega), ck_pos hi, if_neg (by simp; omega), if_neg (by simp), ck_pos (hsm _), w64_succ hi (by unfold maxLen; omega)]
      · rw [if_neg hb, loop_out (z := .inl (((), (), false, ()), (Mach.no.top, ()), ()))]
        · rfl
        · simp only [impl_SetLines_s0, br_ite, Int.toNat_natCast, hge, I1, I2, Option.bind_some, Bool.eq_false_iff.2 hb]
          rw [if_pos (by simpa using hlt), ck_pos (by omega), ck_pos hi, if_neg (by simp; omega), if_pos (by simp)]
          rfl
theorem specSet_loop : ∀ (k i : Nat) (m : Mach) (out : List ByteArray), m.Sm → i + k = lines.length → out.length = i →
    (loopC spec_SetLines_s0 (((), (), (), lines, (lines.length : Int), (i : Int), ()), (m.top, (zs, (), (), (), ze, za, zb, zc, (), (), ()), ()), (out, m.ws, m.so, m.d, m.f, m.g, ()))).bind (fun r11 =>
      sumK r11 (fun y14 =>
      some (((y14.2.1.1.1, (), (), (), y14.2.1.1.2.2.2.2.1, y14.2.1.1.2.2.2.2.2.1, y14.2.1.1.2.2.2.2.2.2.1, y14.2.1.1.2.2.2.2.2.2.2.1, (), (), ()), (), y14.1.2.2.1, ()), (), ([], [], [], [], [], [], ()))) (fun y15 =>
      some (((y15.2.1.1.1, (), (), (), y15.2.1.1.2.2.2.2.1, y15.2.1.1.2.2.2.2.2.1, y15.2.1.1.2.2.2.2.2.2.1, y15.2.1.1.2.2.2.2.2.2.2.1, (), (), ()), (), true, ()), (), (y15.2.2.2.1, y15.2.2.2.2.1, y15.2.2.2.2.2.1, y15.2.2.2.2.2.2.1, y15.2.2.2.2.2.2.2.1, y15.2.2.1, ())))) =
    some (match setR (lines.drop i) m out with
      | some (y, t) => ((y.top, (), true, ()), (), (y.ws, y.so, y.d, y.f, y.g, t, ()))
      | none => ((Mach.no.top, (), false, ()), (), ([], [], [], [], [], [], ())))
  | 0, i, m, out, h, hk, ho => by
    have e : i = lines.length := by omega
    subst e
    rw [loop_out (z := .inr (((), (), (), ()), (m.top, (zs, (), (), (), ze, za, zb, zc, (), (), ()), ()), (out, m.ws, m.so, m.d, m.f, m.g, ())))]
    · rw [List.drop_length]; rfl
    · simp only [spec_SetLines_s0, br_ite]
      rw [if_neg (by simp)]
  | k + 1, i, m, out, h, hk, ho => by
    have hi : i < lines.length := by omega
    have hlt : (i : Int) < (lines.length : Int) := by omega
    have hdr : lines.drop i = lines[i] :: lines.drop (i + 1) := List.drop_eq_getElem_cons hi
    have hge : lines.getD i ByteArray.empty = lines[i] := getD_of_lt hi
    have hsz := hx _ (List.getElem_mem hi)
    have hsm : ∀ x : ByteArray, (out.length + [x].length) * 16 ≤ 140737488355328 ∧ (out.length + [x].length) ≤ 9223372036854775807 := fun x => by rw [List.length_singleton]; omega
    have I1 := specKeyM_eq h hsz
    have s1 := keyM_sm (m := m) lines[i]
    have I2 := specCast_eq s1 true
    have s2 := castY_sm (keyM m lines[i]).1 true
    have I3 := specDropM_eq s2 240
    rw [castY_f] at I3
    have hle := keyM_le m lines[i]
    rw [hdr]
    simp only [setR, setStep]
    by_cases hn : (keyM m lines[i]).2 < lines[i].size
    · rw [if_pos hn, loop_out (z := .inl (((), (), false, ()), (Mach.no.top, ()), ()))]
      · rfl
      · simp only [spec_SetLines_s0, br_ite, Int.toNat_natCast, hge, I1, I2, Option.bind_some]
        rw [if_pos (by simpa using hlt), ck_pos (by omega), ck_pos hi, if_pos (by simp; omega)]
        rfl
    · rw [if_neg hn]
      by_cases hb : castB (keyM m lines[i]).1 true = true
      · rw [if_pos hb]
        have ih := specSet_loop k (i + 1) (dropM (castY (keyM m lines[i]).1 true) 240).1 (out ++ [castT (keyM m lines[i]).1 true]) (dropM_sm s2 _) (by omega) (by simp; omega)
        simp only []
        rw [← ih, loop_step]
        simp only [spec_SetLines_s0, br_ite, Int.toNat_natCast, hge, I1, I2, I3, Option.bind_some, hb]
        rw [if_pos (by simpa using hlt), ck_pos (by omega), ck_pos hi, if_neg (by simp; omega), if_neg (by simp), ck_pos (hsm _), w64_succ hi (by unfold maxLen; omega)]
      · rw [if_neg hb, loop_out (z := .inl (((), (), false, ()), (Mach.no.top, ()), ()))]
        · rfl
        · simp only [spec_SetLines_s0, br_ite, Int.toNat_natCast, hge, I1, I2, Option.bind_some, Bool.eq_false_iff.2 hb]
          rw [if_pos (by simpa using hlt), ck_pos (by omega), ck_pos hi, if_neg (by simp; omega), if_pos (by simp)]
          rfl
end
def setQ (m : Mach) (lines : List ByteArray) : Option (Mach × List ByteArray) := if m.ok = true then setR lines m [] else none
def setY (m : Mach) (lines : List ByteArray) : Mach := match setQ m lines with | some p => p.1 | none => Mach.no
def setT (m : Mach) (lines : List ByteArray) : List ByteArray := match setQ m lines with | some p => p.2 | none => []
def setB2 (m : Mach) (lines : List ByteArray) : Bool := (setQ m lines).isSome
section
variable {m : Mach} (h : m.Sm) {lines : List ByteArray} (hl : lines.length ≤ 1048576) (hx : ∀ x ∈ lines, x.size ≤ 1048576)
include h hl hx
theorem specSet_eq : spec_SetLines m.s m.ws m.so m.d m.e m.a m.b m.c m.f m.g lines = some (((setY m lines).top, (), setB2 m lines, ()), (), ((setY m lines).ws, (setY m lines).so, (setY m lines).d, (setY m lines).f, (setY m lines).g, setT m lines, ())) := by
  simp only [spec_SetLines, specOk_eq h, l5Copy_eq h, Option.bind_some]
  unfold setY setT setB2 setQ
  by_cases hm : m.ok = true
  · have L := specSet_loop hl hx ByteArray.empty 0 0 0 0 lines.length 0 m [] h (by omega) rfl
    simp only [Int.natCast_zero, List.drop_zero] at L
    simp only [if_pos hm]
    rw [hm, Bool.not_true, br_false]
    refine L.trans ?_
    cases setR lines m [] <;> rfl
  · simp only [if_neg hm]
    rw [Bool.eq_false_iff.2 hm]; rfl
theorem implSet_eq : impl_SetLines m.s m.ws m.so m.d m.e m.a m.b m.c m.f m.g lines = some (((setY m lines).top, (), setB2 m lines, ()), (), ((setY m lines).ws, (setY m lines).so, (setY m lines).d, (setY m lines).f, (setY m lines).g, setT m lines, ())) := by
  simp only [impl_SetLines, implOk_eq h, copyM_eq h, Option.bind_some]
  unfold setY setT setB2 setQ
  by_cases hm : m.ok = true
  · have L := implSet_loop hl hx ByteArray.empty 0 0 0 0 lines.length 0 m [] h (by omega) rfl
    simp only [Int.natCast_zero, List.drop_zero] at L
    simp only [if_pos hm]
    rw [hm, Bool.not_true, br_false]
    refine L.trans ?_
    cases setR lines m [] <;> rfl
  · simp only [if_neg hm]
    rw [Bool.eq_false_iff.2 hm]; rfl
end
end Go.Tree
namespace Go.Tree
def runF {A : Type} (f : Nat → A → Option A) : Nat → Nat → A → Option A
  | i, 0, a => some a
  | i, k + 1, a => (f i a).bind (runF f (i + 1) k)
theorem loop_run {A X Z : Type} {s : X → Option (X ⊕ Z)} (st : Nat → A → X) (n : Nat) (f : Nat → A → Option A) (I : Nat → A → Prop) (fail : Z) (out : A → Z)
    (hs : ∀ i a, i < n → I i a → s (st i a) = some (match f i a with | some b => .inl (st (i + 1) b) | none => .inr fail) ∧ ∀ b, f i a = some b → I (i + 1) b)
    (hd : ∀ a, I n a → s (st n a) = some (.inr (out a))) : ∀ (k i : Nat) (a : A), i + k = n → I i a →
    loopC s (st i a) = some (match runF f i k a with | some b => out b | none => fail) ∧ ∀ b, runF f i k a = some b → I n b
  | 0, i, a, e, h => by
    have : i = n := by omega
    subst this
    refine ⟨?_, fun b hb => ?_⟩
    · rw [loop_out (hd a h)]; rfl
    · cases hb; exact h
  | k + 1, i, a, e, h => by
    obtain ⟨h1, h2⟩ := hs i a (by omega) h
    simp only [runF]
    cases hf : f i a with
    | none => rw [hf] at h1; exact ⟨loop_out h1, fun b hb => by cases hb⟩
    | some c =>
      rw [hf] at h1
      rw [loop_step h1]
      exact loop_run st n f I fail out hs hd k (i + 1) c (by omega) (h2 c hf)
end Go.Tree
namespace Go.Tree
open Go
def wB (l : List UInt8) : List ByteArray := (wordsL l).map fun l => ⟨l.toArray⟩
theorem wB_cut {c r : List UInt8} (h : ∀ b ∈ c, b ≠ 32) : wB (c ++ 32 :: r) = (if c = [] then [] else [⟨c.toArray⟩]) ++ wB r := by
  unfold wB wordsL
  rw [pcs_cut c r h, List.filter_cons]
  cases c <;> simp
theorem wB_last {c : List UInt8} (h : ∀ b ∈ c, b ≠ 32) : wB c = if c = [] then [] else [⟨c.toArray⟩] := by
  unfold wB wordsL
  rw [pcs_last c h]
  cases c <;> simp
theorem byte_eq (s : ByteArray) {i : Nat} (h : i < s.size) : ∃ b : UInt8, s.data.toList[i]? = some b ∧ byteAt s i = (b.toNat : Int) := by
  have hl : i < s.data.toList.length := by simpa using h
  refine ⟨s.data.toList[i], List.getElem?_eq_getElem hl, ?_⟩
  unfold byteAt
  rw [List.getD_eq_getElem?_getD, List.getElem?_eq_getElem hl]
  rfl
theorem extract_mk (s : ByteArray) (i j : Nat) : s.extract i j = ⟨((s.data.toList.drop i).take (j - i)).toArray⟩ := by
  apply ByteArray.ext
  apply Array.ext'
  rw [Lib.extract_data]
theorem specWords_go (a : ByteArray) (ha : a.size ≤ 4194304) : ∀ (n from' i : Nat) (out : List ByteArray), i + n = a.size → from' ≤ i → (∀ b ∈ (a.data.toList.drop from').take (i - from'), b ≠ 32) → out.length ≤ from' →
    loopC spec_l6Words_s0 ((a, (), (from' : Int), (i : Int), ()), (), (out, ())) = some (((), ()), (), (out ++ wB (a.data.toList.drop from'), ())) := by
  have hsz : a.data.toList.length = a.size := by simp
  intro n
  induction n with
  | zero =>
    intro f i out hi hf hc ho
    have hi : i = a.size := by omega
    have hw : w64 ((i : Int) + 1) = ((i + 1 : Nat) : Int) := by rw [w64_id (by omega) (by omega)]; omega
    have htk : (a.data.toList.drop f).take (i - f) = a.data.toList.drop f := List.take_of_length_le (by rw [List.length_drop]; omega)
    rw [htk] at hc
    have last : ∀ o : List ByteArray, loopC spec_l6Words_s0 ((a, (), ((i + 1 : Nat) : Int), ((i + 1 : Nat) : Int), ()), (), (o, ())) = some (((), ()), (), (o, ())) := fun o => loop_out (by
      simp only [spec_l6Words_s0]
      rw [decide_eq_false (by omega), br_false])
    by_cases h : i > f
    · rw [loop_step (y := ((a, (), ((i + 1 : Nat) : Int), ((i + 1 : Nat) : Int), ()), (), (out ++ [a.extract f i], ()))) (by
        simp only [spec_l6Words_s0, Int.toNat_natCast, hw]
        rw [decide_eq_true (by omega), br_true, decide_eq_false (by omega), br_false, decide_eq_true (by omega), br_true, ck_pos (by omega), ck_pos (by omega), ck_pos ⟨by omega, by omega⟩, ck_pos (by simp; omega)]), last, wB_last hc, if_neg (by
          intro e; have := congrArg List.length e; rw [List.length_drop, List.length_nil] at this; omega), extract_mk, htk]
    · have hnil : a.data.toList.drop f = [] := List.drop_of_length_le (by omega)
      rw [loop_step (y := ((a, (), ((i + 1 : Nat) : Int), ((i + 1 : Nat) : Int), ()), (), (out, ()))) (by
        simp only [spec_l6Words_s0, Int.toNat_natCast, hw]
        rw [decide_eq_true (by omega), br_true, decide_eq_false (by omega), br_false, decide_eq_false (by omega), br_false]), last, wB_last hc, if_pos hnil, List.append_nil]
  | succ n ih =>
    intro f i out hi hf hc ho
    have hlt : i < a.size := by omega
    obtain ⟨b, hb, hbyte⟩ := byte_eq a hlt
    have hw : w64 ((i : Int) + 1) = ((i + 1 : Nat) : Int) := by rw [w64_id (by omega) (by omega)]; omega
    have hsplit : a.data.toList.drop f = (a.data.toList.drop f).take (i - f) ++ b :: a.data.toList.drop (i + 1) := by
      conv => lhs; rw [← List.take_append_drop (i - f) (a.data.toList.drop f)]
      rw [List.drop_drop, show f + (i - f) = i from by omega]
      congr 1
      have hl : i < a.data.toList.length := by omega
      rw [List.drop_eq_getElem_cons hl]
      rw [List.getElem?_eq_getElem hl] at hb
      rw [Option.some.inj hb]
    by_cases h32 : b = 32
    · have hne : (byteAt a i != 32) = false := by rw [hbyte, h32]; rfl
      subst h32
      by_cases h : i > f
      · rw [loop_step (y := ((a, (), ((i + 1 : Nat) : Int), ((i + 1 : Nat) : Int), ()), (), (out ++ [a.extract f i], ()))) (by
          simp only [spec_l6Words_s0, Int.toNat_natCast, hw, hne]
          rw [decide_eq_true (by omega), br_true, decide_eq_true (by omega), br_true, ck_pos ⟨by omega, hlt⟩, br_false, decide_eq_true (by omega), br_true, ck_pos (by omega), ck_pos (by omega), ck_pos ⟨by omega, by omega⟩, ck_pos (by simp; omega)]),
          ih (i + 1) (i + 1) _ (by omega) (Nat.le_refl _) (by simp) (by simp; omega), hsplit, wB_cut hc, if_neg (by
            intro e; have := congrArg List.length e; rw [List.length_take, List.length_drop, List.length_nil] at this; omega), extract_mk, List.append_assoc]
      · have hnil : (a.data.toList.drop f).take (i - f) = [] := by rw [show i - f = 0 from by omega]; rfl
        rw [loop_step (y := ((a, (), ((i + 1 : Nat) : Int), ((i + 1 : Nat) : Int), ()), (), (out, ()))) (by
          simp only [spec_l6Words_s0, Int.toNat_natCast, hw, hne]
          rw [decide_eq_true (by omega), br_true, decide_eq_true (by omega), br_true, ck_pos ⟨by omega, hlt⟩, br_false, decide_eq_false (by omega), br_false]),
          ih (i + 1) (i + 1) _ (by omega) (Nat.le_refl _) (by simp) (by omega), hsplit, wB_cut hc, if_pos hnil, List.nil_append]
    · have hne : (byteAt a i != 32) = true := by
        rw [hbyte, bne_iff_ne]
        intro e
        apply h32
        apply UInt8.toNat_inj.1
        have : b.toNat = 32 := by omega
        rw [this]; rfl
      rw [loop_step (y := ((a, (), (f : Int), ((i + 1 : Nat) : Int), ()), (), (out, ()))) (by
        simp only [spec_l6Words_s0, Int.toNat_natCast, hw, hne]
        rw [decide_eq_true (by omega), br_true, decide_eq_true (by omega), br_true, ck_pos ⟨by omega, hlt⟩, br_true])]
      refine ih f (i + 1) out (by omega) (by omega) (fun x hx => ?_) ho
      rw [hsplit, show i + 1 - f = (i - f) + 1 from by omega, List.take_append, List.take_of_length_le (by rw [List.length_take]; omega)] at hx
      rcases List.mem_append.1 hx with hx | hx
      · exact hc x hx
      · rw [List.length_take, List.length_drop, show i - f + 1 - min (i - f) (a.data.toList.length - f) = 1 from by omega] at hx
        have : x = b := by simpa using hx
        rw [this]; exact h32
theorem specWords_eq {a : ByteArray} (ha : a.size ≤ 4194304) : spec_l6Words a = some (((), ()), (), (wordsB a, ())) := by
  have h := specWords_go a ha a.size 0 0 [] (by omega) (Nat.le_refl _) (by simp) (Nat.le_refl _)
  exact congrArg (fun o => Option.bind o fun r16 => some (((), ()), (), (r16.2.2.1, ()))) h
theorem implWords_eq {a : ByteArray} (ha : a.size ≤ 4194304) : impl_wordsOf a = some (((), ()), (), (wordsB a, ())) := by
  unfold impl_wordsOf wordsF
  rw [if_pos (by omega)]
def lettF (s : ByteArray) (ws : List Int) (w : ByteArray) (i : Nat) (acc : Int) : Option Int :=
  if keyIdx s (byteAt w i) < 0 then none else if acc + ws.getD (keyIdx s (byteAt w i)).toNat 0 > 2000 then none else some (acc + ws.getD (keyIdx s (byteAt w i)).toNat 0)
def widW (s : ByteArray) (ws : List Int) (w : ByteArray) : Option Int := runF (lettF s ws w) 0 w.size 0
def wordF (s : ByteArray) (ws : List Int) (words : List ByteArray) (i : Nat) (out : List Int) : Option (List Int) := (widW s ws (words.getD i .empty)).map fun x => out ++ [x]
def widsW (s : ByteArray) (ws : List Int) (words : List ByteArray) : Option (List Int) := runF (wordF s ws words) 0 words.length []
theorem widsW_len (s : ByteArray) (ws : List Int) (words : List ByteArray) : ∀ (k i : Nat) (o : List Int) {r}, runF (wordF s ws words) i k o = some r → r.length = o.length + k
  | 0, i, o, r, h => by cases h; rfl
  | k + 1, i, o, r, h => by
    simp only [runF, wordF, Option.bind_eq_some_iff, Option.map_eq_some_iff] at h
    obtain ⟨o', ⟨x, _, rfl⟩, h2⟩ := h
    have := widsW_len s ws words k (i + 1) _ h2
    simp at this
    omega
section
variable {s : ByteArray} {ws so : List Int} (hs : s.size ≤ 1048576) (hw : ws.length ≤ 1048576) (ho : so.length ≤ 1048576) (hf : fontOk s ws so = true)
include hs hw ho hf
theorem letter_step {acc : Int} (h0 : 0 ≤ acc ∧ acc ≤ 2000) (w : ByteArray) (i : Nat) :
    (keyIdx s (byteAt w i) < 0 ∨ (0 ≤ keyIdx s (byteAt w i) ∧ (keyIdx s (byteAt w i)).toNat < ws.length ∧ w64 (acc + ws.getD (keyIdx s (byteAt w i)).toNat 0) = acc + ws.getD (keyIdx s (byteAt w i)).toNat 0)) ∧
      ∀ b, lettF s ws w i acc = some b → 0 ≤ b ∧ b ≤ 2000 := by
  obtain ⟨l1, l2, l3⟩ := fontOk_len hf
  have key : keyIdx s (byteAt w i) < 0 ∨ (0 ≤ keyIdx s (byteAt w i) ∧ (keyIdx s (byteAt w i)).toNat < ws.length ∧ 1 ≤ ws.getD (keyIdx s (byteAt w i)).toNat 0 ∧ ws.getD (keyIdx s (byteAt w i)).toNat 0 ≤ 60) := by
    rcases keyIdx_cases s (byteAt w i) with h | ⟨h1, h2, _⟩
    · left; omega
    · right
      have hlt : (keyIdx s (byteAt w i)).toNat < ws.length := by omega
      exact ⟨h1, hlt, l3 _ (getD_mem hlt)⟩
  refine ⟨?_, fun b hb => ?_⟩
  · rcases key with h | ⟨h1, h2, h3, h4⟩
    · exact .inl h
    · exact .inr ⟨h1, h2, w64_id (by omega) (by omega)⟩
  · unfold lettF at hb
    rcases key with h | ⟨h1, h2, h3, h4⟩
    · rw [if_pos h] at hb; cases hb
    · rw [if_neg (by omega)] at hb
      split at hb
      · cases hb
      · cases hb; omega
theorem specWord_loop (w : ByteArray) (hww : w.size ≤ 4194304) (o : List Int) (L : List ByteArray) (u v : Int) :
    loopC spec_WordWidths_s2 (((), (), w, (0 : Int), (0 : Int), (), u, v, ()), ((s, ws, so, ()), ()), (o, L, ())) =
      some (match widW s ws w with | some x => .inr ((((), (), x, (), u, v, ()), ((s, ws, so, ()), ()), (o, L, ()))) | none => .inl (((), false, ()), (), ())) ∧ ∀ x, widW s ws w = some x → 0 ≤ x ∧ x ≤ 2000 := by
  have h := loop_run (s := spec_WordWidths_s2) (fun i acc => (((), (), w, acc, (i : Int), (), u, v, ()), ((s, ws, so, ()), ()), (o, L, ()))) w.size (lettF s ws w) (fun _ acc => 0 ≤ acc ∧ acc ≤ 2000) (.inl (((), false, ()), (), ()))
    (fun x => .inr ((((), (), x, (), u, v, ()), ((s, ws, so, ()), ()), (o, L, ())))) (fun i acc hi hI => by
      obtain ⟨h1, h2⟩ := letter_step hs hw ho hf hI w i
      refine ⟨?_, h2⟩
      simp only [spec_WordWidths_s2, Int.toNat_natCast, byte_w64, specKeyOf_eq hs hw ho, hf, if_true, Option.bind_some, lettF]
      rw [decide_eq_true (by omega), br_true, ck_pos ⟨by omega, hi⟩]
      rcases h1 with h1 | ⟨h1, h3, h4⟩
      · rw [decide_eq_true h1, br_true, if_pos h1]
      · rw [decide_eq_false (by omega), br_false, ck_pos h1, ck_pos h3, h4, if_neg (by omega)]
        by_cases h5 : acc + ws.getD (keyIdx s (byteAt w i)).toNat 0 > 2000
        · rw [decide_eq_true h5, br_true, if_pos h5]
        · rw [decide_eq_false h5, br_false, if_neg h5, w64_succ hi (by unfold maxLen; omega)]) (fun acc _ => by
      simp only [spec_WordWidths_s2]
      rw [decide_eq_false (by omega), br_false]) w.size 0 0 (by omega) ⟨by omega, by omega⟩
  refine ⟨h.1.trans ?_, h.2⟩
  unfold widW
  cases runF (lettF s ws w) 0 w.size 0 <;> rfl
theorem implWord_eq (w : ByteArray) (hww : w.size ≤ 4194304) :
    impl_wordWidth s ws so w = some (((match widW s ws w with | some x => x | none => 0), (widW s ws w).isSome, ()), (), ()) := by
  have h := loop_run (s := impl_wordWidth_s0) (fun i acc => ((w, (), acc, (w.size : Int), (i : Int), ()), ((s, ws, so, ()), ()), ())) w.size (lettF s ws w) (fun _ acc => 0 ≤ acc ∧ acc ≤ 2000) (.inl (((0 : Int), false, ()), (), ()))
    (fun x => .inr ((x, ()), (), ())) (fun i acc hi hI => by
      obtain ⟨h1, h2⟩ := letter_step hs hw ho hf hI w i
      refine ⟨?_, h2⟩
      simp only [impl_wordWidth_s0, Int.toNat_natCast, byte_w64, implKey_eq hs, Option.bind_some, lettF]
      rw [decide_eq_true (by omega), br_true, ck_pos ⟨by omega, hi⟩]
      rcases h1 with h1 | ⟨h1, h3, h4⟩
      · rw [decide_eq_true h1, br_true, if_pos h1]
      · rw [decide_eq_false (by omega), br_false, ck_pos h1, ck_pos h3, h4, if_neg (by omega)]
        by_cases h5 : acc + ws.getD (keyIdx s (byteAt w i)).toNat 0 > 2000
        · rw [decide_eq_true h5, br_true, if_pos h5]
        · rw [decide_eq_false h5, br_false, if_neg h5, w64_succ hi (by unfold maxLen; omega)]) (fun acc _ => by
      simp only [impl_wordWidth_s0]
      rw [decide_eq_false (by omega), br_false]) w.size 0 0 (by omega) ⟨by omega, by omega⟩
  have h1 := h.1
  unfold impl_wordWidth
  have e : widW s ws w = runF (lettF s ws w) 0 w.size 0 := rfl
  rw [e]
  have h1 : loopC impl_wordWidth_s0 ((w, (), (0 : Int), (w.size : Int), (0 : Int), ()), ((s, ws, so, ()), ()), ()) = _ := h1
  rw [h1, Option.bind_some]
  cases runF (lettF s ws w) 0 w.size 0 <;> rfl
theorem specWids_loop (L : List ByteArray) (hL : L.length ≤ 1048576) (hL' : ∀ w ∈ L, w.size ≤ 4194304) :
    loopC spec_WordWidths_s0 (((), (), (), (L.length : Int), (0 : Int), ()), ((s, ws, so, ()), ()), ([], L, ())) = some (match widsW s ws L with | some o => .inr (((), ()), (), (o, ())) | none => .inl (((), false, ()), (), ())) := by
  have h := loop_run (s := spec_WordWidths_s0) (fun i o => (((), (), (), (L.length : Int), (i : Int), ()), ((s, ws, so, ()), ()), (o, L, ()))) L.length (wordF s ws L) (fun i o => o.length = i) (.inl (((), false, ()), (), ()))
    (fun o => .inr (((), ()), (), (o, ()))) (fun i o hi hI => by
      have hsz : (L.getD i .empty).size ≤ 4194304 := hL' _ (getD_mem hi)
      obtain ⟨g1, g2⟩ := specWord_loop hs hw ho hf (L.getD i .empty) hsz o L (L.length : Int) (i : Int)
      refine ⟨?_, fun b hb => ?_⟩
      · simp only [spec_WordWidths_s0, Int.toNat_natCast, g1, Option.bind_some, wordF]
        rw [decide_eq_true (by omega), br_true, ck_pos (by omega), ck_pos hi, ck_pos hi]
        cases widW s ws (L.getD i .empty) with
        | none => rfl
        | some x =>
          simp only [sumK_inr, Option.map_some, w64_succ hi (big_len hL)]
          rw [ck_pos (by simp; omega)]
      · simp only [wordF, Option.map_eq_some_iff] at hb
        obtain ⟨x, _, rfl⟩ := hb
        simp [hI]) (fun o _ => by
      simp only [spec_WordWidths_s0]
      rw [decide_eq_false (by omega), br_false]) L.length 0 [] (by omega) rfl
  refine h.1.trans ?_
  unfold widsW
  cases runF (wordF s ws L) 0 L.length [] <;> rfl
theorem implWids_loop (L : List ByteArray) (hL : L.length ≤ 1048576) (hL' : ∀ w ∈ L, w.size ≤ 4194304) :
    loopC impl_WordWidths_s0 (((), (), (), (L.length : Int), (0 : Int), ()), ((s, ws, so, ()), ()), ([], L, ())) = some (match widsW s ws L with | some o => .inr (((), ()), (), (o, ())) | none => .inl (((), false, ()), (), ())) := by
  have h := loop_run (s := impl_WordWidths_s0) (fun i o => (((), (), (), (L.length : Int), (i : Int), ()), ((s, ws, so, ()), ()), (o, L, ()))) L.length (wordF s ws L) (fun i o => o.length = i) (.inl (((), false, ()), (), ()))
    (fun o => .inr (((), ()), (), (o, ()))) (fun i o hi hI => by
      have hsz : (L.getD i .empty).size ≤ 4194304 := hL' _ (getD_mem hi)
      have g1 := implWord_eq hs hw ho hf (L.getD i .empty) hsz
      refine ⟨?_, fun b hb => ?_⟩
      · simp only [impl_WordWidths_s0, Int.toNat_natCast, g1, Option.bind_some, wordF]
        rw [decide_eq_true (by omega), br_true, ck_pos (by omega), ck_pos hi, ck_pos hi]
        cases widW s ws (L.getD i .empty) with
        | none => rfl
        | some x =>
          simp only [Option.isSome_some, Bool.not_true, br_false, Option.map_some, w64_succ hi (big_len hL)]
          rw [ck_pos (by simp; omega)]
      · simp only [wordF, Option.map_eq_some_iff] at hb
        obtain ⟨x, _, rfl⟩ := hb
        simp [hI]) (fun o _ => by
      simp only [impl_WordWidths_s0]
      rw [decide_eq_false (by omega), br_false]) L.length 0 [] (by omega) rfl
  refine h.1.trans ?_
  unfold widsW
  cases runF (wordF s ws L) 0 L.length [] <;> rfl
end
theorem pcs_length : ∀ l : List UInt8, (pcs l).length ≤ l.length + 1
  | [] => by simp [pcs]
  | b :: l => by
    have := pcs_length l
    unfold pcs
    split
    · simp; omega
    · split <;> simp_all <;> omega
theorem pcs_mem : ∀ (l p : List UInt8), p ∈ pcs l → p.length ≤ l.length
  | [], p, h => by simp [pcs] at h; simp [h]
  | b :: l, p, h => by
    unfold pcs at h
    split at h
    · rcases List.mem_cons.1 h with rfl | h
      · simp
      · have := pcs_mem l p h; simp; omega
    · split at h
      · rename_i e; exact absurd e (pcs_ne l)
      · rename_i q r e
        rcases List.mem_cons.1 h with rfl | h
        · have := pcs_mem l q (by rw [e]; simp)
          simp; omega
        · have := pcs_mem l p (by rw [e]; exact List.mem_cons_of_mem _ h)
          simp; omega
theorem wordsB_small {a : ByteArray} (ha : a.size ≤ 1048576) : (wordsB a).length ≤ 1048577 ∧ ∀ w ∈ wordsB a, w.size ≤ 1048576 := by
  have hsz : a.data.toList.length = a.size := by simp
  constructor
  · unfold wordsB wordsL
    rw [List.length_map]
    exact Nat.le_trans (List.length_filter_le _ _) (Nat.le_trans (pcs_length _) (by omega))
  · intro w hw
    unfold wordsB wordsL at hw
    obtain ⟨p, hp, rfl⟩ := List.mem_map.1 hw
    have := pcs_mem _ p (List.mem_filter.1 hp).1
    show p.length ≤ _
    omega
def wwB (s : ByteArray) (ws so : List Int) (t : ByteArray) : Option (List Int) := if (fontOk s ws so && inB (wordsB t).length 1 40) = true then widsW s ws (wordsB t) else none
section
variable {s : ByteArray} {ws so : List Int} (hs : s.size ≤ 1048576) (hw : ws.length ≤ 1048576) (ho : so.length ≤ 1048576)
include hs hw ho
theorem specWW_eq {t : ByteArray} (ht : t.size ≤ 1048576) : spec_WordWidths s ws so t = some (((), (wwB s ws so t).isSome, ()), (), ((wwB s ws so t).getD [], ())) := by
  obtain ⟨k1, k2⟩ := wordsB_small ht
  unfold spec_WordWidths wwB
  rw [specWords_eq (by omega), Option.bind_some, specFontOk_eq hs hw ho, Option.bind_some]
  generalize wordsB t = L at *
  by_cases hf : fontOk s ws so = true
  · rw [hf]
    by_cases hn : inB (L.length : Int) 1 40 = true
    · have hn' : 1 ≤ (L.length : Int) ∧ (L.length : Int) ≤ 40 := by simpa [inB] using hn
      simp only [Bool.not_true, br_false, l1In_eq, hn, Option.bind_some, Bool.and_self, if_true]
      rw [specWids_loop hs hw ho hf L (by omega) (fun w h => by have := k2 w h; omega), Option.bind_some]
      cases widsW s ws L <;> rfl
    · simp only [Bool.not_true, br_false, l1In_eq, Bool.eq_false_iff.2 hn, Option.bind_some, Bool.and_false, Bool.false_eq_true, if_false, Bool.not_false, br_true, Option.isSome_none, Option.getD_none]
  · simp only [Bool.eq_false_iff.2 hf, Bool.not_false, br_true, Bool.false_and, Bool.false_eq_true, if_false, Option.isSome_none, Option.getD_none]
theorem implWW_eq {t : ByteArray} (ht : t.size ≤ 1048576) : impl_WordWidths s ws so t = some (((), (wwB s ws so t).isSome, ()), (), ((wwB s ws so t).getD [], ())) := by
  obtain ⟨k1, k2⟩ := wordsB_small ht
  unfold impl_WordWidths wwB
  rw [implFontOk_eq hs hw ho, Option.bind_some, implWords_eq (by omega)]
  generalize wordsB t = L at *
  by_cases hf : fontOk s ws so = true
  · rw [hf]
    simp only [Bool.not_true, br_false, Option.bind_some, Bool.true_and]
    by_cases hn : 1 ≤ (L.length : Int) ∧ (L.length : Int) ≤ 40
    · have hb : inB (L.length : Int) 1 40 = true := by simpa [inB] using hn
      rw [decide_eq_false (by omega), br_false, decide_eq_false (by omega), br_false, hb]
      simp only [if_true]
      rw [implWids_loop hs hw ho hf L (by omega) (fun w h => by have := k2 w h; omega), Option.bind_some]
      cases widsW s ws L <;> rfl
    · have hb : inB (L.length : Int) 1 40 = false := by unfold inB; exact decide_eq_false hn
      rw [hb]
      by_cases h1 : (L.length : Int) < 1
      · rw [decide_eq_true h1, br_true]; rfl
      · rw [decide_eq_false h1, br_false, decide_eq_true (by omega), br_true]; rfl
  · simp only [Bool.eq_false_iff.2 hf, Bool.not_false, br_true, Bool.false_and, Bool.false_eq_true, if_false, Option.isSome_none, Option.getD_none]
end
theorem wwB_len {s : ByteArray} {ws so : List Int} {t : ByteArray} {r : List Int} (h : wwB s ws so t = some r) : r.length ≤ 40 := by
  unfold wwB at h
  split at h
  · rename_i hc
    have hn : 1 ≤ ((wordsB t).length : Int) ∧ ((wordsB t).length : Int) ≤ 40 := by
      simp only [Bool.and_eq_true] at hc
      simpa [inB] using hc.2
    have := widsW_len s ws (wordsB t) (wordsB t).length 0 [] h
    simp at this
    omega
  · cases h
end Go.Tree
namespace Go.Tree
open Go
abbrev dl (s : ByteArray) : List UInt8 := s.data.toList
theorem dl_eq (s : ByteArray) : (⟨(dl s).toArray⟩ : ByteArray) = s := by
  cases s with
  | mk d => show (⟨d.toList.toArray⟩ : ByteArray) = ⟨d⟩; rw [Array.toArray_toList]
theorem dl_append (s t : ByteArray) : dl (s ++ t) = dl s ++ dl t := by show (s ++ t).data.toList = s.data.toList ++ t.data.toList; rw [ByteArray.data_append, Array.toList_append]
theorem dl_len (s : ByteArray) : (dl s).length = s.size := by show s.data.toList.length = s.data.size; rw [Array.length_toList]
def jn (l : List ByteArray) : ByteArray := ⟨(Lib.join (l.map dl) [32]).toArray⟩
def totS (l : List ByteArray) : Nat := (l.map ByteArray.size).sum
theorem lens_tot : ∀ l : List ByteArray, Lib.lens (l.map dl) = totS l
  | [] => rfl
  | s :: t => by
    have := lens_tot t
    simp only [Lib.lens, totS, List.map_cons, List.sum_cons] at this ⊢
    rw [this, dl_len]
theorem totS_cons (s : ByteArray) (t : List ByteArray) : totS (s :: t) = s.size + totS t := by simp [totS]
theorem join_len (l : List ByteArray) : (Lib.join (l.map dl) [32]).length ≤ l.length + totS l := by
  cases l with
  | nil => simp [Lib.join_nil]
  | cons s t =>
    rw [List.map_cons, Lib.join_cons, List.length_append, Lib.joinTail_length, dl_len, lens_tot, List.length_map, totS_cons]
    simp; omega
theorem jn_size (l : List ByteArray) : (jn l).size ≤ l.length + totS l := join_len l
theorem totS_le {l : List ByteArray} {n : Nat} (h : ∀ x ∈ l, x.size ≤ n) : totS l ≤ l.length * n := by
  induction l with
  | nil => simp [totS]
  | cons x l ih =>
    have h1 := h x (by simp)
    have h2 := ih fun y hy => h y (List.mem_cons_of_mem _ hy)
    rw [totS_cons, List.length_cons, Nat.succ_mul]
    omega
theorem totS_take (l : List ByteArray) (i : Nat) : totS (l.take i) ≤ totS l := by
  have h : totS l = totS (l.take i) + totS (l.drop i) := by
    conv => lhs; rw [← List.take_append_drop i l]
    unfold totS
    rw [List.map_append, List.sum_append]
  omega
theorem jn_succ {l : List ByteArray} {i : Nat} (h : i < l.length) : jn (l.take (i + 1)) = if 0 < i then (jn (l.take i) ++ ByteArray.mk #[32]) ++ l.getD i .empty else jn (l.take i) ++ l.getD i .empty := by
  have hx : l[i]? = some (l.getD i .empty) := by rw [List.getD_eq_getElem?_getD, List.getElem?_eq_getElem h]; rfl
  obtain ⟨x, hxx⟩ : ∃ x, l.getD i .empty = x := ⟨_, rfl⟩
  rw [hxx] at hx ⊢
  match l, h with
  | y :: t, h =>
    cases i with
    | zero =>
      have : y = x := by simpa using hx
      subst this
      rw [if_neg (by omega)]
      show jn [y] = jn [] ++ y
      have e1 : jn [y] = y := by show (⟨(Lib.join [dl y] [32]).toArray⟩ : ByteArray) = y; rw [Lib.join_one]
      have e2 := dl_eq (jn [] ++ y)
      rw [dl_append, show dl (jn []) = [] from rfl, List.nil_append, dl_eq] at e2
      rw [e1]; exact e2
    | succ i =>
      rw [if_pos (by omega)]
      have hx' : (t.map dl)[i]? = some (dl x) := by rw [List.getElem?_map]; rw [List.getElem?_cons_succ] at hx; rw [hx]; rfl
      have e1 : ∀ k, Lib.join (((y :: t).take (k + 1)).map dl) [32] = dl y ++ Lib.joinTail [32] ((t.map dl).take k) := fun k => by
        rw [List.take_succ_cons, List.map_cons, Lib.join_cons, List.map_take]
      have e3 := dl_eq ((jn ((y :: t).take (i + 1)) ++ ByteArray.mk #[32]) ++ x)
      rw [dl_append, dl_append] at e3
      rw [← e3]
      unfold jn
      rw [e1, e1, Lib.joinTail_take_succ [32] (t.map dl) i (dl x) hx']
      show _ = (⟨(((dl y ++ Lib.joinTail [32] ((t.map dl).take i)) ++ [32]) ++ dl x).toArray⟩ : ByteArray)
      simp only [List.append_assoc]
theorem specJoin_eq {l : List ByteArray} (hl : l.length ≤ 4194304) (ht : totS l ≤ 70368744177664) : spec_l6Join l = some ((jn l, ()), (), ()) := by
  have h := loop_for (s := spec_l6Join_s0) (fun i => ((jn (l.take i), l, (l.length : Int), (i : Int), ()), (), ())) l.length ((jn l, ()), (), ()) (by
    intro i hi
    have hs := jn_succ hi
    have b1 := jn_size (l.take i)
    have b2 := totS_take l i
    have b3 : (l.take i).length ≤ l.length := by simp; omega
    have b4 : (l.getD i .empty).size ≤ totS l := by
      have := totS_take l (i + 1)
      rw [List.take_succ_eq_append_getElem hi] at this
      simp only [totS, List.map_append, List.sum_append, List.map_cons, List.map_nil, List.sum_cons, List.sum_nil] at this
      rw [List.getD_eq_getElem?_getD, List.getElem?_eq_getElem hi]
      simp only [totS, Option.getD_some]
      omega
    have s1 : (ByteArray.mk #[32]).size = 1 := rfl
    have b5 : ((jn (l.take i) ++ ByteArray.mk #[32]).size : Nat) = (jn (l.take i)).size + 1 := by rw [ByteArray.size_append, s1]
    simp only [spec_l6Join_s0, Int.toNat_natCast]
    rw [decide_eq_true (by omega), br_true, ck_pos (by omega), ck_pos hi]
    by_cases h0 : 0 < i
    · rw [if_pos h0] at hs
      rw [decide_eq_true (by omega), br_true, ck_pos (by rw [i64_max, s1]; omega), ck_pos (by rw [i64_max, b5]; omega), ← hs, w64_succ hi (by unfold maxLen; omega)]
    · rw [if_neg h0] at hs
      rw [decide_eq_false (by omega), br_false, ck_pos (by rw [i64_max]; omega), ← hs, w64_succ hi (by unfold maxLen; omega)]) (by
    simp only [spec_l6Join_s0]
    rw [decide_eq_false (by omega), br_false, List.take_length])
  exact congrArg (fun o => Option.bind o fun r9 => some ((r9.1.1, ()), (), ())) h
theorem implJoin_eq {l : List ByteArray} (hl : l.length ≤ 4194304) (ht : totS l ≤ 70368744177664) : strings_Join l (ByteArray.mk #[32]) = some ((jn l, ()), (), ()) := by
  unfold strings_Join joinF
  have : (Lib.join (l.map (·.data.toList)) [32]).length ≤ l.length + totS l := join_len l
  have e : (ByteArray.mk #[32]).data.toList = [32] := rfl
  rw [e, if_pos ⟨by omega, by omega⟩]
  rfl
theorem implText_eq2 {l : List ByteArray} (hl : l.length ≤ 4194304) (ht : totS l ≤ 70368744177664) : impl_GalleyText l = some ((jn l, ()), (), ()) := by
  unfold impl_GalleyText
  rw [implJoin_eq hl ht]; rfl
theorem szStringT_eq {l : List ByteArray} {n : Int} (h0 : 0 ≤ n) (h1 : n ≤ 1048576) (hl : l.length ≤ maxLen) (hm : ∀ x ∈ l, x.size ≤ maxLen) :
    Sz (laws_szStringS l n) n ((l.length : Int) + totS l ≤ n) := by
  simp only [laws_szStringS, sub_len h0 h1 hl, br_ite, decide_eq_true_eq]
  by_cases h : n - (l.length : Int) < 0
  · rw [if_pos h]; exact ⟨-1, rfl, by omega, by omega, by omega⟩
  · rw [if_neg h]
    obtain ⟨z, hz, hQ⟩ := loopC_rule (step := laws_szStringS_s0) (fun x => ∃ (c : Int) (i : Nat), x = ((l, c, (i : Int), ()), (), ()) ∧ 0 ≤ c ∧ i ≤ l.length ∧ c + l.length + totS (l.take i) = n)
      (fun x => l.length - x.1.2.2.1.toNat) (fun z => (∃ r, z = .inl ((r, ()), (), ()) ∧ r = -1) ∨ ∃ r, z = .inr ((r, ()), (), ()) ∧ 0 ≤ r ∧ r + l.length + totS l = n) (by
        rintro _ ⟨c, i, rfl, hc0, hi, hall⟩
        simp only [laws_szStringS_s0, Int.toNat_natCast, br_ite, decide_eq_true_eq, Int.ofNat_lt]
        by_cases hi' : i < l.length
        · rw [if_pos hi', ck_pos (by omega), ck_pos hi']
          have hmem : l.getD i ByteArray.empty ∈ l := getD_mem hi'
          have hsz := hm _ hmem
          rw [sub_len hc0 (by omega) hsz]
          by_cases hr : c - ((l.getD i ByteArray.empty).size : Int) < 0
          · rw [if_pos hr]; exact .inr ⟨_, rfl, .inl ⟨_, rfl, rfl⟩⟩
          · rw [if_neg hr, w64_succ hi' hl]
            refine .inl ⟨_, rfl, ⟨_, i + 1, rfl, by omega, by omega, ?_⟩, by simp only [Int.toNat_natCast]; omega⟩
            have ht : totS (l.take (i + 1)) = totS (l.take i) + (l.getD i .empty).size := by
              rw [List.take_succ_eq_append_getElem hi', List.getD_eq_getElem?_getD, List.getElem?_eq_getElem hi']
              unfold totS
              rw [List.map_append, List.sum_append]
              simp
            rw [ht]; omega
        · rw [if_neg hi']
          have : i = l.length := by omega
          subst this
          rw [List.take_length] at hall
          exact .inr ⟨_, rfl, .inr ⟨_, rfl, hc0, hall⟩⟩) l.length ((l, n - (l.length : Int), (0 : Int), ()), (), ()) (by simp) ⟨_, 0, rfl, by omega, by omega, by simp [totS]⟩
    rw [hz, Option.bind_some]
    rcases hQ with ⟨r, rfl, rfl⟩ | ⟨r, rfl, q1, q2⟩
    · exact ⟨-1, rfl, by omega, by omega, by omega⟩
    · exact ⟨r, rfl, by omega, by omega, fun _ => by omega⟩
theorem size_tot {l : List ByteArray} {x : ByteArray} (h : x ∈ l) : x.size ≤ totS l := by
  induction l with
  | nil => cases h
  | cons y l ih =>
    rw [totS_cons]
    rcases List.mem_cons.1 h with rfl | h
    · omega
    · have := ih h; omega
end Go.Tree
namespace Go.Tree
def sumI (l : List Int) : Int := l.foldl (fun s x => w64 (s + x)) 0
theorem sumI_succ {l : List Int} {i : Nat} (h : i < l.length) : w64 (sumI (l.take i) + l.getD i 0) = sumI (l.take (i + 1)) := by
  rw [List.getD_eq_getElem?_getD, List.getElem?_eq_getElem h]
  unfold sumI
  rw [List.take_succ_eq_append_getElem h, List.foldl_append]
  rfl
def restI (a b : Int) (l : List Int) : Int := w64 (w64 (a - sumI l) - w64 (w64 ((l.length : Int) - 1) * b))
def kindN (a b c : Int) (l : List Int) : Int :=
  let g := w64 ((l.length : Int) - 1)
  let r := restI a b l
  if r < 0 then 0 else
    let rise := if g = 0 then 0 else (if w64 (c - b) < w64 (r.tdiv g) then w64 (c - b) else w64 (r.tdiv g))
    let left := w64 (r - w64 (g * rise))
    if left = 0 ∨ left < g then 2 else 1
theorem specRest_eq (a b c : Int) {l : List Int} (hl : l.length ≤ 1048576) : spec_l4Rest a b c l = some ((restI a b l, w64 ((l.length : Int) - 1), ()), (), ()) := by
  have h := loop_for (s := spec_l4Rest_s0) (fun i => ((l, (), sumI (l.take i), l, (l.length : Int), (i : Int), ()), ((a, b, c, ()), ()), ())) l.length ((l, (), sumI l, ()), ((a, b, c, ()), ()), ()) (by
    intro i hi
    simp only [spec_l4Rest_s0, Int.toNat_natCast]
    rw [decide_eq_true (by omega), br_true, ck_pos (by omega), ck_pos hi, sumI_succ hi, w64_succ hi (big_len hl)]) (by
    simp only [spec_l4Rest_s0]
    rw [decide_eq_false (by omega), br_false, List.take_length])
  exact congrArg (fun o => Option.bind o _) h
theorem specKind_eq (a b c : Int) {l : List Int} (hl : l.length ≤ 1048576) (h1 : 1 ≤ l.length) : spec_l4Kind a b c l = some ((kindN a b c l, ()), (), ()) := by
  have hg : w64 ((l.length : Int) - 1) = (l.length : Int) - 1 := w64_id (by omega) (by omega)
  simp only [spec_l4Kind, spec_l4Rise, specRest_eq a b c hl, Option.bind_some, kindN, hg]
  generalize restI a b l = r
  by_cases hr : r < 0
  · rw [decide_eq_true hr, br_true, if_pos hr]
  · rw [decide_eq_false hr, br_false, if_neg hr]
    have fin : ∀ rise : Int, br (w64 (r - w64 (((l.length : Int) - 1) * rise)) == 0) (some (((2 : Int), ()), (), ())) (br (decide (w64 (r - w64 (((l.length : Int) - 1) * rise)) < (l.length : Int) - 1)) (some (((2 : Int), ()), (), ())) (some (((1 : Int), ()), (), ()))) =
        some ((if w64 (r - w64 (((l.length : Int) - 1) * rise)) = 0 ∨ w64 (r - w64 (((l.length : Int) - 1) * rise)) < (l.length : Int) - 1 then (2 : Int) else 1, ()), (), ()) := fun rise => by
      generalize w64 (r - w64 (((l.length : Int) - 1) * rise)) = e
      by_cases h1 : e = 0
      · rw [beq_iff_eq.2 h1, br_true, if_pos (.inl h1)]
      · rw [beq_eq_false_iff_ne.2 h1, br_false]
        by_cases h2 : e < (l.length : Int) - 1
        · rw [decide_eq_true h2, br_true, if_pos (.inr h2)]
        · rw [decide_eq_false h2, br_false, if_neg (by rintro (h | h) <;> contradiction)]
    by_cases h0 : (l.length : Int) - 1 = 0
    · rw [beq_iff_eq.2 h0, br_true, Option.bind_some, if_pos h0]
      exact fin 0
    · rw [beq_eq_false_iff_ne.2 h0, br_false, ck_pos h0, Option.bind_some, if_neg h0]
      exact fin _
theorem implSum_eq {l : List Int} (hl : l.length ≤ 1048576) : impl_sum l = some ((sumI l, ()), (), ()) := by
  have h := loop_for (s := impl_sum_s0) (fun i => ((sumI (l.take i), l, (l.length : Int), (i : Int), ()), (), ())) l.length ((sumI l, ()), (), ()) (by
    intro i hi
    simp only [impl_sum_s0, Int.toNat_natCast]
    rw [decide_eq_true (by omega), br_true, ck_pos (by omega), ck_pos hi, sumI_succ hi, w64_succ hi (big_len hl)]) (by
    simp only [impl_sum_s0]
    rw [decide_eq_false (by omega), br_false, List.take_length])
  exact congrArg (fun o => Option.bind o _) h
def spreadN (a b c s g : Int) : Int × Int × Bool :=
  let r := w64 (w64 (a - s) - w64 (g * b))
  if r < 0 then (0, 0, false) else
    let rise := if g > 0 then (if w64 (r.tdiv g) < w64 (c - b) then w64 (r.tdiv g) else w64 (c - b)) else 0
    (rise, w64 (r - w64 (g * rise)), true)
theorem implSpreadW_eq (a b c s g : Int) : impl_spread a b c s g = some (((spreadN a b c s g).1, (spreadN a b c s g).2.1, (spreadN a b c s g).2.2, ()), (), ()) := by
  simp only [impl_spread, spreadN]
  generalize w64 (w64 (a - s) - w64 (g * b)) = r
  by_cases hr : r < 0
  · rw [decide_eq_true hr, br_true]; simp only [if_pos hr]
  · rw [decide_eq_false hr, br_false]; simp only [if_neg hr]
    by_cases hg : g > 0
    · rw [decide_eq_true hg, br_true, ck_pos (by omega)]; simp only [if_pos hg]
    · rw [decide_eq_false hg, br_false]; simp only [if_neg hg]
theorem implKind_eq (a b c : Int) {l : List Int} (hl : l.length ≤ 1048576) (h1 : 1 ≤ l.length) : impl_kindOf a b c l = some ((kindN a b c l, ()), (), ()) := by
  have hg : w64 ((l.length : Int) - 1) = (l.length : Int) - 1 := w64_id (by omega) (by omega)
  simp only [impl_kindOf, impl_full, implSum_eq hl, implSpreadW_eq, Option.bind_some, kindN, hg, spreadN, restI]
  generalize w64 (w64 (a - sumI l) - w64 (((l.length : Int) - 1) * b)) = r
  by_cases hr : r < 0
  · simp only [if_pos hr, Bool.not_false, br_true]
  · simp only [if_neg hr, Bool.not_true, br_false, br_true]
    have e : (if (l.length : Int) - 1 > 0 then (if w64 (r.tdiv ((l.length : Int) - 1)) < w64 (c - b) then w64 (r.tdiv ((l.length : Int) - 1)) else w64 (c - b)) else 0) =
        (if (l.length : Int) - 1 = 0 then 0 else (if w64 (c - b) < w64 (r.tdiv ((l.length : Int) - 1)) then w64 (c - b) else w64 (r.tdiv ((l.length : Int) - 1)))) := by
      by_cases h0 : (l.length : Int) - 1 = 0
      · rw [if_pos h0, if_neg (by omega)]
      · rw [if_neg h0, if_pos (by omega)]
        generalize w64 (r.tdiv ((l.length : Int) - 1)) = x
        generalize w64 (c - b) = y
        by_cases h2 : x < y
        · rw [if_pos h2, if_neg (by omega)]
        · rw [if_neg h2]
          by_cases h3 : y < x
          · rw [if_pos h3]
          · rw [if_neg h3]; omega
    rw [e]
    generalize (if (l.length : Int) - 1 = 0 then 0 else (if w64 (c - b) < w64 (r.tdiv ((l.length : Int) - 1)) then w64 (c - b) else w64 (r.tdiv ((l.length : Int) - 1)))) = rise
    generalize w64 (r - w64 (((l.length : Int) - 1) * rise)) = e
    by_cases h1 : e = 0
    · rw [beq_iff_eq.2 h1, br_true, Option.bind_some, br_true, if_pos (.inl h1)]
    · rw [beq_eq_false_iff_ne.2 h1, br_false, Option.bind_some]
      by_cases h2 : e < (l.length : Int) - 1
      · rw [decide_eq_true h2, br_true, if_pos (.inr h2)]
      · rw [decide_eq_false h2, br_false, if_neg (by rintro (h | h) <;> contradiction)]
theorem ite12 (p : Prop) [Decidable p] : (if p then (2 : Int) else 1) = 1 ∨ (if p then (2 : Int) else 1) = 2 := by split <;> simp
theorem kindN_cases (a b c : Int) (l : List Int) : kindN a b c l = 0 ∨ kindN a b c l = 1 ∨ kindN a b c l = 2 := by
  simp only [kindN]
  by_cases hr : restI a b l < 0
  · rw [if_pos hr]; exact .inl rfl
  · rw [if_neg hr]; exact .inr (ite12 _)
def lineK (a b c : Int) (w : List Int) (p : Nat) (n : Int) : Int := kindN a b c (cut w p (p + n.toNat))
def stS (a b c : Int) (w lines : List Int) (i p : Nat) : Option Nat :=
  if inB (lines.getD i 0) 1 ((w.length : Int) - p) = true ∧ lineK a b c w p (lines.getD i 0) ≠ 0 ∧ ¬ (lineK a b c w p (lines.getD i 0) = 1 ∧ p + (lines.getD i 0).toNat < w.length) then some (p + (lines.getD i 0).toNat) else none
def stI (a b c : Int) (w lines : List Int) (i p : Nat) : Option Nat :=
  if inB (lines.getD i 0) 1 ((w.length : Int) - p) = true ∧ (i + 1 = lines.length → lineK a b c w p (lines.getD i 0) ≠ 0) ∧ (i + 1 < lines.length → lineK a b c w p (lines.getD i 0) = 2) then some (p + (lines.getD i 0).toNat) else none
def endB (w : List Int) : Option Nat → Bool | some p => p == w.length | none => false
theorem st_same (a b c : Int) (w lines : List Int) : ∀ (k i p : Nat), i + k = lines.length → p ≤ w.length → endB w (runF (stS a b c w lines) i k p) = endB w (runF (stI a b c w lines) i k p)
  | 0, i, p, e, hp => rfl
  | k + 1, i, p, e, hp => by
    simp only [runF]
    by_cases hn : inB (lines.getD i 0) 1 ((w.length : Int) - p) = true
    · have hn' : 1 ≤ lines.getD i 0 ∧ lines.getD i 0 ≤ (w.length : Int) - p := by simpa [inB] using hn
      have hp' : p + (lines.getD i 0).toNat ≤ w.length := by omega
      have ih := st_same a b c w lines k (i + 1) (p + (lines.getD i 0).toNat) (by omega) hp'
      have fall : stS a b c w lines i p = none → stI a b c w lines i p = none → endB w ((stS a b c w lines i p).bind (runF (stS a b c w lines) (i + 1) k)) = endB w ((stI a b c w lines i p).bind (runF (stI a b c w lines) (i + 1) k)) := fun h1 h2 => by rw [h1, h2]; rfl
      rcases kindN_cases a b c (cut w p (p + (lines.getD i 0).toNat)) with hk | hk | hk <;> replace hk : lineK a b c w p (lines.getD i 0) = _ := hk
      · refine fall ?_ ?_
        · unfold stS; rw [hk, if_neg (by rintro ⟨_, h, _⟩; exact h rfl)]
        · unfold stI; rw [hk, if_neg (by
            rintro ⟨_, h1, h2⟩
            by_cases hl : i + 1 = lines.length
            · exact h1 hl rfl
            · exact absurd (h2 (by omega)) (by decide))]
      · by_cases hlast : i + 1 = lines.length
        · have hI : stI a b c w lines i p = some (p + (lines.getD i 0).toNat) := by
            unfold stI; rw [hk, if_pos ⟨hn, fun _ => by decide, fun h => by omega⟩]
          obtain rfl : k = 0 := by omega
          rw [hI]
          by_cases hlt : p + (lines.getD i 0).toNat < w.length
          · have hS : stS a b c w lines i p = none := by unfold stS; rw [hk, if_neg (by rintro ⟨_, _, h⟩; exact h ⟨rfl, hlt⟩)]
            rw [hS]
            show false = (p + (lines.getD i 0).toNat == w.length)
            exact (beq_eq_false_iff_ne.2 (by omega)).symm
          · have hS : stS a b c w lines i p = some (p + (lines.getD i 0).toNat) := by unfold stS; rw [hk, if_pos ⟨hn, by decide, fun h => hlt h.2⟩]
            rw [hS]; rfl
        · have hI : stI a b c w lines i p = none := by
            unfold stI; rw [hk, if_neg (by rintro ⟨_, _, h⟩; exact absurd (h (by omega)) (by decide))]
          rw [hI]
          by_cases hlt : p + (lines.getD i 0).toNat < w.length
          · have hS : stS a b c w lines i p = none := by unfold stS; rw [hk, if_neg (by rintro ⟨_, _, h⟩; exact h ⟨rfl, hlt⟩)]
            rw [hS]; rfl
          · have hS : stS a b c w lines i p = some (p + (lines.getD i 0).toNat) := by unfold stS; rw [hk, if_pos ⟨hn, by decide, fun h => hlt h.2⟩]
            rw [hS, Option.bind_some]
            obtain ⟨k', rfl⟩ : ∃ k', k = k' + 1 := ⟨k - 1, by omega⟩
            have hn2 : ¬ inB (lines.getD (i + 1) 0) 1 ((w.length : Int) - ((p + (lines.getD i 0).toNat : Nat) : Int)) = true := by
              unfold inB
              rw [decide_eq_true_eq]
              omega
            have hS2 : stS a b c w lines (i + 1) (p + (lines.getD i 0).toNat) = none := by
              unfold stS; rw [if_neg (fun h => hn2 h.1)]
            simp only [runF, hS2]; rfl
      · have hS : stS a b c w lines i p = some (p + (lines.getD i 0).toNat) := by unfold stS; rw [hk, if_pos ⟨hn, by decide, fun h => absurd h.1 (by decide)⟩]
        have hI : stI a b c w lines i p = some (p + (lines.getD i 0).toNat) := by unfold stI; rw [hk, if_pos ⟨hn, fun _ => by decide, fun _ => rfl⟩]
        rw [hS, hI]; exact ih
    · have hS : stS a b c w lines i p = none := by unfold stS; rw [if_neg (fun h => hn h.1)]
      have hI : stI a b c w lines i p = none := by unfold stI; rw [if_neg (fun h => hn h.1)]
      rw [hS, hI]; rfl
def textOk (w : List Int) : Bool := inB w.length 1 40 && w.all fun x => inB x 1 2000
theorem specText_loop {w : List Int} (hw : w.length ≤ 1048576) : loopC spec_TextOk_s0 ((w, w, (w.length : Int), (0 : Int), ()), (), ()) = some (if (w.all fun x => inB x 1 2000) = true then .inr ((w, ()), (), ()) else .inl ((false, ()), (), ())) :=
  loop_all (s := spec_TextOk_s0) w 0 (fun i => ((w, w, (w.length : Int), (i : Int), ()), (), ())) (fun x => inB x 1 2000) (.inl ((false, ()), (), ())) (.inr ((w, ()), (), ())) (by
    intro i hi
    simp only [spec_TextOk_s0, Int.toNat_natCast, l1In_eq, Option.bind_some]
    rw [decide_eq_true (by omega), br_true, ck_pos (by omega), ck_pos hi, w64_succ hi (big_len hw)]
    cases inB (w.getD i 0) 1 2000 <;> rfl) (by
    simp only [spec_TextOk_s0]
    rw [decide_eq_false (by omega), br_false])
theorem specTextOk_eq {w : List Int} (hw : w.length ≤ 1048576) : spec_TextOk w = some ((textOk w, ()), (), ()) := by
  simp only [spec_TextOk, specText_loop hw, Option.bind_some, textOk]
  cases h : w.all fun x => inB x 1 2000 with
  | false => simp
  | true => simp only [if_true, sumK_inr, l1In_eq, Option.bind_some, Bool.and_true]
theorem implTextOk_eq {w : List Int} (hw : w.length ≤ 1048576) : impl_TextOk w = some ((textOk w, ()), (), ()) := by
  have e : ∀ x lo hi : Int, inB x lo hi = (decide (x ≥ lo) && decide (x ≤ hi)) := fun x lo hi => by simp [inB]
  simp only [impl_TextOk, between_eq hw, Option.bind_some, textOk]
  rw [e (w.length : Int) 1 40]
  cases decide ((w.length : Int) ≥ 1) <;> cases decide ((w.length : Int) ≤ 40) <;> rfl
def brkB (a b c : Int) (w lines : List Int) : Bool := measOk a b c && (textOk w && endB w (runF (stS a b c w lines) 0 lines.length 0))
theorem l4Ok_eq (a b c : Int) {w : List Int} (hw : w.length ≤ 1048576) : spec_l4Ok a b c w = some ((measOk a b c && textOk w, ()), (), ()) := by
  simp only [spec_l4Ok, specMeasureOk_eq, specTextOk_eq hw, Option.bind_some]
  cases measOk a b c <;> rfl
theorem both_eq (a b c : Int) {w : List Int} (hw : w.length ≤ 1048576) : impl_both a b c w = some ((measOk a b c && textOk w, ()), (), ()) := by
  simp only [impl_both, implMeasureOk_eq, implTextOk_eq hw, Option.bind_some]
  cases measOk a b c <;> rfl
theorem specBrk_loop (a b c : Int) {w lines : List Int} (hw : w.length ≤ 1048576) (hl : lines.length ≤ 1048577) :
    loopC spec_IsBreaking_s0 ((w, (), (0 : Int), lines, (lines.length : Int), (0 : Int), ()), ((a, b, c, ()), ()), ()) =
      some (match runF (stS a b c w lines) 0 lines.length 0 with | some p => .inr ((w, (p : Int), ()), (), ()) | none => .inl ((false, ()), (), ())) := by
  have h := loop_run (s := spec_IsBreaking_s0) (fun i (p : Nat) => ((w, (), (p : Int), lines, (lines.length : Int), (i : Int), ()), ((a, b, c, ()), ()), ())) lines.length (stS a b c w lines) (fun _ p => p ≤ w.length) (.inl ((false, ()), (), ()))
    (fun p => .inr ((w, (p : Int), ()), (), ())) (fun i p hi hp => by
      refine ⟨?_, fun q hq => ?_⟩
      · simp only [spec_IsBreaking_s0, Int.toNat_natCast, l1In_eq, Option.bind_some, w64_id (x := (w.length : Int) - p) (by omega) (by omega)]
        rw [decide_eq_true (by omega), br_true, ck_pos (by omega), ck_pos hi]
        by_cases hn : inB (lines.getD i 0) 1 ((w.length : Int) - p) = true
        · have hn' : 1 ≤ lines.getD i 0 ∧ lines.getD i 0 ≤ (w.length : Int) - p := by simpa [inB] using hn
          obtain ⟨n, hnn⟩ := Int.eq_ofNat_of_zero_le (show 0 ≤ lines.getD i 0 by omega)
          have hnI : 1 ≤ (n : Int) ∧ (n : Int) ≤ (w.length : Int) - p := hnn ▸ hn'
          unfold stS
          have hn2 : inB (n : Int) 1 ((w.length : Int) - p) = true := hnn ▸ hn
          simp only [hnn, hn2]
          have e : w64 ((p : Int) + (n : Int)) = ((p + n : Nat) : Int) := by rw [w64_id (by omega) (by omega)]; omega
          have hc : (cut w p (p + n)).length = n := by rw [cut_len (by omega) (by omega)]; omega
          simp only [e, Int.toNat_natCast, Bool.not_true, br_false]
          rw [ck_pos (by omega), ck_pos (by omega), ck_pos ⟨by omega, by omega⟩, specKind_eq a b c (by omega) (by omega), Option.bind_some]
          have hk : lineK a b c w p (n : Int) = kindN a b c (cut w p (p + n)) := rfl
          rw [hk, w64_succ hi (by unfold maxLen; omega)]
          generalize kindN a b c (cut w p (p + n)) = K
          by_cases k0 : K = 0
          · rw [if_neg (by rintro ⟨_, h, _⟩; exact h k0), beq_iff_eq.2 k0, br_true]
          · rw [beq_eq_false_iff_ne.2 k0, br_false]
            by_cases k1 : K = 1
            · rw [beq_iff_eq.2 k1, br_true]
              by_cases hlt : p + n < w.length
              · rw [if_neg (by rintro ⟨_, _, h⟩; exact h ⟨k1, hlt⟩), decide_eq_true (by omega), br_true]
              · rw [if_pos ⟨by first | rfl | trivial, k0, fun h => hlt h.2⟩, decide_eq_false (by omega), br_false]
            · rw [if_pos ⟨by first | rfl | trivial, k0, fun h => k1 h.1⟩, beq_eq_false_iff_ne.2 k1, br_false]
        · unfold stS
          rw [if_neg (fun h => hn h.1), Bool.eq_false_iff.2 hn, Bool.not_false, br_true]
      · unfold stS at hq
        split at hq
        · rename_i h
          cases hq
          have hn' : 1 ≤ lines.getD i 0 ∧ lines.getD i 0 ≤ (w.length : Int) - p := by simpa [inB] using h.1
          omega
        · cases hq) (fun p _ => by
      simp only [spec_IsBreaking_s0]
      rw [decide_eq_false (by omega), br_false]) lines.length 0 0 (by omega) (by omega)
  refine h.1.trans ?_
  cases runF (stS a b c w lines) 0 lines.length 0 <;> rfl
theorem implBrk_loop (a b c : Int) {w lines : List Int} (hw : w.length ≤ 1048576) (hl : lines.length ≤ 1048577) :
    loopC impl_IsBreaking_s0 ((w, lines, (), (0 : Int), lines, (lines.length : Int), (0 : Int), ()), ((a, b, c, ()), ()), ()) =
      some (match runF (stI a b c w lines) 0 lines.length 0 with | some p => .inr ((w, (p : Int), ()), (), ()) | none => .inl ((false, ()), (), ())) := by
  have h := loop_run (s := impl_IsBreaking_s0) (fun i (p : Nat) => ((w, lines, (), (p : Int), lines, (lines.length : Int), (i : Int), ()), ((a, b, c, ()), ()), ())) lines.length (stI a b c w lines) (fun _ p => p ≤ w.length) (.inl ((false, ()), (), ()))
    (fun p => .inr ((w, (p : Int), ()), (), ())) (fun i p hi hp => by
      refine ⟨?_, fun q hq => ?_⟩
      · have hb : inB (lines.getD i 0) 1 ((w.length : Int) - p) = true ↔ 1 ≤ lines.getD i 0 ∧ lines.getD i 0 ≤ (w.length : Int) - p := by simp [inB]
        simp only [impl_IsBreaking_s0, Int.toNat_natCast, w64_id (x := (w.length : Int) - p) (by omega) (by omega)]
        rw [decide_eq_true (by omega), br_true, ck_pos (by omega), ck_pos hi]
        by_cases hn : inB (lines.getD i 0) 1 ((w.length : Int) - p) = true
        · have hn' := hb.1 hn
          obtain ⟨n, hnn⟩ := Int.eq_ofNat_of_zero_le (show 0 ≤ lines.getD i 0 by omega)
          have hnI : 1 ≤ (n : Int) ∧ (n : Int) ≤ (w.length : Int) - p := hnn ▸ hn'
          unfold stI
          have hn2 : inB (n : Int) 1 ((w.length : Int) - p) = true := hnn ▸ hn
          simp only [hnn, hn2]
          have e : w64 ((p : Int) + (n : Int)) = ((p + n : Nat) : Int) := by rw [w64_id (by omega) (by omega)]; omega
          have hc : (cut w p (p + n)).length = n := by rw [cut_len (by omega) (by omega)]; omega
          have e2 : w64 ((lines.length : Int) - 1) = (lines.length : Int) - 1 := w64_id (by omega) (by omega)
          simp only [e, e2, Int.toNat_natCast]
          rw [decide_eq_false (by omega), br_false, decide_eq_false (by omega), br_false, ck_pos (by omega), ck_pos (by omega), ck_pos ⟨by omega, by omega⟩, implKind_eq a b c (by omega) (by omega), Option.bind_some]
          have hk : lineK a b c w p (n : Int) = kindN a b c (cut w p (p + n)) := rfl
          rw [hk, w64_succ hi (by unfold maxLen; omega)]
          generalize kindN a b c (cut w p (p + n)) = K
          by_cases hlast : i + 1 = lines.length
          · rw [beq_iff_eq.2 (show (i : Int) = (lines.length : Int) - 1 by omega), br_true]
            by_cases k0 : K = 0
            · rw [if_neg (by rintro ⟨_, h, _⟩; exact h hlast k0), beq_iff_eq.2 k0, br_true]
            · rw [if_pos ⟨by first | rfl | trivial, fun _ => k0, fun h => by omega⟩, beq_eq_false_iff_ne.2 k0, br_false, decide_eq_false (by omega), br_false]
          · rw [beq_eq_false_iff_ne.2 (show ¬ (i : Int) = (lines.length : Int) - 1 by omega), br_false, decide_eq_true (by omega), br_true]
            by_cases k2 : K = 2
            · rw [if_pos ⟨by first | rfl | trivial, fun h => absurd h hlast, fun _ => k2⟩, k2]; rfl
            · rw [if_neg (by rintro ⟨_, _, h⟩; exact k2 (h (by omega))), bne_iff_ne.2 k2, br_true]
        · unfold stI
          rw [if_neg (fun h => hn h.1)]
          by_cases h1 : lines.getD i 0 < 1
          · rw [decide_eq_true h1, br_true]
          · rw [decide_eq_false h1, br_false, decide_eq_true (by
              rcases Int.lt_or_le ((w.length : Int) - p) (lines.getD i 0) with h | h
              · omega
              · exact absurd (hb.2 ⟨by omega, h⟩) hn), br_true]
      · unfold stI at hq
        split at hq
        · rename_i h
          cases hq
          have hn' : 1 ≤ lines.getD i 0 ∧ lines.getD i 0 ≤ (w.length : Int) - p := by simpa [inB] using h.1
          omega
        · cases hq) (fun p _ => by
      simp only [impl_IsBreaking_s0]
      rw [decide_eq_false (by omega), br_false]) lines.length 0 0 (by omega) (by omega)
  refine h.1.trans ?_
  cases runF (stI a b c w lines) 0 lines.length 0 <;> rfl
theorem end_br (w : List Int) (o : Option Nat) : sumK (match o with | some p => (.inr ((w, (p : Int), ()), (), ()) : (((Bool × Unit) × Unit × Unit) ⊕ ((List Int × Int × Unit) × Unit × Unit))) | none => .inl ((false, ()), (), ()))
    (fun y17 => some ((y17.1.1, ()), (), ())) (fun y18 => let x19 : Bool := y18.1.2.1 == (y18.1.1.length : Int); some ((x19, ()), (), ())) = some ((endB w o, ()), (), ()) := by
  cases o with
  | none => rfl
  | some p =>
    show some (((p : Int) == (w.length : Int), ()), (), ()) = some ((p == w.length, ()), (), ())
    have : ((p : Int) == (w.length : Int)) = (p == w.length) := by
      rw [Bool.eq_iff_iff, beq_iff_eq, beq_iff_eq]; omega
    rw [this]
theorem specBrk_eq (a b c : Int) {w lines : List Int} (hw : w.length ≤ 1048576) (hl : lines.length ≤ 1048577) : spec_IsBreaking a b c w lines = some ((brkB a b c w lines, ()), (), ()) := by
  simp only [spec_IsBreaking, l4Ok_eq a b c hw, Option.bind_some, brkB]
  by_cases h : (measOk a b c && textOk w) = true
  · rw [h, Bool.not_true, br_false, specBrk_loop a b c hw hl, Option.bind_some, end_br]
    simp only [Bool.and_eq_true] at h
    rw [h.1, h.2]; rfl
  · rw [Bool.eq_false_iff.2 h, Bool.not_false, br_true, ← Bool.and_assoc, Bool.eq_false_iff.2 h, Bool.false_and]
theorem implBrk_eq (a b c : Int) {w lines : List Int} (hw : w.length ≤ 1048576) (hl : lines.length ≤ 1048577) : impl_IsBreaking a b c w lines = some ((brkB a b c w lines, ()), (), ()) := by
  simp only [impl_IsBreaking, both_eq a b c hw, Option.bind_some, brkB]
  rw [st_same a b c w lines lines.length 0 0 (by omega) (by omega)]
  by_cases h : (measOk a b c && textOk w) = true
  · rw [h, Bool.not_true, br_false, implBrk_loop a b c hw hl, Option.bind_some, end_br]
    simp only [Bool.and_eq_true] at h
    rw [h.1, h.2]; rfl
  · rw [Bool.eq_false_iff.2 h, Bool.not_false, br_true, ← Bool.and_assoc, Bool.eq_false_iff.2 h, Bool.false_and]
end Go.Tree
namespace Go.Tree
def lineF (gal : List ByteArray) (i : Nat) (o : List Int) : Option (List Int) :=
  if strEq (jn (wordsB (gal.getD i .empty))) (gal.getD i .empty) = true then some (o ++ [((wordsB (gal.getD i .empty)).length : Int)]) else none
theorem lineF_len (gal : List ByteArray) : ∀ (k i : Nat) (o : List Int) {r}, runF (lineF gal) i k o = some r → r.length = o.length + k
  | 0, i, o, r, h => by cases h; rfl
  | k + 1, i, o, r, h => by
    simp only [runF, Option.bind_eq_some_iff] at h
    obtain ⟨o', h1, h2⟩ := h
    have := lineF_len gal k (i + 1) _ h2
    unfold lineF at h1
    split at h1
    · cases h1; simp at this; omega
    · cases h1
def galB (s : ByteArray) (ws so : List Int) (a b c : Int) (gal : List ByteArray) : Bool :=
  match runF (lineF gal) 0 gal.length [] with
  | none => false
  | some lines => match wwB s ws so (jn gal) with
    | none => false
    | some w => brkB a b c w lines
theorem words_tot {s : ByteArray} (hs : s.size ≤ 1048576) : (wordsB s).length ≤ 4194304 ∧ totS (wordsB s) ≤ 70368744177664 := by
  obtain ⟨h1, h2⟩ := wordsB_small hs
  have h3 := totS_le h2
  have h4 : (wordsB s).length * 1048576 ≤ 1048577 * 1048576 := Nat.mul_le_mul_right _ h1
  omega
section
variable {s : ByteArray} {ws so : List Int} (hs : s.size ≤ 1048576) (hw : ws.length ≤ 1048576) (ho : so.length ≤ 1048576) {gal : List ByteArray} (hg : gal.length + totS gal ≤ 1048576) (a b c : Int)
include hs hw ho hg
theorem line_small (i : Nat) (h : i < gal.length) : (gal.getD i .empty).size ≤ 1048576 := by
  have := size_tot (getD_mem (d := ByteArray.empty) h)
  omega
theorem specGal_loop : loopC spec_GalleyOk_s0 ((gal, (), (), (), gal, (gal.length : Int), (0 : Int), ()), ((s, ws, so, ()), (a, b, c, ()), ()), ([], ())) =
    some (match runF (lineF gal) 0 gal.length [] with | some o => .inr ((gal, (), (), (), ()), ((s, ws, so, ()), (a, b, c, ()), ()), (o, ())) | none => .inl ((false, ()), (), ())) := by
  have h := loop_run (s := spec_GalleyOk_s0) (fun i (o : List Int) => ((gal, (), (), (), gal, (gal.length : Int), (i : Int), ()), ((s, ws, so, ()), (a, b, c, ()), ()), (o, ()))) gal.length (lineF gal) (fun i o => o.length = i) (.inl ((false, ()), (), ()))
    (fun o => .inr ((gal, (), (), (), ()), ((s, ws, so, ()), (a, b, c, ()), ()), (o, ()))) (fun i o hi hI => by
      have hsz := line_small hs hw ho hg i hi
      obtain ⟨t1, t2⟩ := words_tot hsz
      refine ⟨?_, fun q hq => ?_⟩
      · simp only [spec_GalleyOk_s0, Int.toNat_natCast]
        rw [decide_eq_true (by omega), br_true, ck_pos (by omega), ck_pos hi, specWords_eq (by omega), Option.bind_some, specJoin_eq t1 t2, Option.bind_some]
        unfold lineF
        by_cases he : strEq (jn (wordsB (gal.getD i .empty))) (gal.getD i .empty) = true
        · rw [if_pos he, he, Bool.not_true, br_false, ck_pos (by simp; omega), w64_succ hi (by unfold maxLen; omega)]
        · rw [if_neg he, Bool.eq_false_iff.2 he, Bool.not_false, br_true]
      · unfold lineF at hq
        split at hq
        · cases hq; simp [hI]
        · cases hq) (fun o _ => by
      simp only [spec_GalleyOk_s0]
      rw [decide_eq_false (by omega), br_false]) gal.length 0 [] (by omega) rfl
  refine h.1.trans ?_
  cases runF (lineF gal) 0 gal.length [] <;> rfl
theorem implGal_loop : loopC impl_GalleyOk_s0 ((gal, (), (), (), gal, (gal.length : Int), (0 : Int), ()), ((s, ws, so, ()), (a, b, c, ()), ()), ([], ())) =
    some (match runF (lineF gal) 0 gal.length [] with | some o => .inr ((gal, (), (), (), ()), ((s, ws, so, ()), (a, b, c, ()), ()), (o, ())) | none => .inl ((false, ()), (), ())) := by
  have h := loop_run (s := impl_GalleyOk_s0) (fun i (o : List Int) => ((gal, (), (), (), gal, (gal.length : Int), (i : Int), ()), ((s, ws, so, ()), (a, b, c, ()), ()), (o, ()))) gal.length (lineF gal) (fun i o => o.length = i) (.inl ((false, ()), (), ()))
    (fun o => .inr ((gal, (), (), (), ()), ((s, ws, so, ()), (a, b, c, ()), ()), (o, ()))) (fun i o hi hI => by
      have hsz := line_small hs hw ho hg i hi
      obtain ⟨t1, t2⟩ := words_tot hsz
      refine ⟨?_, fun q hq => ?_⟩
      · simp only [impl_GalleyOk_s0, Int.toNat_natCast]
        rw [decide_eq_true (by omega), br_true, ck_pos (by omega), ck_pos hi, implWords_eq (by omega), Option.bind_some, implJoin_eq t1 t2, Option.bind_some]
        unfold lineF
        by_cases he : strEq (jn (wordsB (gal.getD i .empty))) (gal.getD i .empty) = true
        · rw [if_pos he, he, Bool.not_true, br_false, ck_pos (by simp; omega), w64_succ hi (by unfold maxLen; omega)]
        · rw [if_neg he, Bool.eq_false_iff.2 he, Bool.not_false, br_true]
      · unfold lineF at hq
        split at hq
        · cases hq; simp [hI]
        · cases hq) (fun o _ => by
      simp only [impl_GalleyOk_s0]
      rw [decide_eq_false (by omega), br_false]) gal.length 0 [] (by omega) rfl
  refine h.1.trans ?_
  cases runF (lineF gal) 0 gal.length [] <;> rfl
theorem jn_small : (jn gal).size ≤ 1048576 := Nat.le_trans (jn_size gal) hg
theorem specGal_eq : spec_GalleyOk s ws so a b c gal = some ((galB s ws so a b c gal, ()), (), ()) := by
  unfold spec_GalleyOk galB
  rw [specGal_loop hs hw ho hg a b c, Option.bind_some]
  cases hr : runF (lineF gal) 0 gal.length [] with
  | none => rfl
  | some lines =>
    have hl : lines.length ≤ 1048577 := by
      have := lineF_len gal gal.length 0 [] hr
      simp at this; omega
    simp only [sumK_inr]
    rw [specJoin_eq (l := gal) (by omega) (by omega), Option.bind_some]
    simp only [specWW_eq hs hw ho (jn_small hs hw ho hg), Option.bind_some]
    cases hq : wwB s ws so (jn gal) with
    | none => rfl
    | some w =>
      have hwl := wwB_len hq
      simp only [Option.isSome_some, br_true, Option.getD_some, specBrk_eq a b c (w := w) (lines := lines) (by omega) hl, Option.bind_some]
theorem implGal_eq : impl_GalleyOk s ws so a b c gal = some ((galB s ws so a b c gal, ()), (), ()) := by
  unfold impl_GalleyOk galB
  rw [implGal_loop hs hw ho hg a b c, Option.bind_some]
  cases hr : runF (lineF gal) 0 gal.length [] with
  | none => rfl
  | some lines =>
    have hl : lines.length ≤ 1048577 := by
      have := lineF_len gal gal.length 0 [] hr
      simp at this; omega
    simp only [sumK_inr]
    rw [implText_eq2 (l := gal) (by omega) (by omega), Option.bind_some]
    simp only [implWW_eq hs hw ho (jn_small hs hw ho hg), Option.bind_some]
    cases hq : wwB s ws so (jn gal) with
    | none => rfl
    | some w =>
      have hwl := wwB_len hq
      simp only [Option.isSome_some, br_true, Option.getD_some, implBrk_eq a b c (w := w) (lines := lines) (by omega) hl, Option.bind_some]
end
end Go.Tree
namespace Go.Tree
def difG (T L : List ByteArray) : Nat → List Int
  | 0 => []
  | i + 1 => if (!strEq (T.getD i ByteArray.empty) (L.getD i ByteArray.empty)) = true then difG T L i ++ [(i : Int)] else difG T L i
theorem difG_succ (T L : List ByteArray) (i : Nat) : difG T L (i + 1) = if (!strEq (T.getD i ByteArray.empty) (L.getD i ByteArray.empty)) = true then difG T L i ++ [(i : Int)] else difG T L i := rfl
theorem difG_len (T L : List ByteArray) : ∀ i, (difG T L i).length ≤ i
  | 0 => by simp [difG]
  | i + 1 => by
    have := difG_len T L i
    unfold difG
    split
    · simp; omega
    · omega
section
variable {T L : List ByteArray} (hl : L.length ≤ 1048576) (ht : T.length = L.length) (m : Mach)
include hl ht
theorem specDif_loop : loopC spec_CastGalley_s0 ((L, (), (), (), (), (T.length : Int), (0 : Int), ()), ((ByteArray.empty, (), (), (), (0 : Int), (0 : Int), (0 : Int), (0 : Int), (), (), ()), m.top, ()), ([], T, m.ws, m.so, m.d, m.f, m.g, ())) =
    some (((), (), (), ()), ((ByteArray.empty, (), (), (), (0 : Int), (0 : Int), (0 : Int), (0 : Int), (), (), ()), m.top, ()), (difG T L L.length, m.ws, m.so, m.d, m.f, m.g, ())) := by
  have h := loop_for (s := spec_CastGalley_s0) (fun i => ((L, (), (), (), (), (T.length : Int), (i : Int), ()), ((ByteArray.empty, (), (), (), (0 : Int), (0 : Int), (0 : Int), (0 : Int), (), (), ()), m.top, ()), (difG T L i, T, m.ws, m.so, m.d, m.f, m.g, ()))) L.length
    (((), (), (), ()), ((ByteArray.empty, (), (), (), (0 : Int), (0 : Int), (0 : Int), (0 : Int), (), (), ()), m.top, ()), (difG T L L.length, m.ws, m.so, m.d, m.f, m.g, ())) (by
    intro i hi
    have hd := difG_len T L i
    simp only [spec_CastGalley_s0, Int.toNat_natCast]
    rw [decide_eq_true (by omega), br_true, ck_pos (by omega), ck_pos (by omega), ck_pos (by omega), ck_pos (by omega), ck_pos hi, w64_succ hi (by unfold maxLen; omega), difG_succ]
    by_cases hb : (!strEq (T.getD i ByteArray.empty) (L.getD i ByteArray.empty)) = true
    · rw [if_pos hb, hb, br_true, ck_pos (by simp; omega)]
    · rw [if_neg hb, Bool.eq_false_iff.2 hb, br_false]) (by
    simp only [spec_CastGalley_s0]
    rw [decide_eq_false (by omega), br_false])
  exact h
theorem implDif_loop : loopC impl_CastGalley_s0 (((), (), (), (), L, (L.length : Int), (0 : Int), ()), ((ByteArray.empty, (), (), (), (0 : Int), (0 : Int), (0 : Int), (0 : Int), (), (), ()), m.top, ()), (T, [], m.ws, m.so, m.d, m.f, m.g, ())) =
    some (((), (), (), ()), ((ByteArray.empty, (), (), (), (0 : Int), (0 : Int), (0 : Int), (0 : Int), (), (), ()), m.top, ()), (difG T L L.length, m.ws, m.so, m.d, m.f, m.g, ())) := by
  have h := loop_for (s := impl_CastGalley_s0) (fun i => (((), (), (), (), L, (L.length : Int), (i : Int), ()), ((ByteArray.empty, (), (), (), (0 : Int), (0 : Int), (0 : Int), (0 : Int), (), (), ()), m.top, ()), (T, difG T L i, m.ws, m.so, m.d, m.f, m.g, ()))) L.length
    (((), (), (), ()), ((ByteArray.empty, (), (), (), (0 : Int), (0 : Int), (0 : Int), (0 : Int), (), (), ()), m.top, ()), (difG T L L.length, m.ws, m.so, m.d, m.f, m.g, ())) (by
    intro i hi
    have hd := difG_len T L i
    simp only [impl_CastGalley_s0, Int.toNat_natCast]
    rw [decide_eq_true (by omega), br_true, ck_pos (by omega), ck_pos hi, ck_pos (by omega), ck_pos (by omega), ck_pos (by omega), w64_succ hi (by unfold maxLen; omega), difG_succ]
    by_cases hb : (!strEq (T.getD i ByteArray.empty) (L.getD i ByteArray.empty)) = true
    · rw [if_pos hb, hb, br_true, ck_pos (by simp; omega)]
    · rw [if_neg hb, Bool.eq_false_iff.2 hb, br_false]) (by
    simp only [impl_CastGalley_s0]
    rw [decide_eq_false (by omega), br_false])
  exact h
end
def cgQ (m : Mach) (L : List ByteArray) : Option (Mach × List Int) :=
  if m.ok = true ∧ ¬ ((m.f.length : Int) > 0) ∧ galB m.s m.ws m.so m.a m.b m.c L = true then (setQ m L).map fun p => (p.1, difG p.2 L L.length) else none
def cgY (m : Mach) (L : List ByteArray) : Mach := match cgQ m L with | some p => p.1 | none => Mach.no
def cgT (m : Mach) (L : List ByteArray) : List Int := match cgQ m L with | some p => p.2 | none => []
def cgB (m : Mach) (L : List ByteArray) : Bool := (cgQ m L).isSome
theorem setQ_ok {m : Mach} (h : m.Sm) {L : List ByteArray} {p : Mach × List ByteArray} (hq : setQ m L = some p) : p.1.Sm ∧ p.2.length = L.length := by
  unfold setQ at hq
  split at hq
  · obtain ⟨k1, k2⟩ := setR_small L m [] p.1 p.2 h hq
    exact ⟨k1, by simpa using k2⟩
  · cases hq
theorem cgY_sm {m : Mach} (h : m.Sm) {L : List ByteArray} : (cgY m L).Sm ∧ (cgT m L).length ≤ L.length := by
  unfold cgY cgT cgQ
  by_cases hc : m.ok = true ∧ ¬ ((m.f.length : Int) > 0) ∧ galB m.s m.ws m.so m.a m.b m.c L = true
  · rw [if_pos hc]
    cases hq : setQ m L with
    | none => exact ⟨Mach.no_sm, Nat.zero_le _⟩
    | some p => exact ⟨(setQ_ok h hq).1, difG_len _ _ _⟩
  · rw [if_neg hc]; exact ⟨Mach.no_sm, Nat.zero_le _⟩
section
variable {m : Mach} (h : m.Sm) {L : List ByteArray} (hg : L.length + totS L ≤ 1048576)
include h hg
theorem specCG_eq : spec_CastGalley m.s m.ws m.so m.d m.e m.a m.b m.c m.f m.g L = some (((cgY m L).top, (), cgB m L, ()), (), ((cgY m L).ws, (cgY m L).so, (cgY m L).d, (cgY m L).f, (cgY m L).g, cgT m L, ())) := by
  have hx : ∀ x ∈ L, x.size ≤ 1048576 := fun x hx => by have := size_tot hx; omega
  have S := specSet_eq h (lines := L) (by omega) hx
  simp only [spec_CastGalley, specOk_eq h, specGal_eq h.s h.ws h.so hg m.a m.b m.c, S, Option.bind_some]
  unfold cgY cgT cgB cgQ
  by_cases hm : m.ok = true
  · by_cases hf : (m.f.length : Int) > 0
    · rw [if_neg (fun x => x.2.1 hf), hm, Bool.not_true, br_false, decide_eq_true hf, br_true]; rfl
    · by_cases hb : galB m.s m.ws m.so m.a m.b m.c L = true
      · rw [if_pos ⟨hm, hf, hb⟩, hm, Bool.not_true, br_false, decide_eq_false hf, br_false, hb, Bool.not_true, br_false]
        unfold setY setT setB2
        cases hq : setQ m L with
        | none => rfl
        | some p =>
          simp only [Option.isSome_some, Bool.not_true, br_false]
          have D := specDif_loop (T := p.2) (L := L) (by omega) (setQ_ok h hq).2 p.1
          refine (congrArg (fun o => Option.bind o _) D).trans ?_
          rfl
      · rw [if_neg (fun x => hb x.2.2), hm, Bool.not_true, br_false, decide_eq_false hf, br_false, Bool.eq_false_iff.2 hb, Bool.not_false, br_true]; rfl
  · rw [if_neg (fun x => hm x.1), Bool.eq_false_iff.2 hm, Bool.not_false, br_true]; rfl
theorem implCG_eq : impl_CastGalley m.s m.ws m.so m.d m.e m.a m.b m.c m.f m.g L = some (((cgY m L).top, (), cgB m L, ()), (), ((cgY m L).ws, (cgY m L).so, (cgY m L).d, (cgY m L).f, (cgY m L).g, cgT m L, ())) := by
  have hx : ∀ x ∈ L, x.size ≤ 1048576 := fun x hx => by have := size_tot hx; omega
  have S := implSet_eq h (lines := L) (by omega) hx
  simp only [impl_CastGalley, implOk_eq h, implGal_eq h.s h.ws h.so hg m.a m.b m.c, S, Option.bind_some]
  unfold cgY cgT cgB cgQ
  by_cases hm : m.ok = true
  · by_cases hf : (m.f.length : Int) > 0
    · rw [if_neg (fun x => x.2.1 hf), hm, Bool.not_true, br_false, decide_eq_true hf, br_true]; rfl
    · by_cases hb : galB m.s m.ws m.so m.a m.b m.c L = true
      · rw [if_pos ⟨hm, hf, hb⟩, hm, Bool.not_true, br_false, decide_eq_false hf, br_false, hb, Bool.not_true, br_false]
        unfold setY setT setB2
        cases hq : setQ m L with
        | none => rfl
        | some p =>
          simp only [Option.isSome_some, Bool.not_true, br_false]
          have D := implDif_loop (T := p.2) (L := L) (by omega) (setQ_ok h hq).2 p.1
          refine (congrArg (fun o => Option.bind o _) D).trans ?_
          rfl
      · rw [if_neg (fun x => hb x.2.2), hm, Bool.not_true, br_false, decide_eq_false hf, br_false, Bool.eq_false_iff.2 hb, Bool.not_false, br_true]; rfl
  · rw [if_neg (fun x => hm x.1), Bool.eq_false_iff.2 hm, Bool.not_false, br_true]; rfl
end
theorem law_CG (m : Mach) (L : List ByteArray) (hs : m.s.size ≤ maxLen) (hw : m.ws.length ≤ maxLen) (ho : m.so.length ≤ maxLen) (hd : m.d.length ≤ maxLen)
    (hd' : ∀ c ∈ m.d, c.length ≤ maxLen) (hf : m.f.length ≤ maxLen) (hg : m.g.length ≤ maxLen) (hll : L.length ≤ maxLen) (hlx : ∀ x ∈ L, x.size ≤ maxLen) : laws_FnExactCastGalley m.s m.ws m.so m.d m.e m.a m.b m.c m.f m.g L = some ((true, ()), (), ()) := by
  obtain ⟨q, er, r1, r2, r3⟩ := szM_eq m hs hw ho hd hd' hf hg (n := 1048576) (by omega) (by omega)
  simp only [laws_FnExactCastGalley, er, Option.bind_some]
  by_cases h : q < 0
  · rw [decide_eq_true h]; rfl
  · have sm := r3 (by omega)
    obtain ⟨q2, er2, p1, p2, p3⟩ := szStringT_eq (l := L) (n := q) (by omega) (by omega) hll hlx
    rw [decide_eq_false h, br_false]
    simp only [er2, Option.bind_some]
    by_cases h2 : q2 < 0
    · rw [decide_eq_true h2]; rfl
    · have hgl : L.length + totS L ≤ 1048576 := by have := p3 (by omega); omega
      have hl : L.length ≤ 1048576 := by omega
      have T := toM_eq sm
      have TS := toStringS_eq hl
      have S := specCG_eq sm hgl
      have I := implCG_eq sm hgl
      have Q := eqM_refl sm
      have QS := eqStringS_refl hl
      have M := markM_eq sm (k := 1) (by omega) (by omega)
      have b1 := Mach.tot_bound sm 1
      have MS := markStringS_eq (l := L) (k := m.tot 1) (by omega) (by omega) hl
      obtain ⟨sm2, tl⟩ := cgY_sm sm (L := L)
      generalize cgY m L = y at *
      generalize cgT m L = z at *
      generalize cgB m L = ob at *
      have hz : z.length ≤ 1048576 := by omega
      have Q2 := eqM_refl sm2
      have b2 := Mach.tot_bound sm2 1
      have M2 := markM_eq sm2 (k := 1) (by omega) (by omega)
      have H2 := heldM_eq sm2 (k := 1) (by omega) (by omega)
      have K := markIntS_eq (l := z) (k := y.tot 1) (by omega) (by omega) hz
      have Hd := heldIntS_eq (k := y.tot 1) (n := z.length) (by omega) (by omega) hz
      have Q3 := eqIntS_refl (l := z) hz
      have d1 : decide (m.tot 1 + (L.length : Int) < 0) = false := decide_eq_false (by omega)
      have d2 : decide (y.tot 1 < 0) = false := decide_eq_false (by omega)
      have d3 : decide (y.tot 1 + (z.length : Int) < 0) = false := decide_eq_false (by omega)
      rw [decide_eq_false h2, br_false, T, Option.bind_some]
      simp only [TS, S, I, Option.bind_some, Q, QS, Q2, M, MS, M2, H2, K, Hd, Q3, Bool.not_true, br_false, bne_self_eq_false, d1, d2, d3]
theorem row_CastGalley : ∀ x : laws_FnExactCastGalley_C.arg.den, wfP laws_FnExactCastGalley_C.arg.tm x.1 → ∃ y : altDen laws_FnExactCastGalley_C.res, laws_FnExactCastGalley_C.F x = some y ∧ (altMk laws_FnExactCastGalley_C.res y).tm = [(0, .c (.v (.bool true)))] :=
  fun x hx => ⟨((true, ()), (), ()), law_CG ⟨x.1.1.1, x.1.1.2.1, x.1.1.2.2.1, x.1.1.2.2.2.1, x.1.1.2.2.2.2.1, x.1.1.2.2.2.2.2.1, x.1.1.2.2.2.2.2.2.1, x.1.1.2.2.2.2.2.2.2.1, x.1.1.2.2.2.2.2.2.2.2.1, x.1.1.2.2.2.2.2.2.2.2.2.1⟩ _
    hx.1.1 hx.1.2.1.1 hx.1.2.2.1.1 hx.1.2.2.2.1.1 (fun c hc => (hx.1.2.2.2.1.2 c hc).1) hx.1.2.2.2.2.2.2.2.2.1.1 hx.1.2.2.2.2.2.2.2.2.2.1.1 hx.2.1.1 (fun c hc => hx.2.1.2 c hc), rfl⟩
end Go.Tree
