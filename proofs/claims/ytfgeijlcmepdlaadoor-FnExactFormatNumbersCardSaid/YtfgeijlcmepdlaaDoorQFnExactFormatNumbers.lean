/- What the functions of the law FnExactFormatNumbers answer, in plain Lean, with no program in sight. No condition but the bounds of lengths. -/
import Derived.Test.YtfgeijlcmepdlaaDoorK8
import Derived.Test.YtfgeijlcmepdlaaDoorPFnExactFormatNumbers
namespace Go.Tree
set_option linter.unusedVariables false

@[simp] theorem br_true {α : Type} (x y : α) : br true x y = x := rfl
@[simp] theorem br_false {α : Type} (x y : α) : br false x y = y := rfl
theorem br_ite {α : Type} (b : Bool) (x y : α) : br b x y = if b = true then x else y := by cases b <;> rfl
@[simp] theorem sumK_inl {X Y α : Type} (z : X) (f : X → α) (g : Y → α) : sumK (.inl z : X ⊕ Y) f g = f z := rfl
@[simp] theorem sumK_inr {X Y α : Type} (z : Y) (f : X → α) (g : Y → α) : sumK (.inr z : X ⊕ Y) f g = g z := rfl
theorem ck_pos {α : Type} {p : Prop} [Decidable p] (h : p) (x : Option α) : ck p x = x := ck_yes h x
theorem w64_id {x : Int} (h1 : -9223372036854775808 ≤ x) (h2 : x ≤ 9223372036854775807) : w64 x = x := by
  simp only [w64, IntKind.wrap, IntKind.bits, IntKind.signed, Bool.true_and]
  by_cases h : x % 2 ^ 64 ≥ 2 ^ (64 - 1)
  · rw [if_pos (by simpa using h)]; omega
  · rw [if_neg (by simpa using h)]; omega
theorem w64_succ {i n : Nat} (h : i < n) (hn : n ≤ maxLen) : w64 ((i : Int) + 1) = ((i + 1 : Nat) : Int) := by
  unfold maxLen at hn
  rw [w64_id] <;> omega
theorem i64_range {n : Int} (h : I64 n) : -9223372036854775808 ≤ n ∧ n ≤ 9223372036854775807 := Go.bounds_i64 h

section
variable {X Z : Type} {s : X → Option (X ⊕ Z)}
theorem loop_step {x y : X} (h : s x = some (.inl y)) : loopC s x = loopC s y := by rw [loopC_eq, h]
theorem loop_out {x : X} {z : Z} (h : s x = some (.inr z)) : loopC s x = some z := by rw [loopC_eq, h]

/-- a counted loop that may leave early -/
theorem loop_findFrom (st : Nat → X) (n : Nat) (f : Nat → Option Z) (done : Z)
    (hs : ∀ i, i < n → s (st i) = some (match f i with | some z => .inr z | none => .inl (st (i + 1)))) (hd : s (st n) = some (.inr done)) : ∀ k i, i + k = n →
    loopC s (st i) = some (((List.range' i k).findSome? f).getD done)
  | 0, i, e => by
    have : i = n := by omega
    subst this
    rw [loop_out hd]; rfl
  | k + 1, i, e => by
    have h := hs i (by omega)
    rw [List.range'_succ, List.findSome?_cons]
    cases hf : f i with
    | some z => rw [hf] at h; rw [loop_out h]; rfl
    | none => rw [hf] at h; rw [loop_step h]; exact loop_findFrom st n f done hs hd k (i + 1) (by omega)
theorem loop_find (st : Nat → X) (n : Nat) (f : Nat → Option Z) (done : Z)
    (hs : ∀ i, i < n → s (st i) = some (match f i with | some z => .inr z | none => .inl (st (i + 1)))) (hd : s (st n) = some (.inr done)) :
    loopC s (st 0) = some (((List.range n).findSome? f).getD done) := by
  rw [loop_findFrom st n f done hs hd n 0 (by omega), List.range_eq_range']
/-- a counted loop whose state is known at every turn -/
theorem loop_for (st : Nat → X) (n : Nat) (done : Z) (hs : ∀ i, i < n → s (st i) = some (.inl (st (i + 1)))) (hd : s (st n) = some (.inr done)) : loopC s (st 0) = some done := by
  rw [loop_find st n (fun _ => none) done (fun i hi => by rw [hs i hi]) hd]
  congr 1
  generalize List.range n = l
  induction l with
  | nil => rfl
  | cons a l ih => simpa using ih
end
/-- the first i of l, zeros behind -/
def fillTo {α : Type} (l : List α) (d : α) (i : Nat) : List α := l.take i ++ List.replicate (l.length - i) d
theorem fillTo_zero {α : Type} (l : List α) (d : α) : fillTo l d 0 = List.replicate l.length d := by simp [fillTo]
theorem fillTo_all {α : Type} (l : List α) (d : α) : fillTo l d l.length = l := by simp [fillTo]
theorem fillTo_length {α : Type} (l : List α) (d : α) {i : Nat} (h : i ≤ l.length) : (fillTo l d i).length = l.length := by simp [fillTo]; omega
theorem fillTo_set {α : Type} (l : List α) (d e : α) {i : Nat} (h : i < l.length) : (fillTo l d i).set i (l.getD i e) = fillTo l d (i + 1) := by
  rw [List.getD_eq_getElem?_getD, List.getElem?_eq_getElem h, Option.getD_some]
  apply List.ext_getElem?
  intro j
  unfold fillTo
  rw [List.getElem?_set]
  have m1 : (l.take i).length = i := by simp; omega
  have m2 : (l.take (i + 1)).length = i + 1 := by simp; omega
  have L : (l.take i ++ List.replicate (l.length - i) d).length = l.length := by simp; omega
  rw [L]
  by_cases hji : i = j
  · subst hji
    rw [if_pos rfl, if_pos h, List.getElem?_append_left (by omega), List.getElem?_take_of_lt (by omega), List.getElem?_eq_getElem h]
  · rw [if_neg hji]
    by_cases hj : j < i
    · rw [List.getElem?_append_left (by omega), List.getElem?_append_left (by omega), List.getElem?_take_of_lt hj, List.getElem?_take_of_lt (by omega)]
    · rw [List.getElem?_append_right (by omega), List.getElem?_append_right (by omega), m1, m2, List.getElem?_replicate, List.getElem?_replicate]
      by_cases h2 : j < l.length
      · rw [if_pos (by omega), if_pos (by omega)]
      · rw [if_neg (by omega), if_neg (by omega)]
end Go.Tree
namespace Go.Tree
set_option linter.unusedVariables false
set_option linter.unusedSimpArgs false

theorem big_len {n : Nat} (h : n ≤ 1048576) : n ≤ maxLen := by unfold maxLen; omega
/-- what a size says -/
def Sz (F : Option ((Int × Unit) × Unit × Unit)) (n : Int) (Q : Prop) : Prop := ∃ r : Int, F = some ((r, ()), (), ()) ∧ -1 ≤ r ∧ r ≤ n ∧ (0 ≤ r → Q)
/-- size after size -/
theorem Sz.bind {F : Option ((Int × Unit) × Unit × Unit)} {n : Int} {Q R : Prop} (h : Sz F n Q) {G : (Int × Unit) × Unit × Unit → Option ((Int × Unit) × Unit × Unit)}
    (hG : ∀ r, 0 ≤ r → r ≤ n → Q → Sz (G ((r, ()), (), ())) n R) : Sz (F.bind fun r => br (decide (r.1.1 < (0 : Int))) (some (((-1 : Int), ()), (), ())) (G r)) n R := by
  obtain ⟨r, rfl, h1, h2, h3⟩ := h
  rw [Option.bind_some, br_ite]
  by_cases h : r < 0
  · rw [if_pos (by simpa using h)]; exact ⟨-1, rfl, by omega, by omega, by omega⟩
  · rw [if_neg (by simpa using h)]; exact hG r (by omega) h2 (h3 (by omega))
theorem toIntS_eq {l : List Int} (hl : l.length ≤ 1048576) : laws_toIntS l = some (((), ()), (), (l, ())) := by
  have h := loop_for (s := laws_toIntS_s0) (fun i => ((l, (), (i : Int), ()), (), (fillTo l 0 i, ()))) l.length (((), ()), (), (l, ())) (by
    intro i hi
    simp only [laws_toIntS_s0, Int.toNat_natCast, br_ite, decide_eq_true_eq, Int.ofNat_lt, fillTo_length l 0 (Nat.le_of_lt hi)]
    rw [if_pos hi, ck_pos (by omega), ck_pos hi, ck_pos (by omega), ck_pos hi, ck_pos hi, fillTo_set l 0 0 hi, w64_succ hi (big_len hl)]) (by
    simp only [laws_toIntS_s0, br_ite, fillTo_all]
    rw [if_neg (by simp)])
  simp only [laws_toIntS, Int.toNat_natCast]
  rw [ck_pos (by omega), ck_pos (by omega), ck_pos ⟨trivial, by omega, by omega⟩, ← fillTo_zero l 0]
  rw [show ((0 : Int)) = ((0 : Nat) : Int) from rfl] at *
  rw [h]
  rfl
end Go.Tree
namespace Go.Tree
set_option linter.unusedVariables false
set_option linter.unusedSimpArgs false
theorem strEq_refl (a : ByteArray) : strEq a a = true := by simp [strEq]
theorem eqIntS_refl {l : List Int} (hl : l.length ≤ 1048576) : laws_eqIntS l l = some ((true, ()), (), ()) := by
  have h := loop_for (s := laws_eqIntS_s0) (fun i => ((l, l, (i : Int), ()), (), ())) l.length (.inr ((), (), ())) (by
    intro i hi
    simp only [laws_eqIntS_s0, Int.toNat_natCast, br_ite, decide_eq_true_eq, Int.ofNat_lt]
    rw [if_pos hi, ck_pos (by omega), ck_pos hi, ck_pos (by omega), ck_pos hi, if_neg (by simp), w64_succ hi (big_len hl)]) (by
    simp only [laws_eqIntS_s0, br_ite]
    rw [if_neg (by simp)])
  simp only [laws_eqIntS, br_ite]
  rw [if_neg (by simp)]
  exact congrArg (fun o => Option.bind o fun r7 => sumK r7 (fun y10 => some ((y10.1.1, ()), (), ())) (fun y11 => some ((true, ()), (), ()))) h
end Go.Tree
namespace Go.Tree
set_option linter.unusedVariables false
set_option linter.unusedSimpArgs false

theorem getD_mem {α : Type} {l : List α} {d : α} {i : Nat} (h : i < l.length) : l.getD i d ∈ l := by
  rw [List.getD_eq_getElem?_getD, List.getElem?_eq_getElem h]; exact List.getElem_mem h
abbrev inB (a lo hi : Int) : Bool := decide (lo ≤ a ∧ a ≤ hi)
def part (a b : Int) : Bool := bAndNot .i64 a b == 0
def setB (a : Int) : Bool := inB a 0 127
def fallN (bar : List Int) (k : Int) : Nat := bar.findIdx fun s => part k s

def isBar (l : List Int) : Bool := l.all setB && inB l.length 1 40
def sortsAll (l : List Int) : Bool := (List.range l.length).all (fun i => fallN l (l.getD i 0) == i) && isBar l
end Go.Tree
namespace Go.Tree
set_option linter.unusedVariables false
set_option linter.unusedSimpArgs false

/-- letter number i is fit, and new -/
def letterB (s : ByteArray) (i : Nat) : Bool := decide (33 ≤ byteAt s i) && (decide (byteAt s i ≤ 126) && (List.range i).all fun j => byteAt s i != byteAt s j)
def fontOk (s : ByteArray) (ws so : List Int) : Bool :=
  inB s.size 1 40 && (ws.length == s.size && (so.length == s.size && (sortsAll so && ((List.range s.size).all (fun i => letterB s i) && ws.all fun x => inB x 1 60))))

end Go.Tree
namespace Go.Tree
set_option linter.unusedVariables false
set_option linter.unusedSimpArgs false

def ofFont (s : ByteArray) (so : List Int) (m : Int × Int) : Bool := decide (0 ≤ m.1 ∧ m.1 < s.size) && (setB m.2 && part m.2 (so.getD m.1.toNat 0))
section
variable {s : ByteArray} {ws so : List Int} {d : List (List (Int × Int))} (hs : s.size ≤ 1048576) (hw : ws.length ≤ 1048576) (ho : so.length ≤ 1048576) (hd : d.length ≤ 1048576) (hd' : ∀ c ∈ d, c.length ≤ 1048576)
include hs hw ho hd hd'
end
/-- a band -/
def bandB (m : Int × Int) : Bool := m.1 == -1 && m.2 == 0
section
variable {s : ByteArray} {ws so : List Int} (e1 : ws.length = s.size) {l : List (Int × Int)} (hl : l.length ≤ 1048576) (hall : ∀ m ∈ l, (bandB m || ofFont s so m) = true)
include e1 hall
include hl
end
end Go.Tree
namespace Go.Tree
set_option linter.unusedVariables false
set_option linter.unusedSimpArgs false

section
variable {s : ByteArray} {ws so : List Int} {d : List (List (Int × Int))} {e a b c : Int} {f g : List (Int × Int)} (hs : s.size ≤ 1048576) (hw : ws.length ≤ 1048576) (ho : so.length ≤ 1048576) (hd : d.length ≤ 1048576) (hd' : ∀ c ∈ d, c.length ≤ 1048576)
  (hf : f.length ≤ 1048576) (hg : g.length ≤ 1048576)
include hs hw ho hd hd' hf hg
end
end Go.Tree
namespace Go.Tree
set_option linter.unusedVariables false
end Go.Tree
namespace Go.Tree
set_option linter.unusedVariables false
set_option linter.unusedSimpArgs false
end Go.Tree
namespace Go.Tree
set_option linter.unusedVariables false
set_option linter.unusedSimpArgs false
theorem i64_max : IntKind.i64.max = 9223372036854775807 := rfl
end Go.Tree
namespace Go.Tree
set_option linter.unusedVariables false
set_option linter.unusedSimpArgs false
/-- a machine -/
structure Mach where
  s : ByteArray
  ws : List Int
  so : List Int
  d : List (List (Int × Int))
  e : Int
  a : Int
  b : Int
  c : Int
  f : List (Int × Int)
  g : List (Int × Int)
structure Mach.Sm (m : Mach) : Prop where
  s : m.s.size ≤ 1048576
  ws : m.ws.length ≤ 1048576
  so : m.so.length ≤ 1048576
  d : m.d.length ≤ 1048576
  d' : ∀ x ∈ m.d, x.length ≤ 1048576
  f : m.f.length ≤ 1048576
  g : m.g.length ≤ 1048576
section
variable {m : Mach} (h : m.Sm)
include h
end
end Go.Tree
namespace Go.Tree
set_option linter.unusedVariables false
set_option linter.unusedSimpArgs false
section
variable {m : Mach} (h : m.Sm)
include h
end
end Go.Tree
namespace Go.Tree
set_option linter.unusedVariables false
set_option linter.unusedSimpArgs false
end Go.Tree
namespace Go.Tree
open Go
set_option linter.unusedVariables false
set_option linter.unusedSimpArgs false
set_option linter.unusedSectionVars false
section
variable {s : ByteArray} {ws so : List Int} (hs : s.size ≤ 1048576) (hw : ws.length ≤ 1048576) (ho : so.length ≤ 1048576) (hf : fontOk s ws so = true)
include hs hw ho hf
end
section
variable {s : ByteArray} {ws so : List Int} (hs : s.size ≤ 1048576) (hw : ws.length ≤ 1048576) (ho : so.length ≤ 1048576)
include hs hw ho
end
end Go.Tree
namespace Go.Tree
open Go
set_option linter.unusedVariables false
set_option linter.unusedSimpArgs false
abbrev dl (s : ByteArray) : List UInt8 := s.data.toList
theorem dl_eq (s : ByteArray) : (⟨(dl s).toArray⟩ : ByteArray) = s := by
  cases s with
  | mk d => show (⟨d.toList.toArray⟩ : ByteArray) = ⟨d⟩; rw [Array.toArray_toList]
theorem dl_append (s t : ByteArray) : dl (s ++ t) = dl s ++ dl t := by show (s ++ t).data.toList = s.data.toList ++ t.data.toList; rw [ByteArray.data_append, Array.toList_append]
theorem dl_len (s : ByteArray) : (dl s).length = s.size := by show s.data.toList.length = s.data.size; rw [Array.length_toList]
/-- The strings of a list, with blanks between. -/
def jn (l : List ByteArray) : ByteArray := ⟨(Lib.join (l.map dl) [32]).toArray⟩
def totS (l : List ByteArray) : Nat := (l.map ByteArray.size).sum
theorem lens_tot : ∀ l : List ByteArray, Lib.lens (l.map dl) = totS l
  | [] => rfl
  | s :: t => by
    have := lens_tot t
    simp only [Lib.lens, totS, List.map_cons, List.sum_cons] at this ⊢
    rw [this, dl_len]
theorem totS_cons (s : ByteArray) (t : List ByteArray) : totS (s :: t) = s.size + totS t := by simp [totS]
theorem join_len (l : List ByteArray) : (Lib.join (l.map dl) [32]).length ≤ l.length + totS l := by
  cases l with
  | nil => simp [Lib.join_nil]
  | cons s t =>
    rw [List.map_cons, Lib.join_cons, List.length_append, Lib.joinTail_length, dl_len, lens_tot, List.length_map, totS_cons]
    simp; omega
theorem jn_size (l : List ByteArray) : (jn l).size ≤ l.length + totS l := join_len l
theorem totS_le {l : List ByteArray} {n : Nat} (h : ∀ x ∈ l, x.size ≤ n) : totS l ≤ l.length * n := by
  induction l with
  | nil => simp [totS]
  | cons x l ih =>
    have h1 := h x (by simp)
    have h2 := ih fun y hy => h y (List.mem_cons_of_mem _ hy)
    rw [totS_cons, List.length_cons, Nat.succ_mul]
    omega
theorem totS_take (l : List ByteArray) (i : Nat) : totS (l.take i) ≤ totS l := by
  have h : totS l = totS (l.take i) + totS (l.drop i) := by
    conv => lhs; rw [← List.take_append_drop i l]
    unfold totS
    rw [List.map_append, List.sum_append]
  omega
theorem jn_succ {l : List ByteArray} {i : Nat} (h : i < l.length) : jn (l.take (i + 1)) = if 0 < i then (jn (l.take i) ++ ByteArray.mk #[32]) ++ l.getD i .empty else jn (l.take i) ++ l.getD i .empty := by
  have hx : l[i]? = some (l.getD i .empty) := by rw [List.getD_eq_getElem?_getD, List.getElem?_eq_getElem h]; rfl
  obtain ⟨x, hxx⟩ : ∃ x, l.getD i .empty = x := ⟨_, rfl⟩
  rw [hxx] at hx ⊢
  match l, h with
  | y :: t, h =>
    cases i with
    | zero =>
      have : y = x := by simpa using hx
      subst this
      rw [if_neg (by omega)]
      show jn [y] = jn [] ++ y
      have e1 : jn [y] = y := by show (⟨(Lib.join [dl y] [32]).toArray⟩ : ByteArray) = y; rw [Lib.join_one]
      have e2 := dl_eq (jn [] ++ y)
      rw [dl_append, show dl (jn []) = [] from rfl, List.nil_append, dl_eq] at e2
      rw [e1]; exact e2
    | succ i =>
      rw [if_pos (by omega)]
      have hx' : (t.map dl)[i]? = some (dl x) := by rw [List.getElem?_map]; rw [List.getElem?_cons_succ] at hx; rw [hx]; rfl
      have e1 : ∀ k, Lib.join (((y :: t).take (k + 1)).map dl) [32] = dl y ++ Lib.joinTail [32] ((t.map dl).take k) := fun k => by
        rw [List.take_succ_cons, List.map_cons, Lib.join_cons, List.map_take]
      have e3 := dl_eq ((jn ((y :: t).take (i + 1)) ++ ByteArray.mk #[32]) ++ x)
      rw [dl_append, dl_append] at e3
      rw [← e3]
      unfold jn
      rw [e1, e1, Lib.joinTail_take_succ [32] (t.map dl) i (dl x) hx']
      show _ = (⟨(((dl y ++ Lib.joinTail [32] ((t.map dl).take i)) ++ [32]) ++ dl x).toArray⟩ : ByteArray)
      simp only [List.append_assoc]
theorem specJoin_eq {l : List ByteArray} (hl : l.length ≤ 4194304) (ht : totS l ≤ 70368744177664) : spec_l6Join l = some ((jn l, ()), (), ()) := by
  have h := loop_for (s := spec_l6Join_s0) (fun i => ((jn (l.take i), l, (l.length : Int), (i : Int), ()), (), ())) l.length ((jn l, ()), (), ()) (by
    intro i hi
    have hs := jn_succ hi
    have b1 := jn_size (l.take i)
    have b2 := totS_take l i
    have b3 : (l.take i).length ≤ l.length := by simp; omega
    have b4 : (l.getD i .empty).size ≤ totS l := by
      have := totS_take l (i + 1)
      rw [List.take_succ_eq_append_getElem hi] at this
      simp only [totS, List.map_append, List.sum_append, List.map_cons, List.map_nil, List.sum_cons, List.sum_nil] at this
      rw [List.getD_eq_getElem?_getD, List.getElem?_eq_getElem hi]
      simp only [totS, Option.getD_some]
      omega
    have s1 : (ByteArray.mk #[32]).size = 1 := rfl
    have b5 : ((jn (l.take i) ++ ByteArray.mk #[32]).size : Nat) = (jn (l.take i)).size + 1 := by rw [ByteArray.size_append, s1]
    simp only [spec_l6Join_s0, Int.toNat_natCast]
    rw [decide_eq_true (by omega), br_true, ck_pos (by omega), ck_pos hi]
    by_cases h0 : 0 < i
    · rw [if_pos h0] at hs
      rw [decide_eq_true (by omega), br_true, ck_pos (by rw [i64_max, s1]; omega), ck_pos (by rw [i64_max, b5]; omega), ← hs, w64_succ hi (by unfold maxLen; omega)]
    · rw [if_neg h0] at hs
      rw [decide_eq_false (by omega), br_false, ck_pos (by rw [i64_max]; omega), ← hs, w64_succ hi (by unfold maxLen; omega)]) (by
    simp only [spec_l6Join_s0]
    rw [decide_eq_false (by omega), br_false, List.take_length])
  exact congrArg (fun o => Option.bind o fun r9 => some ((r9.1.1, ()), (), ())) h
theorem implJoin_eq {l : List ByteArray} (hl : l.length ≤ 4194304) (ht : totS l ≤ 70368744177664) : strings_Join l (ByteArray.mk #[32]) = some ((jn l, ()), (), ()) := by
  unfold strings_Join joinF
  have : (Lib.join (l.map (·.data.toList)) [32]).length ≤ l.length + totS l := join_len l
  have e : (ByteArray.mk #[32]).data.toList = [32] := rfl
  rw [e, if_pos ⟨by omega, by omega⟩]
  rfl
end Go.Tree
namespace Go.Tree
open Go Go.Proofs
set_option linter.unusedVariables false
set_option linter.unusedSimpArgs false
def numB (n : Int) : ByteArray := ⟨(Lib.itoa n).toArray⟩
def decB (u : Nat) : ByteArray := ⟨(Lib.decDigits u).toArray⟩
theorem digit_byte {k : Int} (h0 : 0 ≤ k) (h1 : k ≤ 9) : ofBytes [IntKind.u8.wrap (w64 (48 + k))] = ⟨[UInt8.ofNat (48 + k.toNat)].toArray⟩ := by
  rw [w64_id (by omega) (by omega)]
  have e : IntKind.u8.wrap (48 + k) = 48 + k := by
    simp only [IntKind.wrap, IntKind.bits, IntKind.signed, Bool.false_and, Bool.false_eq_true, if_false]
    omega
  unfold ofBytes
  rw [e]
  show (⟨([UInt8.ofNat (48 + k).toNat] : List UInt8).toArray⟩ : ByteArray) = _
  rw [show (48 + k).toNat = 48 + k.toNat from by omega]
theorem dec_small {u : Nat} (h : u < 10) : decB u = ⟨[UInt8.ofNat (48 + u)].toArray⟩ := by unfold decB; rw [Lib.decDigits, dif_pos h]
theorem dec_big {u : Nat} (h : ¬ u < 10) : decB u = decB (u / 10) ++ ⟨[UInt8.ofNat (48 + u % 10)].toArray⟩ := by
  have e := dl_eq (decB (u / 10) ++ ⟨[UInt8.ofNat (48 + u % 10)].toArray⟩)
  rw [dl_append] at e
  rw [← e]
  unfold decB
  conv => lhs; rw [Lib.decDigits, dif_neg h]
theorem dec_size : ∀ (k u : Nat), u < 10 ^ k → (decB u).size ≤ k + 1
  | 0, u, h => by rw [dec_small (by omega)]; exact Nat.le_refl _
  | k + 1, u, h => by
    by_cases h9 : u < 10
    · rw [dec_small h9]; show 1 ≤ _; omega
    · have := dec_size k (u / 10) (by rw [Nat.pow_succ] at h; omega)
      rw [dec_big h9, ByteArray.size_append]
      show _ + 1 ≤ _; omega
theorem i64_max' : IntKind.i64.max = 9223372036854775807 := rfl
theorem app_assoc (a b c : ByteArray) : a ++ b ++ c = a ++ (b ++ c) := by
  have e := dl_eq (a ++ b ++ c)
  have e2 := dl_eq (a ++ (b ++ c))
  rw [← e, ← e2]
  simp only [dl_append, List.append_assoc]
theorem num_loop : ∀ (k u : Nat) (t : ByteArray), u < 10 ^ k → k ≤ 19 → t.size + k ≤ 100 → ∃ v : Nat, ∃ t' : ByteArray, v < 10 ∧ t'.size ≤ 100 ∧ loopC spec_l7Number_s0 (((u : Int), t, ()), (), ()) = some (((v : Int), t', ()), (), ()) ∧ decB u ++ t = ⟨[UInt8.ofNat (48 + v)].toArray⟩ ++ t'
  | 0, u, t, h, hk, ht => ⟨u, t, by omega, by omega, loop_out (by
      simp only [spec_l7Number_s0]
      rw [decide_eq_false (by omega), br_false]), by rw [dec_small (by omega)]⟩
  | k + 1, u, t, h, hk, ht => by
    have hu : u < 10 ^ 19 := Nat.lt_of_lt_of_le h (Nat.pow_le_pow_right (by omega) hk)
    by_cases h9 : u < 10
    · exact ⟨u, t, h9, by omega, loop_out (by
        simp only [spec_l7Number_s0]
        rw [decide_eq_false (by omega), br_false]), by rw [dec_small h9]⟩
    · have hd : ((u : Int)).tdiv 10 = ((u / 10 : Nat) : Int) := by rw [Int.tdiv_eq_ediv_of_nonneg (by omega)]; omega
      have hm : ((u : Int)).tmod 10 = ((u % 10 : Nat) : Int) := by rw [Int.tmod_eq_emod_of_nonneg (by omega)]; omega
      have hb := digit_byte (k := ((u % 10 : Nat) : Int)) (by omega) (by omega)
      rw [Int.toNat_natCast] at hb
      obtain ⟨v, t', h1, h2, h3, h4⟩ := num_loop k (u / 10) (⟨[UInt8.ofNat (48 + u % 10)].toArray⟩ ++ t) (by rw [Nat.pow_succ] at h; omega) (by omega) (by rw [ByteArray.size_append]; show 1 + t.size + k ≤ 100; omega)
      refine ⟨v, t', h1, h2, ?_, ?_⟩
      · rw [← h3]
        refine loop_step ?_
        simp only [spec_l7Number_s0, hd, hm, hb]
        rw [decide_eq_true (by omega), br_true, ck_pos (by rw [i64_max']; show (((1 + t.size : Nat)) : Int) ≤ _; omega), w64_id (by omega) (by omega)]
      · rw [dec_big h9, app_assoc]; exact h4
noncomputable def l7S (f : Int → Option ((ByteArray × Unit) × Unit × Unit)) (a0 : Int) : Option ((ByteArray × Unit) × Unit × Unit) :=
 let x1 : Bool := decide (a0 < (0 : Int));
 br x1
 (let x2 : Bool := decide (a0 > (-10 : Int));
 br x2
 (let x3 : Int := w64 ((48 : Int) - a0);
 let x4 : Int := IntKind.u8.wrap x3;
 let x5 : ByteArray := ofBytes [x4];
 ck ((((ByteArray.mk #[45]).size + x5.size : Nat) : Int) ≤ IntKind.i64.max)
 (let x6 : ByteArray := (ByteArray.mk #[45]) ++ x5;
 some ((x6, ()), (), ())))
 (let x7 : Int := w64 (a0.tdiv (10 : Int));
 let x8 : Int := a0.tmod (10 : Int);
 let x9 : Int := w64 ((48 : Int) - x8);
 let x10 : Int := IntKind.u8.wrap x9;
 both ((f x7).bind fun r11 =>
 let x12 : ByteArray := ofBytes [x10];
 ck (((r11.1.1.size + x12.size : Nat) : Int) ≤ IntKind.i64.max)
 (let x13 : ByteArray := r11.1.1 ++ x12;
 some ((x13, ()), (), ())))
 ((both ((f x7).bind fun r11 =>
 let x12 : ByteArray := ofBytes [x10];
 ck (((r11.1.1.size + x12.size : Nat) : Int) ≤ IntKind.i64.max)
 (let x13 : ByteArray := r11.1.1 ++ x12;
 some ((x13, ()), (), ())))
 ((let x11 : ByteArray := ofBytes [x10];
 (f x7).bind fun r12 =>
 ck (((r12.1.1.size + x11.size : Nat) : Int) ≤ IntKind.i64.max)
 (let x13 : ByteArray := r12.1.1 ++ x11;
 some ((x13, ()), (), ()))))))))
 ((loopC spec_l7Number_s0 ((a0, ByteArray.empty, ()), (), ())).bind fun r21 =>
 let x22 : Int := w64 ((48 : Int) + r21.1.1);
 let x23 : Int := IntKind.u8.wrap x22;
 let x24 : ByteArray := ofBytes [x23];
 ck (((x24.size + r21.1.2.1.size : Nat) : Int) ≤ IntKind.i64.max)
 (let x25 : ByteArray := x24 ++ r21.1.2.1;
 some ((x25, ()), (), ())))
theorem numB_nonneg (u : Nat) : numB (u : Int) = decB u := by unfold numB decB; rw [Lib.itoa_nonneg]
theorem numB_neg {n : Nat} (h : 1 ≤ n) : numB (-(n : Int)) = ByteArray.mk #[45] ++ decB n := by
  have e := dl_eq (ByteArray.mk #[45] ++ decB n)
  rw [dl_append] at e
  rw [← e]
  unfold numB
  rw [Lib.itoa_neg n h]
  rfl
theorem app_empty (a : ByteArray) : a ++ ByteArray.empty = a := by
  have e := dl_eq (a ++ ByteArray.empty)
  rw [dl_append, show dl ByteArray.empty = [] from rfl, List.append_nil, dl_eq] at e
  exact e.symm
theorem l7_nonneg (f : Int → Option ((ByteArray × Unit) × Unit × Unit)) {u : Nat} (h : u ≤ 9223372036854775807) : l7S f (u : Int) = some ((numB (u : Int), ()), (), ()) := by
  obtain ⟨v, t', h1, h2, h3, h4⟩ := num_loop 19 u ByteArray.empty (by omega) (by omega) (by show 0 + 19 ≤ 100; omega)
  have hb := digit_byte (k := (v : Int)) (by omega) (by omega)
  rw [Int.toNat_natCast] at hb
  rw [app_empty] at h4
  simp only [l7S]
  rw [decide_eq_false (by omega), br_false, h3, Option.bind_some]
  simp only [hb]
  rw [ck_pos (by rw [i64_max']; show ((1 + t'.size : Nat) : Int) ≤ _; omega), ← h4, numB_nonneg]
def NegOk (k : Nat) (f : Int → Option ((ByteArray × Unit) × Unit × Unit)) : Prop := ∀ n : Nat, 1 ≤ n → n < 10 ^ k → n ≤ 9223372036854775808 → f (-(n : Int)) = some ((numB (-(n : Int)), ()), (), ())
theorem dig_size (b : UInt8) : (⟨[b].toArray⟩ : ByteArray).size = 1 := rfl
theorem dash_size : (ByteArray.mk #[45]).size = 1 := rfl
theorem l7_neg {f : Int → Option ((ByteArray × Unit) × Unit × Unit)} {k : Nat} (hf : NegOk k f) (hk : k ≤ 19) : NegOk (k + 1) (l7S f) := by
  intro n h1 h2 h3
  simp only [l7S]
  rw [decide_eq_true (by omega), br_true]
  by_cases h9 : n < 10
  · have hb := digit_byte (k := (n : Int)) (by omega) (by omega)
    rw [Int.toNat_natCast] at hb
    rw [decide_eq_true (by omega), br_true, show (48 : Int) - -(n : Int) = 48 + (n : Int) from by omega, hb]
    rw [ck_pos (by rw [i64_max', dash_size, dig_size]; omega), numB_neg h1, dec_small h9]
  · have hd : (-(n : Int)).tdiv 10 = -((n / 10 : Nat) : Int) := by rw [Int.neg_tdiv, Int.tdiv_eq_ediv_of_nonneg (by omega)]; omega
    have hm : (-(n : Int)).tmod 10 = -((n % 10 : Nat) : Int) := by rw [Int.neg_tmod, Int.tmod_eq_emod_of_nonneg (by omega)]; omega
    have hb := digit_byte (k := ((n % 10 : Nat) : Int)) (by omega) (by omega)
    rw [Int.toNat_natCast] at hb
    have hlt : n / 10 < 10 ^ k := by rw [Nat.pow_succ] at h2; omega
    have hs := dec_size k (n / 10) hlt
    have e := hf (n / 10) (by omega) hlt (by omega)
    rw [decide_eq_false (by omega), br_false, hd, hm, w64_id (x := -((n / 10 : Nat) : Int)) (by omega) (by omega), show (48 : Int) - -((n % 10 : Nat) : Int) = 48 + ((n % 10 : Nat) : Int) from by omega, hb, e]
    rw [Option.bind_some, both_self, both_self]
    rw [ck_pos (by rw [i64_max', numB_neg (show 1 ≤ n / 10 by omega), ByteArray.size_append, dash_size, dig_size]; omega), numB_neg h1, numB_neg (show 1 ≤ n / 10 by omega), dec_big h9, app_assoc]
theorem r19_eq : spec_l7Number_r19 = l7S spec_l7Number_r20 := rfl
theorem r18_eq : spec_l7Number_r18 = l7S spec_l7Number_r19 := rfl
theorem r17_eq : spec_l7Number_r17 = l7S spec_l7Number_r18 := rfl
theorem r16_eq : spec_l7Number_r16 = l7S spec_l7Number_r17 := rfl
theorem r15_eq : spec_l7Number_r15 = l7S spec_l7Number_r16 := rfl
theorem r14_eq : spec_l7Number_r14 = l7S spec_l7Number_r15 := rfl
theorem r13_eq : spec_l7Number_r13 = l7S spec_l7Number_r14 := rfl
theorem r12_eq : spec_l7Number_r12 = l7S spec_l7Number_r13 := rfl
theorem r11_eq : spec_l7Number_r11 = l7S spec_l7Number_r12 := rfl
theorem r10_eq : spec_l7Number_r10 = l7S spec_l7Number_r11 := rfl
theorem r9_eq : spec_l7Number_r9 = l7S spec_l7Number_r10 := rfl
theorem r8_eq : spec_l7Number_r8 = l7S spec_l7Number_r9 := rfl
theorem r7_eq : spec_l7Number_r7 = l7S spec_l7Number_r8 := rfl
theorem r6_eq : spec_l7Number_r6 = l7S spec_l7Number_r7 := rfl
theorem r5_eq : spec_l7Number_r5 = l7S spec_l7Number_r6 := rfl
theorem r4_eq : spec_l7Number_r4 = l7S spec_l7Number_r5 := rfl
theorem r3_eq : spec_l7Number_r3 = l7S spec_l7Number_r4 := rfl
theorem r2_eq : spec_l7Number_r2 = l7S spec_l7Number_r3 := rfl
theorem r1_eq : spec_l7Number_r1 = l7S spec_l7Number_r2 := rfl
theorem r0_eq : spec_l7Number = l7S spec_l7Number_r1 := rfl
theorem number_neg : NegOk 20 spec_l7Number := by
  have h20 : NegOk 0 spec_l7Number_r20 := fun n h1 h2 => by omega
  have h19 : NegOk 1 spec_l7Number_r19 := by rw [r19_eq]; exact l7_neg h20 (by omega)
  have h18 : NegOk 2 spec_l7Number_r18 := by rw [r18_eq]; exact l7_neg h19 (by omega)
  have h17 : NegOk 3 spec_l7Number_r17 := by rw [r17_eq]; exact l7_neg h18 (by omega)
  have h16 : NegOk 4 spec_l7Number_r16 := by rw [r16_eq]; exact l7_neg h17 (by omega)
  have h15 : NegOk 5 spec_l7Number_r15 := by rw [r15_eq]; exact l7_neg h16 (by omega)
  have h14 : NegOk 6 spec_l7Number_r14 := by rw [r14_eq]; exact l7_neg h15 (by omega)
  have h13 : NegOk 7 spec_l7Number_r13 := by rw [r13_eq]; exact l7_neg h14 (by omega)
  have h12 : NegOk 8 spec_l7Number_r12 := by rw [r12_eq]; exact l7_neg h13 (by omega)
  have h11 : NegOk 9 spec_l7Number_r11 := by rw [r11_eq]; exact l7_neg h12 (by omega)
  have h10 : NegOk 10 spec_l7Number_r10 := by rw [r10_eq]; exact l7_neg h11 (by omega)
  have h9 : NegOk 11 spec_l7Number_r9 := by rw [r9_eq]; exact l7_neg h10 (by omega)
  have h8 : NegOk 12 spec_l7Number_r8 := by rw [r8_eq]; exact l7_neg h9 (by omega)
  have h7 : NegOk 13 spec_l7Number_r7 := by rw [r7_eq]; exact l7_neg h8 (by omega)
  have h6 : NegOk 14 spec_l7Number_r6 := by rw [r6_eq]; exact l7_neg h7 (by omega)
  have h5 : NegOk 15 spec_l7Number_r5 := by rw [r5_eq]; exact l7_neg h6 (by omega)
  have h4 : NegOk 16 spec_l7Number_r4 := by rw [r4_eq]; exact l7_neg h5 (by omega)
  have h3 : NegOk 17 spec_l7Number_r3 := by rw [r3_eq]; exact l7_neg h4 (by omega)
  have h2 : NegOk 18 spec_l7Number_r2 := by rw [r2_eq]; exact l7_neg h3 (by omega)
  have h1 : NegOk 19 spec_l7Number_r1 := by rw [r1_eq]; exact l7_neg h2 (by omega)
  rw [r0_eq]; exact l7_neg h1 (by omega)
theorem number_eq {x : Int} (h1 : -9223372036854775808 ≤ x) (h2 : x ≤ 9223372036854775807) : spec_l7Number x = some ((numB x, ()), (), ()) := by
  by_cases h : x < 0
  · obtain ⟨n, rfl⟩ : ∃ n : Nat, x = -(n : Int) := ⟨x.natAbs, by omega⟩
    exact number_neg n (by omega) (by omega) (by omega)
  · obtain ⟨n, rfl⟩ : ∃ n : Nat, x = (n : Int) := ⟨x.toNat, by omega⟩
    exact l7_nonneg spec_l7Number_r1 (by omega)
theorem numB_size {x : Int} (h1 : -9223372036854775808 ≤ x) (h2 : x ≤ 9223372036854775807) : (numB x).size ≤ 24 := by
  by_cases h : x < 0
  · obtain ⟨n, rfl⟩ : ∃ n : Nat, x = -(n : Int) := ⟨x.natAbs, by omega⟩
    rw [numB_neg (by omega), ByteArray.size_append]
    have := dec_size 20 n (by omega)
    show 1 + _ ≤ 24; omega
  · obtain ⟨n, rfl⟩ : ∃ n : Nat, x = (n : Int) := ⟨x.toNat, by omega⟩
    rw [numB_nonneg]
    have := dec_size 20 n (by omega)
    omega
theorem itoa_eq {x : Int} (h1 : -9223372036854775808 ≤ x) (h2 : x ≤ 9223372036854775807) : strconv_Itoa x = some ((numB x, ()), (), ()) := by
  unfold strconv_Itoa itoaF
  rw [if_pos ⟨h1, h2⟩]
  rfl
section
variable {l : List Int} (hl : l.length ≤ 1048576) (hr : ∀ x ∈ l, -9223372036854775808 ≤ x ∧ x ≤ 9223372036854775807)
include hl hr
theorem tot_num : totS (l.map numB) ≤ 70368744177664 := by
  have := totS_le (l := l.map numB) (n := 24) (fun x hx => by
    obtain ⟨y, hy, rfl⟩ := List.mem_map.1 hx
    exact numB_size (hr y hy).1 (hr y hy).2)
  rw [List.length_map] at this
  omega
theorem specFmt_eq : spec_FormatNumbers l = some ((jn (l.map numB), ()), (), ()) := by
  have h := loop_for (s := spec_FormatNumbers_s0) (fun i => (((), l, (l.length : Int), (i : Int), ()), (), ((l.take i).map numB, ()))) l.length (((), ()), (), (l.map numB, ())) (by
    intro i hi
    obtain ⟨r1, r2⟩ := hr (l.getD i 0) (getD_mem hi)
    simp only [spec_FormatNumbers_s0, Int.toNat_natCast]
    rw [decide_eq_true (by omega), br_true, ck_pos (by omega), ck_pos hi, number_eq r1 r2, Option.bind_some, ck_pos (by simp; omega), w64_succ hi (by unfold maxLen; omega), List.take_succ_eq_append_getElem hi, List.map_append, List.getD_eq_getElem?_getD, List.getElem?_eq_getElem hi]
    rfl) (by
    simp only [spec_FormatNumbers_s0]
    rw [decide_eq_false (by omega), br_false, List.take_length])
  refine (congrArg (fun o => Option.bind o _) h).trans ?_
  simp only [Option.bind_some]
  rw [specJoin_eq (by rw [List.length_map]; omega) (tot_num hl hr), Option.bind_some]
theorem implFmt_eq : impl_FormatNumbers l = some ((jn (l.map numB), ()), (), ()) := by
  have h := loop_for (s := impl_FormatNumbers_s0) (fun i => (((), l, (l.length : Int), (i : Int), ()), (), ((l.take i).map numB, ()))) l.length (((), ()), (), (l.map numB, ())) (by
    intro i hi
    obtain ⟨r1, r2⟩ := hr (l.getD i 0) (getD_mem hi)
    simp only [impl_FormatNumbers_s0, Int.toNat_natCast]
    rw [decide_eq_true (by omega), br_true, ck_pos (by omega), ck_pos hi, itoa_eq r1 r2, Option.bind_some, ck_pos (by simp; omega), w64_succ hi (by unfold maxLen; omega), List.take_succ_eq_append_getElem hi, List.map_append, List.getD_eq_getElem?_getD, List.getElem?_eq_getElem hi]
    rfl) (by
    simp only [impl_FormatNumbers_s0]
    rw [decide_eq_false (by omega), br_false, List.take_length])
  refine (congrArg (fun o => Option.bind o _) h).trans ?_
  simp only [Option.bind_some]
  rw [implJoin_eq (by rw [List.length_map]; omega) (tot_num hl hr), Option.bind_some]
end
theorem law_Fmt (l : List Int) (hr : ∀ x ∈ l, -9223372036854775808 ≤ x ∧ x ≤ 9223372036854775807) : laws_FnExactFormatNumbers l = some ((true, ()), (), ()) := by
  simp only [laws_FnExactFormatNumbers]
  by_cases h0 : (l.length : Int) > 1048576
  · rw [decide_eq_true h0]; rfl
  have hl : l.length ≤ 1048576 := by omega
  rw [decide_eq_false h0, br_false]
  simp only [toIntS_eq hl, specFmt_eq hl hr, implFmt_eq hl hr, eqIntS_refl hl, Option.bind_some, strEq_refl, Bool.not_true, br_false]
theorem row_FormatNumbers : ∀ x : laws_FnExactFormatNumbers_C.arg.den, wfP laws_FnExactFormatNumbers_C.arg.tm x.1 → ∃ y : altDen laws_FnExactFormatNumbers_C.res, laws_FnExactFormatNumbers_C.F x = some y ∧ (altMk laws_FnExactFormatNumbers_C.res y).tm = [(0, .c (.v (.bool true)))] :=
  fun x hx => ⟨((true, ()), (), ()), law_Fmt _ (fun y hy => i64_range (hx.1.2 y hy)), rfl⟩
end Go.Tree
