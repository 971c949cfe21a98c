/- Plain laws on what the laws' own small functions compute on slices of strings: sizes, copies, equality, marks. Conditions: bounds on lengths. -/
import Derived.Test.YtlhipchbjgfodaaPFnReset3
import Derived.Test.YtlhipchbjgfodaaBFnResetBase
namespace Go.Proofs.Ytlhipchbjgfodaa.Pure
open Go.RowKit Go.Proofs.Ytlhipchbjgfodaa.PFnReset Go.Proofs.YtlhipchbjgfodaaW.PrintWords Go.Proofs.YtlhipchbjgfodaaW.PrintLast Go.Proofs.YtlhipchbjgfodaaW.PrintMore
set_option linter.unusedSectionVars false
set_option linter.unusedVariables false
set_option linter.unusedSimpArgs false
abbrev em : ByteArray := ByteArray.empty
theorem rdOf_nat (l : List ByteArray) (j : Nat) : rdOf ByteArray.empty l (j : Int) = l.getD j em := by unfold rdOf; rw [Int.toNat_natCast]
theorem extS {l m : List ByteArray} (h : l.length = m.length) (hg : ∀ j : Nat, j < l.length → l.getD j em = m.getD j em) : l = m := by
  refine List.ext_getElem h (fun j h1 h2 => ?_)
  have := hg j h1
  rwa [List.getD_eq_getElem?_getD, List.getElem?_eq_getElem h1, List.getD_eq_getElem?_getD, List.getElem?_eq_getElem h2] at this
theorem getD_setS (l : List ByteArray) (i j : Nat) (v : ByteArray) : (l.set i v).getD j em = if i = j ∧ j < l.length then v else l.getD j em := by
  rw [List.getD_eq_getElem?_getD, List.getElem?_set, List.getD_eq_getElem?_getD]
  by_cases h : i = j
  · subst h
    by_cases h2 : i < l.length
    · simp [h2]
    · simp [h2]
  · simp [h]
theorem getD_memS {l : List ByteArray} {j : Nat} (h : j < l.length) : l.getD j em ∈ l := by
  rw [List.getD_eq_getElem?_getD, List.getElem?_eq_getElem h]; exact List.getElem_mem _
/-- The sizes of strings, all together. -/
def tot : List ByteArray → Nat
  | [] => 0
  | s :: t => s.size + tot t
theorem dropS {l : List ByteArray} {i : Nat} (h : i < l.length) : l.drop i = l.getD i em :: l.drop (i + 1) := by
  rw [List.drop_eq_getElem_cons h, List.getD_eq_getElem?_getD, List.getElem?_eq_getElem h]; rfl
theorem tot_drop {l : List ByteArray} {i : Nat} (h : i < l.length) : tot (l.drop i) = (l.getD i em).size + tot (l.drop (i + 1)) := by rw [dropS h, tot]
/-- Whether two lists hold the same strings. -/
def strB (l m : List ByteArray) : Bool := decide (l.map ByteArray.toList = m.map ByteArray.toList)
theorem map_getD (l : List ByteArray) (j : Nat) (h : j < l.length) : (l.map ByteArray.toList)[j]? = some (l.getD j em).toList := by
  rw [List.getElem?_map, List.getD_eq_getElem?_getD, List.getElem?_eq_getElem h]; rfl
theorem strB_true {l m : List ByteArray} (hlm : l.length = m.length) (h : ∀ j : Nat, j < l.length → (l.getD j em).toList = (m.getD j em).toList) : strB l m = true := by
  refine decide_eq_true (List.ext_getElem? (fun j => ?_))
  rcases Nat.lt_or_ge j l.length with hj | hj
  · rw [map_getD l j hj, map_getD m j (by omega), h j hj]
  · rw [List.getElem?_eq_none (by simpa using hj), List.getElem?_eq_none (by simp; omega)]
theorem strB_false {l m : List ByteArray} {j : Nat} (h1 : j < l.length) (h2 : j < m.length) (h : ¬ (l.getD j em).toList = (m.getD j em).toList) : strB l m = false := by
  refine decide_eq_false (fun e => h ?_)
  have := congrArg (fun z => z[j]?) e
  simp only [map_getD l j h1, map_getD m j h2, Option.some.injEq] at this
  exact this
theorem strings_l0 (l m : List ByteArray) (hl : l.length ≤ 4194304) (hlm : l.length = m.length) : ∀ (n i : Nat), i + n = l.length → (∀ j, j < i → (l.getD j em).toList = (m.getD j em).toList) → Ev (fun k => laws_strings.l0 k l m l.length i) (strB l m)
  | 0, i, hn, hp => by
    rw [strB_true hlm (fun j hj => hp j (by omega))]
    exact Ev.step (f := fun _ => some true) (fun k => by simp only [laws_strings.l0]; rw [if_neg (by omega)]) (Ev.now _)
  | n + 1, i, hn, hp => by
    by_cases he : (l.getD i em).toList = (m.getD i em).toList
    · refine Ev.step (f := fun k => laws_strings.l0 k l m l.length ((i + 1 : Nat) : Int)) (fun k => ?_) (strings_l0 l m hl hlm n (i + 1) (by omega) (fun j hj => by
        rcases Nat.lt_or_ge j i with h | h
        · exact hp j h
        · obtain rfl : j = i := by omega
          exact he))
      simp only [laws_strings.l0]; rw [if_pos (by omega), if_pos (by omega), if_pos (by omega), if_pos (by omega), rdOf_nat, rdOf_nat, if_pos he, wz (by omega) (by omega)]; rfl
    · rw [strB_false (by omega) (by omega) he]
      refine Ev.step (f := fun _ => some false) (fun k => ?_) (Ev.now _)
      simp only [laws_strings.l0]; rw [if_pos (by omega), if_pos (by omega), if_pos (by omega), if_pos (by omega), rdOf_nat, rdOf_nat, if_neg he]
theorem strings_ev (l m : List ByteArray) (hl : l.length ≤ 4194304) : Ev (fun k => laws_strings.f k l m) (strB l m) := by
  unfold laws_strings.f
  by_cases h : (l.length : Int) = (m.length : Int)
  · simp only [if_pos h]; exact strings_l0 l m hl (by omega) l.length 0 (by omega) (fun j hj => by omega)
  · simp only [if_neg h]
    have : strB l m = false := decide_eq_false (fun e => h (by have := congrArg List.length e; simp at this; omega))
    rw [this]; exact Ev.now _
end Go.Proofs.Ytlhipchbjgfodaa.Pure
