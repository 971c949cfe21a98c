/- Plain laws on what the laws' own small functions compute on slices of strings: sizes, copies, equality, marks. Conditions: bounds on lengths. -/
import Derived.Test.YtlhipchbjgfodaaPFnExactGalleyText1
import Derived.Test.YtlhipchbjgfodaaBFnExactGalleyTextBase
namespace Go.Proofs.Ytlhipchbjgfodaa.Pure
open Go.RowKit Go.Proofs.Ytlhipchbjgfodaa.PFnExactGalleyText Go.Proofs.YtlhipchbjgfodaaW.PrintWords Go.Proofs.YtlhipchbjgfodaaW.PrintLast Go.Proofs.YtlhipchbjgfodaaW.PrintMore
set_option linter.unusedSectionVars false
set_option linter.unusedVariables false
set_option linter.unusedSimpArgs false
abbrev em : ByteArray := ByteArray.empty
theorem rdOf_nat (l : List ByteArray) (j : Nat) : rdOf ByteArray.empty l (j : Int) = l.getD j em := by unfold rdOf; rw [Int.toNat_natCast]
theorem extS {l m : List ByteArray} (h : l.length = m.length) (hg : ∀ j : Nat, j < l.length → l.getD j em = m.getD j em) : l = m := by
  refine List.ext_getElem h (fun j h1 h2 => ?_)
  have := hg j h1
  rwa [List.getD_eq_getElem?_getD, List.getElem?_eq_getElem h1, List.getD_eq_getElem?_getD, List.getElem?_eq_getElem h2] at this
theorem getD_setS (l : List ByteArray) (i j : Nat) (v : ByteArray) : (l.set i v).getD j em = if i = j ∧ j < l.length then v else l.getD j em := by
  rw [List.getD_eq_getElem?_getD, List.getElem?_set, List.getD_eq_getElem?_getD]
  by_cases h : i = j
  · subst h
    by_cases h2 : i < l.length
    · simp [h2]
    · simp [h2]
  · simp [h]
theorem getD_memS {l : List ByteArray} {j : Nat} (h : j < l.length) : l.getD j em ∈ l := by
  rw [List.getD_eq_getElem?_getD, List.getElem?_eq_getElem h]; exact List.getElem_mem _
/-- The sizes of strings, all together. -/
def tot : List ByteArray → Nat
  | [] => 0
  | s :: t => s.size + tot t
theorem dropS {l : List ByteArray} {i : Nat} (h : i < l.length) : l.drop i = l.getD i em :: l.drop (i + 1) := by
  rw [List.drop_eq_getElem_cons h, List.getD_eq_getElem?_getD, List.getElem?_eq_getElem h]; rfl
theorem tot_drop {l : List ByteArray} {i : Nat} (h : i < l.length) : tot (l.drop i) = (l.getD i em).size + tot (l.drop (i + 1)) := by rw [dropS h, tot]
theorem sz_l0 (l : List ByteArray) (hl : l.length ≤ 1048576) (hs : ∀ s ∈ l, s.size ≤ maxLen) : ∀ (n i : Nat) (x : Int), i + n = l.length → 0 ≤ x → x ≤ 1048576 → ∃ t, Ev (fun k => laws_szStringS.l0 k l x i) t ∧ t ≤ x ∧ (0 ≤ t → x = t + tot (l.drop i))
  | 0, i, x, hn, h0, h1 => ⟨x, Ev.step (f := fun _ => some x) (fun k => by simp only [laws_szStringS.l0]; rw [if_neg (by omega)]) (Ev.now _), Int.le_refl _, fun _ => by rw [List.drop_of_length_le (by omega), tot]; omega⟩
  | n + 1, i, x, hn, h0, h1 => by
    have hsz := hs _ (getD_memS (show i < l.length by omega))
    unfold maxLen at hsz
    have hw : wrap64 (x - ((l.getD i em).size : Int)) = x - ((l.getD i em).size : Int) := wz (by omega) (by omega)
    by_cases hneg : x - ((l.getD i em).size : Int) < 0
    · refine ⟨-1, Ev.step (f := fun _ => some (-1)) (fun k => ?_) (Ev.now _), by omega, fun h => by omega⟩
      simp only [laws_szStringS.l0]; rw [if_pos (by omega), if_pos (by omega), rdOf_nat, hw, if_pos hneg]
    · obtain ⟨t, ev, h2, h3⟩ := sz_l0 l hl hs n (i + 1) (x - ((l.getD i em).size : Int)) (by omega) (by omega) (by omega)
      refine ⟨t, Ev.step (f := fun k => laws_szStringS.l0 k l (x - ((l.getD i em).size : Int)) ((i + 1 : Nat) : Int)) (fun k => ?_) ev, by omega, fun h => ?_⟩
      · simp only [laws_szStringS.l0]; rw [if_pos (by omega), if_pos (by omega), rdOf_nat, hw, if_neg hneg, wz (n := (i : Int) + 1) (by omega) (by omega)]; rfl
      · have := h3 h; rw [tot_drop (by omega)]; omega
theorem sz_ex (l : List ByteArray) (hl : l.length ≤ maxLen) (hs : ∀ s ∈ l, s.size ≤ maxLen) (x : Int) (h0 : 0 ≤ x) (h1 : x ≤ 1048576) : ∃ t, Ev (fun k => laws_szStringS.f k l x) t ∧ t ≤ x ∧ (0 ≤ t → x = t + l.length + tot l) := by
  unfold maxLen at hl
  unfold laws_szStringS.f
  rw [wz (n := x - (l.length : Int)) (by omega) (by omega)]
  by_cases hneg : x - (l.length : Int) < 0
  · simp only [if_pos hneg]; exact ⟨-1, Ev.now _, by omega, fun h => by omega⟩
  · simp only [if_neg hneg]
    obtain ⟨t, ev, h2, h3⟩ := sz_l0 l (by omega) hs l.length 0 (x - l.length) (by omega) (by omega) (by omega)
    refine ⟨t, ev, by omega, fun h => ?_⟩
    have := h3 h
    rw [List.drop_zero] at this; omega
theorem toStringS_l0 (x : List ByteArray) (hx : x.length ≤ 1048576) : ∀ (n i : Nat) (l : List ByteArray), l.length = x.length → i + n = x.length → (∀ j : Nat, j < i → l.getD j em = x.getD j em) → Ev (fun k => laws_toStringS.l0 k x l i) x
  | 0, i, l, hl, hn, hg => by
    obtain rfl : l = x := extS hl (fun j hj => hg j (by omega))
    exact Ev.step (f := fun _ => some l) (fun k => by simp only [laws_toStringS.l0]; rw [if_neg (by omega)]) (Ev.now _)
  | n + 1, i, l, hl, hn, hg => by
    refine Ev.step (f := fun k => laws_toStringS.l0 k x (l.set i (x.getD i em)) ((i + 1 : Nat) : Int)) (fun k => ?_) (toStringS_l0 x hx n (i + 1) _ (by simpa using hl) (by omega) (fun j hj => ?_))
    · simp only [laws_toStringS.l0]; rw [if_pos (by omega), if_pos (by omega), if_pos (by omega), wz (by omega) (by omega), rdOf_nat]; rfl
    · rw [getD_setS]
      by_cases h : i = j
      · subst h; rw [if_pos ⟨rfl, by omega⟩]
      · rw [if_neg (by omega)]; exact hg j (by omega)
theorem toStringS_ev (x : List ByteArray) (hx : x.length ≤ 1048576) : Ev (fun k => laws_toStringS.f k x) x := by
  unfold laws_toStringS.f
  simp only [if_pos (show (0 : Int) ≤ x.length by omega), if_pos (show (x.length : Int).toNat ≤ 17592186044416 by omega)]
  exact toStringS_l0 x hx x.length 0 _ (by simp) (by omega) (fun j hj => by omega)
theorem eqStringS_l0 (l m : List ByteArray) (hl : l.length ≤ 4194304) (hlm : l.length = m.length) (he : ∀ j : Nat, j < l.length → (l.getD j em).toList = (m.getD j em).toList) : ∀ (n i : Nat), i + n = l.length → Ev (fun k => laws_eqStringS.l0 k l m i) true
  | 0, i, hn => Ev.step (f := fun _ => some true) (fun k => by simp only [laws_eqStringS.l0]; rw [if_neg (by omega)]) (Ev.now _)
  | n + 1, i, hn => Ev.step (f := fun k => laws_eqStringS.l0 k l m ((i + 1 : Nat) : Int)) (fun k => by
      simp only [laws_eqStringS.l0]; rw [if_pos (by omega), if_pos (by omega), if_pos (by omega), rdOf_nat, rdOf_nat, if_pos (he i (by omega)), wz (by omega) (by omega)]; rfl) (eqStringS_l0 l m hl hlm he n (i + 1) (by omega))
theorem eqStringS_ev (l : List ByteArray) (hl : l.length ≤ 4194304) : Ev (fun k => laws_eqStringS.f k l l) true := by
  unfold laws_eqStringS.f; simp only [if_true]; exact eqStringS_l0 l l hl rfl (fun _ _ => rfl) l.length 0 (by omega)
end Go.Proofs.Ytlhipchbjgfodaa.Pure
