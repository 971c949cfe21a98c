/- Plain laws on strings joined with blanks between. Conditions: bounds on lengths. -/
import Derived.Test.YtlhipchbjgfodaaPFnExactGalleyText1
import Derived.Test.YtlhipchbjgfodaaBFnExactGalleyTextBase
import Derived.Test.YtlhipchbjgfodaaBFnExactGalleyTextStr
namespace Go.Proofs.Ytlhipchbjgfodaa.Pure
open Go.RowKit Go.Proofs.Ytlhipchbjgfodaa.PFnExactGalleyText Go.Proofs.YtlhipchbjgfodaaW.PrintWords Go.Proofs.YtlhipchbjgfodaaW.PrintLast Go.Proofs.YtlhipchbjgfodaaW.PrintMore
set_option linter.unusedSectionVars false
set_option linter.unusedVariables false
set_option linter.unusedSimpArgs false
abbrev dl (s : ByteArray) : List UInt8 := s.data.toList
theorem dl_eq (s : ByteArray) : (⟨(dl s).toArray⟩ : ByteArray) = s := by
  cases s with
  | mk d => show (⟨d.toList.toArray⟩ : ByteArray) = ⟨d⟩; rw [Array.toArray_toList]
theorem dl_append (s t : ByteArray) : dl (s ++ t) = dl s ++ dl t := by show (s ++ t).data.toList = s.data.toList ++ t.data.toList; rw [ByteArray.data_append, Array.toList_append]
theorem dl_len (s : ByteArray) : (dl s).length = s.size := by show s.data.toList.length = s.data.size; rw [Array.length_toList]
/-- The strings of a list, with blanks between. -/
def jn (l : List ByteArray) : ByteArray := ⟨(Lib.join (l.map dl) [32]).toArray⟩
theorem lens_tot : ∀ l : List ByteArray, Lib.lens (l.map dl) = tot l
  | [] => rfl
  | s :: t => by
    have := lens_tot t
    simp only [Lib.lens, List.map_cons, List.sum_cons] at this ⊢
    rw [this, dl_len, tot]
theorem join_len (l : List ByteArray) : (Lib.join (l.map dl) [32]).length ≤ l.length + tot l := by
  cases l with
  | nil => simp [Lib.join_nil]
  | cons s t =>
    rw [List.map_cons, Lib.join_cons, List.length_append, Lib.joinTail_length, dl_len, lens_tot, List.length_map, tot]
    simp; omega
theorem specJoin_l0 (l : List ByteArray) (hl : l.length ≤ 4194304) : ∀ (n i : Nat) (s : ByteArray), 1 ≤ i → i + n = l.length → s.size + tot (l.drop i) + n ≤ 1099511627776 →
    Ev (fun k => spec_l6Join.l0 k s l l.length i) ⟨(dl s ++ Lib.joinTail [32] ((l.drop i).map dl)).toArray⟩
  | 0, i, s, h1, hn, hb => by
    rw [List.drop_of_length_le (by omega), List.map_nil, show Lib.joinTail [32] [] = [] from rfl, List.append_nil, dl_eq]
    exact Ev.step (f := fun _ => some s) (fun k => by simp only [spec_l6Join.l0]; rw [if_neg (by omega)]) (Ev.now _)
  | n + 1, i, s, h1, hn, hb => by
    have hd := dropS (show i < l.length by omega)
    rw [tot_drop (show i < l.length by omega)] at hb
    have nx := specJoin_l0 l hl n (i + 1) ((s ++ (⟨#[32]⟩ : ByteArray)) ++ l.getD i em) (by omega) (by omega) (by rw [ByteArray.size_append, ByteArray.size_append, show (⟨#[32]⟩ : ByteArray).size = 1 from rfl]; omega)
    have e : dl ((s ++ (⟨#[32]⟩ : ByteArray)) ++ l.getD i em) ++ Lib.joinTail [32] ((l.drop (i + 1)).map dl) = dl s ++ Lib.joinTail [32] ((l.drop i).map dl) := by
      have jt : ∀ (y : List UInt8) (r : List (List UInt8)), Lib.joinTail [32] (y :: r) = 32 :: (y ++ Lib.joinTail [32] r) := fun y r => by simp [Lib.joinTail]
      rw [hd, List.map_cons, dl_append, dl_append, jt, show dl (⟨#[32]⟩ : ByteArray) = [32] from rfl, List.append_assoc, List.append_assoc]
      rfl
    rw [e] at nx
    refine Ev.step (f := fun k => spec_l6Join.l0 k ((s ++ (⟨#[32]⟩ : ByteArray)) ++ l.getD i em) l l.length ((i + 1 : Nat) : Int)) (fun k => ?_) nx
    simp only [spec_l6Join.l0]
    rw [if_pos (by omega), if_pos (by omega), if_pos (by omega), if_pos (by omega), if_pos (by omega), rdOf_nat, if_pos (by rw [ByteArray.size_append, show (⟨#[32]⟩ : ByteArray).size = 1 from rfl]; omega), wz (by omega) (by omega)]
    rfl
theorem specJoin_ev (l : List ByteArray) (hl : l.length ≤ 4194304) (ht : tot l ≤ 549755813888) : Ev (fun k => spec_l6Join.f k l) (jn l) := by
  unfold spec_l6Join.f jn
  cases l with
  | nil => exact Ev.step (f := fun _ => some (⟨#[]⟩ : ByteArray)) (fun k => by simp only [spec_l6Join.l0]; rw [if_neg (by simp)]) (Ev.now _)
  | cons x t =>
    rw [tot] at ht
    have nx := specJoin_l0 (x :: t) hl t.length 1 x (Nat.le_refl _) (by simp; omega) (by simp at hl ⊢; omega)
    rw [List.map_cons, Lib.join_cons]
    have nx' : Ev (fun k => spec_l6Join.l0 k x (x :: t) ((x :: t).length : Int) ((0 + 1 : Nat) : Int)) ⟨(dl x ++ Lib.joinTail [32] (t.map dl)).toArray⟩ := nx
    refine Ev.step (f := fun k => spec_l6Join.l0 k x (x :: t) ((x :: t).length : Int) ((0 + 1 : Nat) : Int)) (fun k => ?_) nx'
    have hx : (⟨#[]⟩ : ByteArray) ++ x = x := by
      have := dl_eq ((⟨#[]⟩ : ByteArray) ++ x)
      rw [dl_append, show dl (⟨#[]⟩ : ByteArray) = [] from rfl, List.nil_append, dl_eq] at this
      exact this.symm
    have e0 := rdOf_nat (x :: t) 0
    simp only [spec_l6Join.l0]
    rw [if_pos (by simp), if_pos (by omega), if_pos (by simp), if_neg (by omega)]
    have e1 : rdOf ByteArray.empty (x :: t) 0 = x := e0
    rw [e1, if_pos (by show 0 + x.size ≤ _; omega), hx, wz (by omega) (by omega)]
    rfl
theorem implJoin_eq (l : List ByteArray) (hl : l.length ≤ 4194304) (ht : tot l ≤ 549755813888) : strings_Join.f l (⟨#[32]⟩ : ByteArray) = some (jn l) := by
  unfold strings_Join.f jn
  have := join_len l
  rw [if_pos ⟨by omega, by show (Lib.join (l.map dl) [32]).length ≤ _; omega⟩]
end Go.Proofs.Ytlhipchbjgfodaa.Pure
