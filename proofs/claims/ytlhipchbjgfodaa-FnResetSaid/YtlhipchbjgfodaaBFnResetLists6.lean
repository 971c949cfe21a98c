/- Plain laws on the draw of two short lists of lines, and on what two lists begin and end with alike. Condition: the code is a list as long as memory can hold. -/
import Derived.Test.YtlhipchbjgfodaaPFnReset2
import Derived.Test.YtlhipchbjgfodaaBFnResetBase
import Derived.Test.YtlhipchbjgfodaaBFnResetDraw0
import Derived.Test.YtlhipchbjgfodaaBFnResetStr
import Derived.Test.YtlhipchbjgfodaaBFnResetReset
namespace Go.Proofs.Ytlhipchbjgfodaa.Pure
open Go.RowKit Go.Proofs.Ytlhipchbjgfodaa.PFnReset Go.Proofs.YtlhipchbjgfodaaW.PrintWords Go.Proofs.YtlhipchbjgfodaaW.PrintLast Go.Proofs.YtlhipchbjgfodaaW.PrintMore
set_option linter.unusedSectionVars false
set_option linter.unusedVariables false
set_option linter.unusedSimpArgs false
theorem lists6_l0 {c : List Int} : ∀ (n : Nat) (i h : Int) (a b : List ByteArray), n ≤ 20 → a.length + n ≤ 20 → b.length + n ≤ 20 → Cur c i →
    ∃ a' b' i' h', Ev (fun k => spec_l6Lists.l0 k a b n c i h) (a', b', i', h') ∧ a'.length ≤ 20 ∧ b'.length ≤ 20 ∧ Cur c i'
  | 0, i, h, a, b, hn, ha, hb, cu => ⟨a, b, i, h, Ev.step (f := fun _ => some (a, b, i, h)) (fun k => by simp only [spec_l6Lists.l0]; rw [if_neg (by omega)]) (Ev.now _), by omega, by omega, cu⟩
  | n + 1, i, h, a, b, hn, ha, hb, cu => by
    obtain ⟨s, i1, h1, e1, _, c1⟩ := pick_ex h ([(⟨#[97]⟩ : ByteArray), (⟨#[98]⟩ : ByteArray), (⟨#[97, 32, 98]⟩ : ByteArray), (⟨#[]⟩ : ByteArray)] : List ByteArray) (by simp) (m := 3) (by intro s hs; simp at hs; rcases hs with rfl | rfl | rfl | rfl <;> decide) cu
    obtain ⟨x, i2, h2, e2, c2⟩ := once_ex h1 7 c1
    obtain ⟨y, i3, h3, e3, c3⟩ := once_ex h2 7 c2
    have hw : wrap64 (((n + 1 : Nat) : Int) - 1) = (n : Int) := by rw [wz (by omega) (by omega)]; omega
    cases x with
    | true =>
      cases y with
      | true =>
        obtain ⟨a', b', i', h', ev, g1, g2, g3⟩ := lists6_l0 n i3 h3 a b (by omega) (by omega) (by omega) c3
        refine ⟨a', b', i', h', Ev.step (f := fun k => spec_l6Lists.l0 k a b n c i3 h3) (fun k => ?_) ev, g1, g2, g3⟩
        simp only [spec_l6Lists.l0]
        rw [if_pos (by omega), e1, Option.bind_some, e2, Option.bind_some, if_pos rfl, e3, Option.bind_some, if_pos rfl, hw]
      | false =>
        obtain ⟨a', b', i', h', ev, g1, g2, g3⟩ := lists6_l0 n i3 h3 a (b ++ [s]) (by omega) (by omega) (by simp; omega) c3
        refine ⟨a', b', i', h', Ev.step (f := fun k => spec_l6Lists.l0 k a (b ++ [s]) n c i3 h3) (fun k => ?_) ev, g1, g2, g3⟩
        simp only [spec_l6Lists.l0]
        rw [if_pos (by omega), e1, Option.bind_some, e2, Option.bind_some, if_pos rfl, e3, Option.bind_some, if_neg (by simp), if_pos (by omega), hw]
    | false =>
      cases y with
      | true =>
        obtain ⟨a', b', i', h', ev, g1, g2, g3⟩ := lists6_l0 n i3 h3 (a ++ [s]) b (by omega) (by simp; omega) (by omega) c3
        refine ⟨a', b', i', h', Ev.step (f := fun k => spec_l6Lists.l0 k (a ++ [s]) b n c i3 h3) (fun k => ?_) ev, g1, g2, g3⟩
        simp only [spec_l6Lists.l0]
        rw [if_pos (by omega), e1, Option.bind_some, e2, Option.bind_some, if_neg (by simp), if_pos (by omega), Option.bind_some, e3, Option.bind_some, if_pos rfl, hw]
      | false =>
        obtain ⟨a', b', i', h', ev, g1, g2, g3⟩ := lists6_l0 n i3 h3 (a ++ [s]) (b ++ [s]) (by omega) (by simp; omega) (by simp; omega) c3
        refine ⟨a', b', i', h', Ev.step (f := fun k => spec_l6Lists.l0 k (a ++ [s]) (b ++ [s]) n c i3 h3) (fun k => ?_) ev, g1, g2, g3⟩
        simp only [spec_l6Lists.l0]
        rw [if_pos (by omega), e1, Option.bind_some, e2, Option.bind_some, if_neg (by simp), if_pos (by omega), Option.bind_some, e3, Option.bind_some, if_neg (by simp), if_pos (by omega), hw]
theorem lists6_ex {c : List Int} {i : Int} (h : Int) (cu : Cur c i) : ∃ a b i' h', Ev (fun k => spec_l6Lists.f k c i h) (a, b, i', h') ∧ a.length ≤ 20 ∧ b.length ≤ 20 ∧ Cur c i' := by
  unfold spec_l6Lists.f
  obtain ⟨x, i1, h1, e1, x0, x1, _, c1⟩ := below_ex h 9 cu
  have x1 := x1 (by omega)
  obtain ⟨q, rfl⟩ := Int.eq_ofNat_of_zero_le x0
  rw [e1]
  simp only [Option.bind_some]
  exact lists6_l0 q i1 h1 [] [] (by omega) (by simp; omega) (by simp; omega) c1
/-! what two lists begin and end with alike -/
abbrev tl (l : List ByteArray) : List (List UInt8) := l.map ByteArray.toList
theorem cp_take : ∀ (a b : List ByteArray), tl (a.take (cp a b)) = tl (b.take (cp a b))
  | [], b => by simp [cp, tl]
  | x :: a, [] => by simp [cp, tl]
  | x :: a, y :: b => by
    unfold cp
    by_cases e : x.toList = y.toList
    · rw [if_pos e, List.take_succ_cons, List.take_succ_cons]
      show x.toList :: tl (a.take (cp a b)) = y.toList :: tl (b.take (cp a b))
      rw [e, cp_take a b]
    · rw [if_neg e]; rfl
theorem cs_drop (a b : List ByteArray) : tl (a.drop (a.length - cs a b)) = tl (b.drop (b.length - cs a b)) := by
  have hle := cs_le a b
  have h := cp_take (a.drop (cp a b)).reverse (b.drop (cp a b)).reverse
  rw [show cp (a.drop (cp a b)).reverse (b.drop (cp a b)).reverse = cs a b from rfl, List.take_reverse, List.take_reverse, List.drop_drop, List.drop_drop, List.length_drop, List.length_drop,
    show cp a b + (a.length - cp a b - cs a b) = a.length - cs a b from by omega, show cp a b + (b.length - cp a b - cs a b) = b.length - cs a b from by omega] at h
  simp only [tl, List.map_reverse] at h
  exact List.reverse_inj.1 h
/-- The one list with the other one's lines between is the other one. -/
theorem mid_same (a b : List ByteArray) : tl (a.take (cp a b) ++ (b.take (b.length - cs a b)).drop (cp a b) ++ a.drop (a.length - cs a b)) = tl b := by
  have hle := cs_le a b
  have e : b = b.take (cp a b) ++ (b.take (b.length - cs a b)).drop (cp a b) ++ b.drop (b.length - cs a b) := by
    have h1 : b.take (cp a b) = (b.take (b.length - cs a b)).take (cp a b) := by rw [List.take_take, Nat.min_eq_left (by omega)]
    rw [h1, List.take_append_drop, List.take_append_drop]
  conv => rhs; rw [e]
  simp only [tl, List.map_append]
  have h1 := cp_take a b
  have h2 := cs_drop a b
  simp only [tl] at h1 h2
  rw [h1, h2]
theorem cp_comm : ∀ (a b : List ByteArray), cp a b = cp b a
  | [], [] => rfl
  | [], y :: b => rfl
  | x :: a, [] => rfl
  | x :: a, y :: b => by
    unfold cp
    by_cases e : x.toList = y.toList
    · rw [if_pos e, if_pos e.symm, cp_comm a b]
    · rw [if_neg e, if_neg (fun h => e h.symm)]
theorem cs_comm (a b : List ByteArray) : cs a b = cs b a := by unfold cs; rw [cp_comm a b, cp_comm]
end Go.Proofs.Ytlhipchbjgfodaa.Pure
