/- Plain laws on the draws of measures, texts and numbers of breakings: each returns something of the size that it can have. Condition: the code is a list as long as memory can hold. -/
import Derived.Test.YtnbmlblcmjaclaaPFnWidths1
import Derived.Test.YtnbmlblcmjaclaaPFnWidths2
import Derived.Test.YtnbmlblcmjaclaaBFnWidthsBase
import Derived.Test.YtnbmlblcmjaclaaBFnWidthsKinds
import Derived.Test.YtnbmlblcmjaclaaBFnWidthsDraw0
namespace Go.Proofs.Ytnbmlblcmjaclaa.Pure
open Go.RowKit Go.Proofs.Ytnbmlblcmjaclaa.PFnWidths Go.Proofs.YtnbmlblcmjaclaaW.PrintWords Go.Proofs.YtnbmlblcmjaclaaW.PrintLast Go.Proofs.YtnbmlblcmjaclaaW.PrintMore
set_option linter.unusedSectionVars false
set_option linter.unusedVariables false
set_option linter.unusedSimpArgs false

theorem l3Measure_ex {b : List Int} {i : Int} (h : Int) (c : Cur b i) : ∃ W Th Tk i' h', spec_l3Measure.f b i h = some (W, Th, Tk, i', h') ∧ MOk W Th Tk ∧ Th ≤ 6 ∧ W ≤ 200 ∧ Cur b i' := by
  unfold spec_l3Measure.f
  obtain ⟨x, i1, h1, e, x0, x1, _, c1⟩ := below_ex h 200 c
  have x1 := x1 (by omega)
  rw [e, Option.bind_some]
  obtain ⟨y, i2, h2, e, y0, y1, _, c2⟩ := below_ex h1 6 c1
  have y1 := y1 (by omega)
  rw [e, Option.bind_some]
  obtain ⟨z, i3, h3, e, z0, z1, _, c3⟩ := below_ex h2 12 c2
  have z1 := z1 (by omega)
  rw [e, Option.bind_some]
  rw [wz (n := 1 + x) (by omega) (by omega), wz (n := 1 + y) (by omega) (by omega), wz (n := 1 + y + z) (by omega) (by omega)]
  exact ⟨_, _, _, _, _, rfl, by unfold MOk; omega, by omega, by omega, c3⟩
theorem l3Any_ex {b : List Int} {i : Int} (h : Int) (c : Cur b i) : ∃ W Th Tk i' h', spec_l3Any.f b i h = some (W, Th, Tk, i', h') ∧ Cur b i' := by
  unfold spec_l3Any.f
  obtain ⟨W, Th, Tk, i1, h1, e, _, _, _, c1⟩ := l3Measure_ex h c
  rw [e, Option.bind_some]
  obtain ⟨x, i2, h2, e, _, _, _, c2⟩ := below_ex h1 16 c1
  rw [e, Option.bind_some]
  split
  · obtain ⟨x, i3, h3, e, _, c3⟩ := int_ex h2 [0, -1, 2000, 2001, 4611686018427387904] (by simp) c2
    rw [e, Option.bind_some]; exact ⟨_, _, _, _, _, rfl, c3⟩
  · split
    · obtain ⟨x, i3, h3, e, _, c3⟩ := int_ex h2 [0, 100, 101, -7] (by simp) c2
      rw [e, Option.bind_some]; exact ⟨_, _, _, _, _, rfl, c3⟩
    · split
      · obtain ⟨x, i3, h3, e, _, c3⟩ := int_ex h2 [0, 100, 101, wrap64 (Th - 1)] (by simp) c2
        rw [e, Option.bind_some]; exact ⟨_, _, _, _, _, rfl, c3⟩
      · exact ⟨_, _, _, _, _, rfl, c2⟩
theorem l4Measure_ex {b : List Int} {i : Int} (h : Int) (c : Cur b i) : ∃ W Th Tk i' h', spec_l4Measure.f b i h = some (W, Th, Tk, i', h') ∧ Cur b i' := by
  unfold spec_l4Measure.f
  obtain ⟨x, i1, h1, e, _, _, _, c1⟩ := below_ex h 60 c
  rw [e, Option.bind_some]
  obtain ⟨y, i2, h2, e, _, _, _, c2⟩ := below_ex h1 3 c1
  rw [e, Option.bind_some]
  obtain ⟨z, i3, h3, e, _, _, _, c3⟩ := below_ex h2 9 c2
  rw [e, Option.bind_some]
  exact ⟨_, _, _, _, _, rfl, c3⟩
theorem l4Words_l0 {b : List Int} (most : Int) : ∀ (n : Nat) (i h : Int) (l : List Int), Cur b i → n ≤ 1000 → l.length + n ≤ 1000 →
    ∃ l' i' h', Ev (fun k => spec_l4Words.l0 k l most n b i h) (l', i', h') ∧ l'.length = l.length + n ∧ Cur b i'
  | 0, i, h, l, c, _, _ => ⟨l, i, h, Ev.step (f := fun _ => some (l, i, h)) (fun k => by simp only [spec_l4Words.l0]; rw [if_neg (by omega)]) (Ev.now _), rfl, c⟩
  | n + 1, i, h, l, c, hn, hl => by
    obtain ⟨x, i1, h1, e, _, _, _, c1⟩ := below_ex h most c
    obtain ⟨l', i', h', ev, hl', c'⟩ := l4Words_l0 most n i1 h1 (l ++ [wrap64 (1 + x)]) c1 (by omega) (by simp; omega)
    refine ⟨l', i', h', Ev.step (f := fun k => spec_l4Words.l0 k (l ++ [wrap64 (1 + x)]) most n b i1 h1) (fun k => ?_) ev, by simp at hl'; omega, c'⟩
    simp only [spec_l4Words.l0]
    rw [if_pos (by omega), e, Option.bind_some, if_pos (by omega), wz (n := ((n + 1 : Nat) : Int) - 1) (by omega) (by omega), show ((n + 1 : Nat) : Int) - 1 = (n : Int) from by omega]
theorem l4Words_ex {b : List Int} {i : Int} (h : Int) (c : Cur b i) : ∃ l i' h', Ev (fun k => spec_l4Words.f k b i h) (l, i', h') ∧ l.length ≤ 18 ∧ Cur b i' := by
  unfold spec_l4Words.f
  obtain ⟨x, i1, h1, e, _, _, _, c1⟩ := below_ex h 14 c
  rw [e]
  obtain ⟨y, i2, h2, e, y0, y1, _, c2⟩ := below_ex h1 18 c1
  have y1 := y1 (by omega)
  obtain ⟨q, rfl⟩ := Int.eq_ofNat_of_zero_le y0
  obtain ⟨l, i', h', ev, hl, c'⟩ := l4Words_l0 (b := b) (wrap64 (2 + x)) (1 + q) i2 h2 [] c2 (by omega) (by simp; omega)
  refine ⟨l, i', h', ?_, by simp at hl; omega, c'⟩
  refine Ev.congr (fun k => ?_) ev
  rw [Option.bind_some, e, Option.bind_some, wz (n := 1 + (q : Int)) (by omega) (by omega)]; rfl
theorem l4Both_l0 {b : List Int} (n : Nat) (W Th Tk : Int) : ∀ (r : Nat) (i h : Int) (l : List Int), Cur b i → l.length + r = n → n ≤ 1000 →
    ∃ l' i' h', Ev (fun k => spec_l4Both.l0 k l n b i h W Th Tk) (W, Th, Tk, l', i', h') ∧ l'.length = n ∧ Cur b i'
  | 0, i, h, l, c, hl, _ => ⟨l, i, h, Ev.step (f := fun _ => some (W, Th, Tk, l, i, h)) (fun k => by simp only [spec_l4Both.l0]; rw [if_neg (by omega)]) (Ev.now _), by omega, c⟩
  | r + 1, i, h, l, c, hl, hn => by
    obtain ⟨x, i1, h1, e, _, _, _, c1⟩ := below_ex h 4 c
    obtain ⟨l', i', h', ev, hl', c'⟩ := l4Both_l0 n W Th Tk r i1 h1 (l ++ [wrap64 (1 + x)]) c1 (by simp; omega) hn
    refine ⟨l', i', h', Ev.step (f := fun k => spec_l4Both.l0 k (l ++ [wrap64 (1 + x)]) n b i1 h1 W Th Tk) (fun k => ?_) ev, hl', c'⟩
    simp only [spec_l4Both.l0]
    rw [if_pos (by omega), e, Option.bind_some, if_pos (by omega)]
theorem l4Both_ex {b : List Int} {i : Int} (h : Int) (c : Cur b i) : ∃ W Th Tk l i' h', Ev (fun k => spec_l4Both.f k b i h) (W, Th, Tk, l, i', h') ∧ l.length ≤ 41 ∧ Cur b i' := by
  unfold spec_l4Both.f
  obtain ⟨W, Th, Tk, i1, h1, e, c1⟩ := l4Measure_ex h c
  obtain ⟨l, i2, h2, ev, hl, c2⟩ := l4Words_ex h1 c1
  obtain ⟨x, i3, h3, e3, x0, x1, _, c3⟩ := below_ex h2 20 c2
  simp only [e, Option.bind_some]
  by_cases hx0 : x = 0
  · obtain ⟨W', Th', Tk', i4, h4, e4, c4⟩ := l3Any_ex h3 c3
    refine ⟨W', Th', Tk', l, i4, h4, Ev.bind ev ?_, by omega, c4⟩
    simp only [e3, if_pos hx0, e4, Option.bind_some]; exact Ev.now _
  by_cases hx1 : x = 1
  · obtain ⟨y, i4, h4, e4, _, c4⟩ := int_ex h3 [0, -1, 2000, 2001] (by simp) c3
    refine ⟨W, Th, Tk, l ++ [y], i4, h4, Ev.bind ev ?_, by simp; omega, c4⟩
    simp only [e3, Option.bind_some, if_neg hx0, if_pos hx1, e4, Option.bind_some, if_pos (show l.length < 17592186044416 by omega)]; exact Ev.now _
  by_cases hx2 : x = 2
  · obtain ⟨y, i4, h4, e4, y0, y1, _, c4⟩ := below_ex h3 3 c3
    have y1 := y1 (by omega)
    obtain ⟨q, rfl⟩ := Int.eq_ofNat_of_zero_le y0
    obtain ⟨l', i5, h5, ev5, hl5, c5⟩ := l4Both_l0 (b := b) (39 + q) W Th Tk (39 + q - l.length) i4 h4 l c4 (by omega) (by omega)
    refine ⟨W, Th, Tk, l', i5, h5, Ev.bind ev ?_, by omega, c5⟩
    simp only [e3, Option.bind_some, if_neg hx0, if_neg hx1, if_pos hx2, e4, Option.bind_some]
    rw [wz (n := 39 + (q : Int)) (by omega) (by omega)]; exact ev5
  by_cases hx3 : x = 3
  · refine ⟨W, Th, Tk, [], i3, h3, Ev.bind ev ?_, by simp, c3⟩
    simp only [e3, Option.bind_some, if_neg hx0, if_neg hx1, if_neg hx2, if_pos hx3]; exact Ev.now _
  · refine ⟨W, Th, Tk, l, i3, h3, Ev.bind ev ?_, by omega, c3⟩
    simp only [e3, Option.bind_some, if_neg hx0, if_neg hx1, if_neg hx2, if_neg hx3]; exact Ev.now _
end Go.Proofs.Ytnbmlblcmjaclaa.Pure
