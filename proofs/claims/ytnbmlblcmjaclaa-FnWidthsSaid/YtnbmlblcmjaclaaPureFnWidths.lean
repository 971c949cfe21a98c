/- The pure statement behind the law FnWidths: the widths that the program tells for a text are those for which it counts a breaking, and each in which the whole text fits in one line is among them. No condition. -/
import Derived.Test.YtnbmlblcmjaclaaPFnWidths1
import Derived.Test.YtnbmlblcmjaclaaPFnWidths2
import Derived.Test.YtnbmlblcmjaclaaPFnWidths6
import Derived.Test.YtnbmlblcmjaclaaPFnWidths7
import Derived.Test.YtnbmlblcmjaclaaBFnWidthsBase
import Derived.Test.YtnbmlblcmjaclaaBFnWidthsKinds
import Derived.Test.YtnbmlblcmjaclaaBFnWidthsBrk
import Derived.Test.YtnbmlblcmjaclaaBFnWidthsBrkI
import Derived.Test.YtnbmlblcmjaclaaBFnWidthsBrkWid
import Derived.Test.YtnbmlblcmjaclaaBFnWidthsDraw0
import Derived.Test.YtnbmlblcmjaclaaBFnWidthsDraw4
import Derived.Test.YtnbmlblcmjaclaaBFnWidthsBrkDraw
namespace Go.Proofs.Ytnbmlblcmjaclaa.Pure
open Go.RowKit Go.Proofs.Ytnbmlblcmjaclaa.PFnWidths Go.Proofs.YtnbmlblcmjaclaaW.PrintWords Go.Proofs.YtnbmlblcmjaclaaW.PrintLast Go.Proofs.YtnbmlblcmjaclaaW.PrintMore
set_option linter.unusedSectionVars false
set_option linter.unusedVariables false
set_option linter.unusedSimpArgs false
/-- Where the whole text fits in one line there is a breaking. -/
theorem wy_one {w Th Tk : Int} {ws : List Int} (m : MOk w Th Tk) (h : Sk ws) (ho : ((ws.length : Int) - 1) * Th + ws.sum ≤ w) : 1 ≤ wy w Th Tk ws := by
  have hne : ws ≠ [] := by rintro rfl; have := h.pos; simp at this
  have hk : kindN w Th Tk ws > 0 := by
    have : ¬ restN w Th ws < 0 := by unfold restN; omega
    unfold kindN; rw [if_neg this]; split <;> omega
  obtain ⟨n, hn⟩ : ∃ n, ws.length = n + 1 := ⟨ws.length - 1, by have := h.pos; omega⟩
  rw [wy_psum hne, hn, psum]
  have hg : goesS w Th Tk ws (n + 1) = true := by rw [← hn, goes_all]; exact decide_eq_true hk
  have := psum_nonneg (W := w) (Th := Th) (Tk := Tk) ws n
  rw [if_pos hg, ← hn, List.drop_length, wy_nil]; omega
theorem widths_l0 {W Th Tk : Int} {ws : List Int} (hb : bothB W Th Tk ws = true) (one : Int) (ho : one = ((ws.length : Int) - 1) * Th + ws.sum) (most : Nat) (hm : most ≤ 300) :
    ∀ (n i q : Nat) (l : List Int), i + n = most + 1 → 1 ≤ i → l.drop q = wid Th Tk ws i n → q ≤ l.length → l.length ≤ 300 → Ev (fun k => laws_FnWidths.l0 k ws most l one q i W Th Tk) true
  | 0, i, q, l, hn, hi, hd, hq, hl => by
    rw [wid, List.drop_eq_nil_iff] at hd
    refine Ev.step (f := fun _ => some true) (fun k => ?_) (Ev.now _)
    simp only [laws_FnWidths.l0]; rw [if_neg (by omega), show q = l.length from by omega]; simp
  | n + 1, i, q, l, hn, hi, hd, hq, hl => by
    have hbi := bothB_w hb (w := i) (by omega) (by omega)
    obtain ⟨m, h⟩ := bothB_iff hbi
    have hc := implCount_ev i Th Tk ws
    unfold countN at hc
    rw [if_pos hbi] at hc
    rw [wid] at hd
    by_cases hp : 0 < wy i Th Tk ws
    · rw [if_pos hp] at hd
      have hql : q < l.length := by
        rcases Nat.lt_or_ge q l.length with h | h
        · exact h
        · rw [List.drop_of_length_le h] at hd; cases hd
      have hr : rd l (q : Int) = (i : Int) := by
        rw [rd_nat]; rw [drop_cons_getD l q hql] at hd; exact (List.cons.inj hd).1
      have hd' : l.drop (q + 1) = wid Th Tk ws (i + 1) n := by rw [drop_cons_getD l q hql] at hd; exact (List.cons.inj hd).2
      have nx := widths_l0 hb one ho most hm n (i + 1) (q + 1) l (by omega) (by omega) hd' (by omega) hl
      refine Ev.step (f := fun k => (impl_CountBreakings.f k i Th Tk ws).bind fun t => if t < 1 then (if (i : Int) ≥ one then some false else laws_FnWidths.l0 k ws most l one q (wrap64 ((i : Int) + 1)) W Th Tk) else laws_FnWidths.l0 k ws most l one ((q + 1 : Nat) : Int) ((i + 1 : Nat) : Int) W Th Tk) (fun k => ?_) (Ev.bind hc ?_)
      · simp only [laws_FnWidths.l0]
        rw [if_pos (show (i : Int) ≤ (most : Int) by omega), if_neg (show ¬ (q : Int) ≥ (l.length : Int) by omega), if_pos (show (0 : Int) ≤ (q : Int) by omega), if_pos (show (q : Int) < (l.length : Int) by omega), if_pos hr, wz (n := (q : Int) + 1) (by omega) (by omega), wz (n := (i : Int) + 1) (by omega) (by omega), show (q : Int) + 1 = ((q + 1 : Nat) : Int) from by omega, show (i : Int) + 1 = ((i + 1 : Nat) : Int) from by omega]
      · simp only [if_neg (show ¬ wy i Th Tk ws < 1 by omega)]; exact nx
    · rw [if_neg hp] at hd
      have nx := widths_l0 hb one ho most hm n (i + 1) q l (by omega) (by omega) hd hq hl
      have hlt : ¬ (i : Int) ≥ one := fun hge => by have := wy_one m h (by omega); omega
      refine Ev.step (f := fun k => (impl_CountBreakings.f k i Th Tk ws).bind fun t => if t < 1 then laws_FnWidths.l0 k ws most l one q ((i + 1 : Nat) : Int) W Th Tk else (if (q : Int) ≥ (l.length : Int) then some false else (if 0 ≤ (q : Int) then (if (q : Int) < (l.length : Int) then (if rd l q = (i : Int) then laws_FnWidths.l0 k ws most l one (wrap64 ((q : Int) + 1)) ((i + 1 : Nat) : Int) W Th Tk else some false) else none) else none))) (fun k => ?_) (Ev.bind hc ?_)
      · simp only [laws_FnWidths.l0]
        rw [if_pos (by omega), if_neg hlt, wz (n := (i : Int) + 1) (by omega) (by omega), show (i : Int) + 1 = ((i + 1 : Nat) : Int) from by omega]
      · simp only [if_pos (show wy i Th Tk ws < 1 by omega)]; exact nx
theorem FnWidths : laws_FnWidths.Pure := by
  intro code hl _ _
  unfold maxLen at hl
  refine Ev.rounds (g := fun k => laws_FnWidths.f k code) ?_
  unfold laws_FnWidths.f
  by_cases hw : (code.length : Int) > 1048576
  · simp only [if_pos hw]; exact Ev.now _
  simp only [if_neg hw]
  -- the draw
  have hd : ∃ W Th Tk ws most, Ev (fun k => spec_DrawWidthsFor.f k code) (W, Th, Tk, ws, most) ∧ ws.length ≤ 41 := by
    obtain ⟨h, e, c⟩ := cur_new code (by omega)
    obtain ⟨W, Th, Tk, ws, i1, h1, ev, hl1, c1⟩ := l4Both_ex h c
    obtain ⟨most, i2, h2, e2, _, c2⟩ := int_ex h1 [60, 40, 20, 100, 0, -1, 300, 301] (by simp) c1
    have he : ∀ k, spec_DrawWidthsFor.f k code = (spec_l4Both.f k code 0 h).bind fun bt414 => (if (bt414.2.2.2.1.length : Int) > 12 then (if 12 ≤ (bt414.2.2.2.1.length : Int) then ((spec_l01Int.f code bt414.2.2.2.2.1 bt414.2.2.2.2.2 ([60, 40, 20, 100, 0, (-1), 300, 301] : List Int)).bind fun bt429 => (some (bt414.1, bt414.2.1, bt414.2.2.1, (bt414.2.2.2.1.take (12 : Int).toNat), bt429.1))) else (none)) else ((spec_l01Int.f code bt414.2.2.2.2.1 bt414.2.2.2.2.2 ([60, 40, 20, 100, 0, (-1), 300, 301] : List Int)).bind fun bt435 => (some (bt414.1, bt414.2.1, bt414.2.2.1, bt414.2.2.2.1, bt435.1)))) := by
      intro k; unfold spec_DrawWidthsFor.f; rw [e, Option.bind_some]
    by_cases hc : (ws.length : Int) > 12
    · refine ⟨W, Th, Tk, ws.take (12 : Int).toNat, most, Ev.congr he (Ev.bind ev ?_), by simp; omega⟩
      simp only [if_pos hc, if_pos (show (12 : Int) ≤ (ws.length : Int) by omega), e2, Option.bind_some]; exact Ev.now _
    · refine ⟨W, Th, Tk, ws, most, Ev.congr he (Ev.bind ev ?_), hl1⟩
      simp only [if_neg hc, e2, Option.bind_some]; exact Ev.now _
  obtain ⟨W, Th, Tk, ws, most, ev, hl1⟩ := hd
  refine Ev.bind ev (Ev.bind (implWid_ev W Th Tk ws most) ?_)
  simp only [specMeasureOk_eq, Option.bind_some]
  have no : bothB W Th Tk ws = false ∨ most < 0 ∨ most > 300 → Ev (fun k => laws_FnWidths.j0 k ws most (widR W Th Tk ws most) true W Th Tk) true := by
    intro hn
    have e0 : widR W Th Tk ws most = [] := by
      unfold widR; rw [if_neg]; rintro ⟨h1, h2, h3⟩
      rcases hn with hn | hn | hn
      · rw [hn] at h1; cases h1
      · omega
      · omega
    refine Ev.step (f := fun _ => some true) (fun k => ?_) (Ev.now _)
    simp only [laws_FnWidths.j0]; rw [if_pos trivial, e0]; rfl
  cases hm : mokB W Th Tk with
  | false =>
    simp only [Bool.false_eq_true, if_false]
    exact no (.inl (by unfold bothB; rw [hm]; rfl))
  | true =>
    simp only [if_true]
    refine Ev.bind (specTextOk_ev ws (by omega)) ?_
    cases ht : TOk ws with
    | false =>
      simp only [Bool.false_eq_true, if_false]
      exact no (.inl (by unfold bothB; rw [ht, Bool.and_false]))
    | true =>
      simp only [if_true]
      have hb : bothB W Th Tk ws = true := by unfold bothB; rw [hm, ht]; rfl
      by_cases h0 : most < 0
      · simp only [if_pos h0]; exact no (.inr (.inl h0))
      simp only [if_neg h0]
      by_cases h3 : most > 300
      · rw [decide_eq_true h3]; exact no (.inr (.inr h3))
      rw [decide_eq_false h3]
      obtain ⟨q, rfl⟩ := Int.eq_ofNat_of_zero_le (show 0 ≤ most by omega)
      obtain ⟨m, h⟩ := bothB_iff hb
      have hr := restN_bd m h
      have hs := h.sum
      have hlen := h.len
      have hpos := h.pos
      refine Ev.step (f := fun k => (laws_total.f k ws).bind fun t => laws_FnWidths.l0 k ws q (widR W Th Tk ws q) (wrap64 (wrap64 (wrap64 ((ws.length : Int) - 1) * Th) + t)) 0 1 W Th Tk) (fun k => by simp only [laws_FnWidths.j0]; rw [if_neg (by simp)]) ?_
      refine Ev.bind (total_ev (by omega) (fun w hw => by have := h.all w hw; omega)) ?_
      rw [wz (n := (ws.length : Int) - 1) (by omega) (by omega), wz (n := ((ws.length : Int) - 1) * Th) (by omega) (by omega), wz (by omega) (by omega)]
      have e0 : widR W Th Tk ws q = wid Th Tk ws 1 q := by unfold widR; rw [if_pos ⟨hb, by omega, by omega⟩]; rfl
      have := widths_l0 hb _ rfl q (by omega) q 1 0 (widR W Th Tk ws q) (by omega) (by omega) (by rw [List.drop_zero, e0]) (by omega) (widR_len W Th Tk ws q)
      exact this
end Go.Proofs.Ytnbmlblcmjaclaa.Pure
