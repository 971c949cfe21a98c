/- The pure statement behind the law FnFaults: the program's FaultsOf tells the places at which two strings of one length differ, from either side. No condition. -/
import Derived.Test.YtlhipchbjgfodaaPFnFaults1
import Derived.Test.YtlhipchbjgfodaaPFnFaults5
import Derived.Test.YtlhipchbjgfodaaBFnFaultsBase
import Derived.Test.YtlhipchbjgfodaaBFnFaultsDraw0
import Derived.Test.YtlhipchbjgfodaaBFnFaultsDraw5
namespace Go.Proofs.Ytlhipchbjgfodaa.Pure
open Go.RowKit Go.Proofs.Ytlhipchbjgfodaa.PFnFaults Go.Proofs.YtlhipchbjgfodaaW.PrintWords Go.Proofs.YtlhipchbjgfodaaW.PrintLast Go.Proofs.YtlhipchbjgfodaaW.PrintMore
set_option linter.unusedVariables false
set_option linter.unusedSimpArgs false
/-- The indices from i on, n of them, at which two strings differ. -/
def flts (a b : ByteArray) : Nat → Int → List Int
  | 0, _ => []
  | n + 1, i => if bt a i = bt b i then flts a b n (i + 1) else i :: flts a b n (i + 1)
theorem flts_len (a b : ByteArray) : ∀ n i, (flts a b n i).length ≤ n
  | 0, _ => by simp [flts]
  | n + 1, i => by
    have := flts_len a b n (i + 1)
    unfold flts; split <;> simp <;> omega
theorem flts_comm (a b : ByteArray) : ∀ n i, flts a b n i = flts b a n i
  | 0, _ => rfl
  | n + 1, i => by
    unfold flts
    rw [flts_comm a b n (i + 1)]
    by_cases h : bt a i = bt b i
    · rw [if_pos h, if_pos h.symm]
    · rw [if_neg h, if_neg (fun e => h e.symm)]
theorem impl_l0 (a b : ByteArray) (hab : a.size = b.size) (ha : a.size ≤ 1048576) : ∀ (n : Nat) (i : Int) (acc : List Int), 0 ≤ i → i + n = a.size → (acc.length : Int) ≤ i →
    Ev (fun k => impl_FaultsOf.l0 k a b acc a.size i) (acc ++ flts a b n i, true)
  | 0, i, acc, h0, hn, _ => Ev.step (f := fun _ => some (acc, true)) (fun k => by simp only [impl_FaultsOf.l0]; rw [if_neg (by omega)]) (by simpa [flts] using Ev.now _)
  | n + 1, i, acc, h0, hn, hl => by
    refine Ev.step (f := fun k => if bt a i = bt b i then impl_FaultsOf.l0 k a b acc a.size (i + 1) else impl_FaultsOf.l0 k a b (acc ++ [i]) a.size (i + 1)) (fun k => ?_) ?_
    · simp only [impl_FaultsOf.l0]; rw [if_pos (by omega), if_pos h0, if_pos (by omega), if_pos (by omega), if_pos (show acc.length < 17592186044416 by omega), wz (n := i + 1) (by omega) (by omega)]
    · unfold flts
      split
      · exact impl_l0 a b hab ha n (i + 1) acc (by omega) (by omega) (by omega)
      · have := impl_l0 a b hab ha n (i + 1) (acc ++ [i]) (by omega) (by omega) (by simp; omega)
        simpa using this
def faults (a b : ByteArray) : List Int × Bool := if a.size = b.size then (flts a b a.size 0, true) else ([], false)
theorem faults_comm (a b : ByteArray) : faults b a = faults a b := by
  unfold faults
  by_cases h : a.size = b.size
  · rw [if_pos h, if_pos h.symm, h, flts_comm]
  · rw [if_neg h, if_neg (fun e => h e.symm)]
theorem impl_ev (a b : ByteArray) (ha : a.size ≤ 1048576) : Ev (fun k => impl_FaultsOf.f k a b) (faults a b) := by
  unfold impl_FaultsOf.f faults
  by_cases h : a.size = b.size
  · simp only [if_pos h, if_pos (show (a.size : Int) = b.size by omega)]
    simpa using impl_l0 a b h ha a.size 0 [] (by omega) (by omega) (by simp)
  · simp only [if_neg h, if_neg (show ¬ (a.size : Int) = b.size by omega)]; exact Ev.now _
theorem ints_l0 (l : List Int) (hl : l.length ≤ 1048576) : ∀ (n : Nat) (i : Int), 0 ≤ i → i + n = l.length → Ev (fun k => laws_ints.l0 k l l l.length i) true
  | 0, i, h0, hn => Ev.step (f := fun _ => some true) (fun k => by simp only [laws_ints.l0]; rw [if_neg (by omega)]) (Ev.now _)
  | n + 1, i, h0, hn => Ev.step (f := fun k => laws_ints.l0 k l l l.length (i + 1)) (fun k => by
      simp only [laws_ints.l0]; rw [if_pos (by omega), if_pos h0, if_pos (by omega), if_pos (by omega)]; simp only [if_true]; rw [wz (n := i + 1) (by omega) (by omega)]) (ints_l0 l hl n (i + 1) (by omega) (by omega))
theorem ints_ev (l : List Int) (hl : l.length ≤ 1048576) : Ev (fun k => laws_ints.f k l l) true := by
  unfold laws_ints.f; simp only [if_true]; exact ints_l0 l hl l.length 0 (by omega) (by omega)
theorem drawF_l0 {b : List Int} (a : ByteArray) (ha : a.size ≤ 22) : ∀ (n p : Nat) (i h : Int) (s : ByteArray), p + n = a.size → s.size ≤ 2 * p → Cur b i → ∃ s', Ev (fun k => spec_DrawFaultsOf.l0 k a s p b i h) (a, s') ∧ s'.size ≤ 44
  | 0, p, i, h, s, hn, hs, c => ⟨s, Ev.step (f := fun _ => some (a, s)) (fun k => by simp only [spec_DrawFaultsOf.l0]; rw [if_neg (by omega)]) (Ev.now _), by omega⟩
  | n + 1, p, i, h, s, hn, hs, c => by
    obtain ⟨o, i1, h1, e1, c1⟩ := once_ex h 4 c
    have hw : wrap64 ((p : Int) + 1) = ((p + 1 : Nat) : Int) := wz (n := (p : Int) + 1) (by omega) (by omega)
    cases o with
    | true =>
      obtain ⟨x, i2, h2, e2, hx, c2⟩ := pick_ex h1 ([(⟨#[97]⟩ : ByteArray), (⟨#[32]⟩ : ByteArray), (⟨#[255]⟩ : ByteArray), (⟨#[]⟩ : ByteArray)] : List ByteArray) (by simp) (by intro s hs; simp at hs; rcases hs with rfl | rfl | rfl | rfl <;> decide) c1
      obtain ⟨s', ev, hs'⟩ := drawF_l0 a ha n (p + 1) i2 h2 (s ++ x) (by omega) (by rw [ByteArray.size_append]; omega) c2
      refine ⟨s', Ev.step (f := fun k => spec_DrawFaultsOf.l0 k a (s ++ x) ((p + 1 : Nat) : Int) b i2 h2) (fun k => ?_) ev, hs'⟩
      simp only [spec_DrawFaultsOf.l0]
      rw [if_pos (by omega), e1, Option.bind_some, if_pos rfl, e2, Option.bind_some, hw]
      exact if_pos (by show s.size + x.size ≤ _; omega)
    | false =>
      have hx := extract_size a p (p + 1)
      obtain ⟨s', ev, hs'⟩ := drawF_l0 a ha n (p + 1) i1 h1 (s ++ a.extract p (p + 1)) (by omega) (by rw [ByteArray.size_append]; omega) c1
      refine ⟨s', Ev.step (f := fun k => spec_DrawFaultsOf.l0 k a (s ++ a.extract p (p + 1)) ((p + 1 : Nat) : Int) b i1 h1) (fun k => ?_) ev, hs'⟩
      simp only [spec_DrawFaultsOf.l0]
      rw [if_pos (by omega), e1, Option.bind_some, if_neg (by simp), hw, if_pos (by omega), if_pos (by omega), if_pos (by omega), Int.toNat_natCast, Int.toNat_natCast, if_pos (by omega)]
theorem drawF_ex (code : List Int) (hl : code.length ≤ 4611686018427387904) : ∃ a b, Ev (fun k => spec_DrawFaultsOf.f k code) (a, b) ∧ a.size ≤ 22 ∧ b.size ≤ 44 := by
  obtain ⟨h, e, c⟩ := cur_new code hl
  obtain ⟨s, w, C, i1, h1, ev, hs, c1⟩ := font_ex h 6 (by omega) (by omega) c
  obtain ⟨a, i2, h2, ev2, ha, c2⟩ := words5_ex h1 s w C hs c1
  obtain ⟨b, ev3, hb⟩ := drawF_l0 a ha a.size 0 i2 h2 (⟨#[]⟩ : ByteArray) (by omega) (by decide) c2
  refine ⟨a, b, ?_, ha, hb⟩
  unfold spec_DrawFaultsOf.f
  rw [e]
  simp only [Option.bind_some]
  exact Ev.bind ev (Ev.bind ev2 ev3)
theorem law_l0 (a b : ByteArray) (hab : a.size = b.size) (ha : a.size ≤ 1000) (l : List Int) (hl : l.length ≤ 1000) : ∀ (n p q : Nat), p + n = a.size → q ≤ l.length → l.drop q = flts a b n p → Ev (fun k => laws_FnFaults.l0 k a b l true q p) true
  | 0, p, q, hn, hq, hd => by
    rw [flts, List.drop_eq_nil_iff] at hd
    refine Ev.step (f := fun k => laws_FnFaults.j2 k a b l true q p false) (fun k => ?_) (Ev.step (f := fun _ => some true) (fun k => ?_) (Ev.now _))
    · simp only [laws_FnFaults.l0]; rw [if_pos trivial, decide_eq_false (by omega)]
    · simp only [laws_FnFaults.j2]; rw [if_neg (by simp), show q = l.length from by omega]; simp
  | n + 1, p, q, hn, hq, hd => by
    have hw : wrap64 ((p : Int) + 1) = ((p + 1 : Nat) : Int) := wz (n := (p : Int) + 1) (by omega) (by omega)
    by_cases he : bt a p = bt b p
    · rw [flts, if_pos he] at hd
      refine Ev.step (f := fun k => laws_FnFaults.j2 k a b l true q p true) (fun k => ?_) (Ev.step (f := fun k => laws_FnFaults.l0 k a b l true q ((p + 1 : Nat) : Int)) (fun k => ?_) (law_l0 a b hab ha l hl n (p + 1) q (by omega) hq hd))
      · simp only [laws_FnFaults.l0]; rw [if_pos trivial, decide_eq_true (by omega)]
      · simp only [laws_FnFaults.j2]; rw [if_pos trivial, if_pos (by omega), if_pos (by omega), if_pos (by omega), if_pos he, hw]
    · rw [flts, if_neg he] at hd
      have hql : q < l.length := by
        rcases Nat.lt_or_ge q l.length with h | h
        · exact h
        · rw [List.drop_of_length_le h] at hd; cases hd
      rw [List.drop_eq_getElem_cons hql] at hd
      have h1 := (List.cons.inj hd).1
      have h2 := (List.cons.inj hd).2
      refine Ev.step (f := fun k => laws_FnFaults.j2 k a b l true q p true) (fun k => ?_) (Ev.step (f := fun k => laws_FnFaults.l0 k a b l true ((q + 1 : Nat) : Int) ((p + 1 : Nat) : Int)) (fun k => ?_) (law_l0 a b hab ha l hl n (p + 1) (q + 1) (by omega) (by omega) h2))
      · simp only [laws_FnFaults.l0]; rw [if_pos trivial, decide_eq_true (by omega)]
      · simp only [laws_FnFaults.j2]
        rw [if_pos trivial, if_pos (by omega), if_pos (by omega), if_pos (by omega), if_neg he, if_neg (by omega), if_pos (by omega), if_pos (by omega), rd_lt l q hql, h1, if_pos rfl, hw, wz (n := (q : Int) + 1) (by omega) (by omega)]
        rfl
theorem FnFaults : laws_FnFaults.Pure := by
  intro code hl _ _
  unfold maxLen at hl
  refine Ev.rounds (g := fun k => laws_FnFaults.f k code) ?_
  unfold laws_FnFaults.f
  by_cases hw : (code.length : Int) > 1048576
  · simp only [if_pos hw]; exact Ev.now _
  simp only [if_neg hw]
  obtain ⟨a, b, ev, ha, hb⟩ := drawF_ex code (by omega)
  have hfl : (faults a b).1.length ≤ 1000 := by
    unfold faults; split
    · have := flts_len a b a.size 0; show (flts a b a.size 0).length ≤ 1000; omega
    · simp
  refine Ev.bind ev (Ev.bind (impl_ev a b (by omega)) (Ev.bind (impl_ev b a (by omega)) ?_))
  rw [faults_comm a b]
  refine Ev.bind (ints_ev _ (by omega)) ?_
  simp only [if_true, bne_self_eq_false, Bool.false_eq_true, if_false]
  by_cases h : a.size = b.size
  · have e : faults a b = (flts a b a.size 0, true) := by unfold faults; rw [if_pos h]
    rw [e] at hfl ⊢
    have e2 : (true != ((a.size : Int) == (b.size : Int))) = false := by rw [h]; simp
    simp only [e2]
    exact Ev.step (f := fun k => laws_FnFaults.l0 k a b (flts a b a.size 0) true 0 0) (fun k => by simp only [laws_FnFaults.j0]; rw [if_neg (by simp)]) (law_l0 a b h (by omega) _ hfl a.size 0 0 (by omega) (by omega) (by simp))
  · have e : faults a b = ([], false) := by unfold faults; rw [if_neg h]
    rw [e]
    have e2 : (false != ((a.size : Int) == (b.size : Int))) = false := by
      rw [beq_eq_false_iff_ne.2 (show (a.size : Int) ≠ (b.size : Int) by omega)]; rfl
    simp only [e2]
    refine Ev.step (f := fun k => laws_FnFaults.l0 k a b [] false 0 0) (fun k => by simp only [laws_FnFaults.j0]; rw [if_neg (by simp)]) (Ev.step (f := fun k => laws_FnFaults.j2 k a b [] false 0 0 false) (fun k => by simp only [laws_FnFaults.l0]; rw [if_neg (by simp)]) (Ev.step (f := fun _ => some true) (fun k => by simp only [laws_FnFaults.j2]; rw [if_neg (by simp)]; rfl) (Ev.now _)))
end Go.Proofs.Ytlhipchbjgfodaa.Pure
