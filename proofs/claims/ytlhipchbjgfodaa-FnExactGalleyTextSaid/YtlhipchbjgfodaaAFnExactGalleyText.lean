/- How an argument of a law lies in memory, read off the row's own words: whole numbers, bools, strings, slices and structs of these. -/
import Derived.Test.YtlhipchbjgfodaaVFnExactGalleyTextMore
import Derived.Test.YtlhipchbjgfodaaVFnExactGalleyTextWords
import Derived.ChangeArms
import Derived.ChangeShapes
import Derived.WideShapes
namespace Go.Proofs.Ytlhipchbjgfodaa.RowAid
open Go.RowKit Go.Proofs.YtlhipchbjgfodaaW.PrintWords

/-- Whatever can be read as a datum of type t lies in memory as kind K says. -/
def Opn {H : Type} (enc : TypeId × Value → H) (P : Program) (w : World) (held : Bool) (t : TypeId) {α : Type} (K : Kd α) (Wf : α → Prop) : Prop :=
  ∀ fuel cs x, DataW.trod enc P w 0 (fun _ => true) held fuel t cs = some x → ∃ a : α, K.K w a cs ∧ Wf a
section
variable {H : Type} {enc : TypeId × Value → H} {P : Program} {w : World} {held : Bool} {t : TypeId}
theorem opn_int {k : IntKind} (ht : P.underlying t = some (.int k)) : Opn enc P w held t (Kd.int k) (fun n => (Lit.int k n).wf = true) := fun _ _ _ h => by
  obtain ⟨n, rfl, _, hw⟩ := DataW.trod_int ht h
  exact ⟨n, rfl, hw⟩
theorem opn_bool (ht : P.underlying t = some .bool) : Opn enc P w held t Kd.bool (fun _ => True) := fun _ _ _ h => by
  obtain ⟨b, rfl, _⟩ := DataW.trod_bool ht h
  exact ⟨b, rfl, trivial⟩
theorem opn_string (ht : P.underlying t = some .string) : Opn enc P w held t Kd.string (fun s => s.size ≤ maxLen) := fun _ _ _ h => by
  obtain ⟨s, rfl, _, hs⟩ := DataW.trod_string ht h
  exact ⟨s, rfl, hs⟩
theorem list_of {α : Type} {R : Nat → α → Prop} : ∀ n : Nat, (∀ i, i < n → ∃ a, R i a) → ∃ l : List α, l.length = n ∧ ∀ (i : Nat) (a : α), l[i]? = some a → R i a
  | 0, _ => ⟨[], rfl, fun i a h => by simp at h⟩
  | n + 1, h => by
    obtain ⟨l, hl, hr⟩ := list_of n (fun i hi => h i (by omega))
    obtain ⟨a, ha⟩ := h n (by omega)
    refine ⟨l ++ [a], by simp [hl], fun i b hb => ?_⟩
    rcases Nat.lt_or_ge i l.length with hi | hi
    · rw [List.getElem?_append_left hi] at hb; exact hr i b hb
    · have : i = n := by have := (List.getElem?_eq_some_iff.1 hb).1; simp at this; omega
      subst this
      rw [List.getElem?_append_right hi, hl] at hb
      simp at hb; subst hb; exact ha
theorem cells_get {w : World} {base : Nat} {a : Addr} {n : Nat} {cs : List Value} (h : w.cells? base a n = some cs) : cs.length = n ∧ ∀ i u, cs[i]? = some u → w.cell? (a.add i) = some u := by
  unfold World.cells? at h
  split at h
  · have hm : ∀ (l : List Nat) (cs : List Value), l.mapM (fun i => w.cell? (a.add i)) = some cs → cs.length = l.length ∧ ∀ (i : Nat) (u : Value), cs[i]? = some u → ∃ j : Nat, l[i]? = some j ∧ w.cell? (a.add j) = some u := by
      intro l
      induction l with
      | nil => intro cs h; simp at h; subst h; exact ⟨rfl, fun i u hu => by simp at hu⟩
      | cons x t ih =>
        intro cs h
        rw [List.mapM_cons] at h
        obtain ⟨v, hv, h⟩ := Option.bind_eq_some_iff.1 h
        obtain ⟨vs, hvs, h⟩ := Option.bind_eq_some_iff.1 h
        have h' := Option.some.inj h
        subst h'
        obtain ⟨h1, h2⟩ := ih vs hvs
        refine ⟨by simp [h1], fun i u hu => ?_⟩
        cases i with
        | zero => simp at hu; subst hu; exact ⟨x, rfl, hv⟩
        | succ i => obtain ⟨j, hj, hc⟩ := h2 i u (by simpa using hu); exact ⟨j, by simpa using hj, hc⟩
    obtain ⟨h1, h2⟩ := hm _ _ h
    refine ⟨by simpa using h1, fun i u hu => ?_⟩
    obtain ⟨j, hj, hc⟩ := h2 i u hu
    have := List.getElem?_eq_some_iff.1 hj
    obtain ⟨hlt, e⟩ := this
    simp at e; subst e; exact hc
  · cases h
theorem opn_slice {e : TypeId} {α : Type} {K : Kd α} {Wf : α → Prop} (ht : P.underlying t = some (.slice e)) (hc : P.cellsOf e = K.sz) (he : Opn enc P w held e K Wf) :
    Opn enc P w held t (Kd.slice e K) (fun l => l.length ≤ maxLen ∧ ∀ x ∈ l, Wf x) := fun fuel cs x h => by
  rcases DataW.trod_slice ht h with ⟨rfl, _⟩ | ⟨a, len, cap, elems, rest, n, _, rfl, _, _, hl, hm, hlen, hel, _, _⟩
  · exact ⟨[], ⟨none, 0, rfl, Nat.le_refl _, rfl, by simp, fun h => by simp at h⟩, by simp, fun x hx => by simp at hx⟩
  · have each : ∀ i, i < len → ∃ z : α, (∃ c : List Value, c.length = K.sz ∧ K.K w z c ∧ ∀ q u, c[q]? = some u → w.cell? (a.add (i * K.sz + q)) = some u) ∧ Wf z := by
      intro i hi
      have h1 := hel i hi
      rw [List.getElem?_eq_getElem (by omega)] at h1
      obtain ⟨c, hc1, hc2⟩ := Option.bind_eq_some_iff.1 h1
      obtain ⟨z, hz, hw⟩ := he _ _ _ hc2
      obtain ⟨g1, g2⟩ := cells_get hc1
      refine ⟨z, ⟨c, by rw [g1, hc], hz, fun q u hu => ?_⟩, hw⟩
      have := g2 q u hu
      rwa [hc, add_add] at this
    obtain ⟨l, hll, hlr⟩ := list_of len each
    refine ⟨l, ⟨some a, cap, by rw [hll], by omega, rfl, by unfold maxLen at hm; omega, fun _ => ⟨a, rfl, fun j p hp => ?_⟩⟩, by omega, fun x hx => ?_⟩
    · obtain ⟨c, h1, h2, h3⟩ := (hlr j p hp).1
      exact ⟨c, h1, h2, h3⟩
    · obtain ⟨i, hi, e⟩ := List.mem_iff_getElem.1 hx
      exact (hlr i x (by rw [List.getElem?_eq_getElem hi, e])).2
theorem opn_struct2 {f0 f1 : Field} {α β : Type} {K0 : Kd α} {K1 : Kd β} {W0 : α → Prop} {W1 : β → Prop} (ht : P.underlying t = some (.struct #[f0, f1])) (hc : P.cellsOf t = K0.sz + K1.sz)
    (ho : f0.offset = 0 ∧ f1.offset = K0.sz ∧ P.cellsOf f0.type = K0.sz ∧ P.cellsOf f1.type = K1.sz) (h0 : Opn enc P w held f0.type K0 W0) (h1 : Opn enc P w held f1.type K1 W1) :
    Opn enc P w held t (Kd.pair K0 K1) (fun a => W0 a.1 ∧ W1 a.2) := fun fuel cs x h => by
  obtain ⟨xs, n, _, _, hl, hx, hf⟩ := DataW.trod_struct ht h
  obtain ⟨o0, o1, c0, c1⟩ := ho
  have g0 := hf 0 f0 rfl
  have g1 := hf 1 f1 rfl
  simp at hx
  rw [List.getElem?_eq_getElem (by omega)] at g0 g1
  obtain ⟨a, ha, wa⟩ := h0 _ _ _ g0
  obtain ⟨b, hb, wb⟩ := h1 _ _ _ g1
  rw [o0, c0] at ha
  rw [o1, c1] at hb
  refine ⟨(a, b), ⟨_, _, ?_, ha, hb⟩, wa, wb⟩
  rw [List.drop_zero, List.take_of_length_le (l := cs.drop K0.sz) (by simp; omega), List.take_append_drop]
theorem opn_struct3 {f0 f1 f2 : Field} {α β γ : Type} {K0 : Kd α} {K1 : Kd β} {K2 : Kd γ} {W0 : α → Prop} {W1 : β → Prop} {W2 : γ → Prop} (ht : P.underlying t = some (.struct #[f0, f1, f2])) (hc : P.cellsOf t = K0.sz + (K1.sz + K2.sz))
    (ho : f0.offset = 0 ∧ f1.offset = K0.sz ∧ f2.offset = K0.sz + K1.sz ∧ P.cellsOf f0.type = K0.sz ∧ P.cellsOf f1.type = K1.sz ∧ P.cellsOf f2.type = K2.sz)
    (h0 : Opn enc P w held f0.type K0 W0) (h1 : Opn enc P w held f1.type K1 W1) (h2 : Opn enc P w held f2.type K2 W2) :
    Opn enc P w held t (Kd.pair K0 (Kd.pair K1 K2)) (fun a => W0 a.1 ∧ W1 a.2.1 ∧ W2 a.2.2) := fun fuel cs x h => by
  obtain ⟨xs, n, _, _, hl, hx, hf⟩ := DataW.trod_struct ht h
  obtain ⟨o0, o1, o2, c0, c1, c2⟩ := ho
  have g0 := hf 0 f0 rfl
  have g1 := hf 1 f1 rfl
  have g2 := hf 2 f2 rfl
  simp at hx
  rw [List.getElem?_eq_getElem (by omega)] at g0 g1 g2
  obtain ⟨a, ha, wa⟩ := h0 _ _ _ g0
  obtain ⟨b, hb, wb⟩ := h1 _ _ _ g1
  obtain ⟨c, hcc, wc⟩ := h2 _ _ _ g2
  rw [o0, c0] at ha
  rw [o1, c1] at hb
  rw [o2, c2] at hcc
  refine ⟨(a, b, c), ⟨_, _, ?_, ha, _, _, rfl, hb, hcc⟩, wa, wb, wc⟩
  have e : ((cs.drop K0.sz).take K1.sz) ++ ((cs.drop (K0.sz + K1.sz)).take K2.sz) = cs.drop K0.sz := by
    rw [List.take_of_length_le (l := cs.drop (K0.sz + K1.sz)) (by simp; omega), ← List.drop_drop, List.take_append_drop]
  rw [e, List.drop_zero, List.take_append_drop]
end
end Go.Proofs.Ytlhipchbjgfodaa.RowAid
