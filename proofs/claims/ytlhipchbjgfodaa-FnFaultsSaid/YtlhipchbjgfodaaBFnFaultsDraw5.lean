/- Plain laws on the draws of a font and of a text: that they come to an end, and how long what they tell can be. Condition: the code is a list as long as memory can hold. -/
import Derived.Test.YtlhipchbjgfodaaPFnFaults1
import Derived.Test.YtlhipchbjgfodaaPFnFaults2
import Derived.Test.YtlhipchbjgfodaaPFnFaults3
import Derived.Test.YtlhipchbjgfodaaPFnFaults4
import Derived.Test.YtlhipchbjgfodaaBFnFaultsBase
import Derived.Test.YtlhipchbjgfodaaBFnFaultsDraw0
namespace Go.Proofs.Ytlhipchbjgfodaa.Pure
open Go.RowKit Go.Proofs.Ytlhipchbjgfodaa.PFnFaults Go.Proofs.YtlhipchbjgfodaaW.PrintWords Go.Proofs.YtlhipchbjgfodaaW.PrintLast Go.Proofs.YtlhipchbjgfodaaW.PrintMore
set_option linter.unusedVariables false
set_option linter.unusedSimpArgs false
theorem andNot_le {a b : Int} (a0 : 0 ≤ a) (a1 : a ≤ 127) (b0 : 0 ≤ b) (b1 : b ≤ 127) (h : Go.bits .andNot .i64 a b = 0) : a ≤ b := by
  obtain ⟨x, rfl⟩ := Int.eq_ofNat_of_zero_le a0
  obtain ⟨y, rfl⟩ := Int.eq_ofNat_of_zero_le b0
  have e : Go.bits .andNot .i64 (x : Int) (y : Int) = IntKind.i64.wrap (((BitVec.ofInt 64 (x : Int) &&& ~~~BitVec.ofInt 64 (y : Int)).toNat : Nat) : Int) := rfl
  rw [e, Go.IntKind.wrap_i64] at h
  have hlt := (BitVec.ofInt 64 (x : Int) &&& ~~~BitVec.ofInt 64 (y : Int)).isLt
  have hz : BitVec.ofInt 64 (x : Int) &&& ~~~BitVec.ofInt 64 (y : Int) = 0#64 := by
    apply BitVec.eq_of_toNat_eq
    rw [BitVec.toNat_ofNat]
    omega
  have hx : BitVec.ofInt 64 (x : Int) = BitVec.ofInt 64 (x : Int) &&& BitVec.ofInt 64 (y : Int) := by
    apply BitVec.eq_of_getLsbD_eq
    intro i hi
    have := congrArg (fun v => v.getLsbD i) hz
    simp only [BitVec.getLsbD_and, BitVec.getLsbD_not, decide_eq_true hi, Bool.true_and, BitVec.getLsbD_zero] at this
    rw [BitVec.getLsbD_and]
    cases h1 : (BitVec.ofInt 64 (x : Int)).getLsbD i <;> cases h2 : (BitVec.ofInt 64 (y : Int)).getLsbD i <;> simp_all
  have ht := congrArg BitVec.toNat hx
  rw [BitVec.toNat_and, BitVec.ofInt_natCast, BitVec.ofInt_natCast, BitVec.toNat_ofNat, BitVec.toNat_ofNat, Nat.mod_eq_of_lt (show x < 2 ^ 64 by omega), Nat.mod_eq_of_lt (show y < 2 ^ 64 by omega)] at ht
  have : x &&& y ≤ y := Nat.and_le_right
  omega
theorem eqb_zero (x : Int) : (x == 0) = true ↔ x = 0 := by simp
/-- What the sets of a bar are like: sets of teeth, each one once, not too many. -/
def SetsOk (S : List Int) : Prop := (∀ j : Nat, j < S.length → 0 ≤ S.getD j 0 ∧ S.getD j 0 ≤ 127) ∧ (∀ i j : Nat, i < j → j < S.length → S.getD j 0 ≠ S.getD i 0) ∧ S.length ≤ 40
theorem set_eq (x : Int) : spec_l1Set.f x = some (decide (0 ≤ x ∧ x ≤ 127)) := by
  unfold spec_l1Set.f spec_l1In.f
  by_cases h : x ≥ 0
  · rw [if_pos h, Option.bind_some]; congr 1; exact decide_eq_decide.2 ⟨fun h2 => ⟨h, h2⟩, fun h2 => h2.2⟩
  · rw [if_neg h, Option.bind_some, decide_eq_false (by omega)]
theorem isBar_l0 (S : List Int) (hl : S.length ≤ 1048576) : ∀ (n i : Nat), i + n = S.length → ∃ t, Ev (fun k => spec_IsBar.l0 k S S S.length i) t ∧ (t = true → S.length ≤ 40 ∧ ∀ j : Nat, i ≤ j → j < S.length → 0 ≤ S.getD j 0 ∧ S.getD j 0 ≤ 127)
  | 0, i, hn => by
    by_cases h : (S.length : Int) ≥ 1
    · refine ⟨decide ((S.length : Int) ≤ 40), Ev.step (f := fun _ => some (decide ((S.length : Int) ≤ 40))) (fun k => ?_) (Ev.now _), fun ht => ⟨by have := of_decide_eq_true ht; omega, fun j h1 h2 => by omega⟩⟩
      simp only [spec_IsBar.l0]; rw [if_neg (by omega)]; unfold spec_l1In.f; rw [if_pos h, Option.bind_some]
    · refine ⟨false, Ev.step (f := fun _ => some false) (fun k => ?_) (Ev.now _), fun ht => by cases ht⟩
      simp only [spec_IsBar.l0]; rw [if_neg (by omega)]; unfold spec_l1In.f; rw [if_neg h, Option.bind_some]
  | n + 1, i, hn => by
    by_cases h : 0 ≤ S.getD i 0 ∧ S.getD i 0 ≤ 127
    · obtain ⟨t, ev, ht⟩ := isBar_l0 S hl n (i + 1) (by omega)
      refine ⟨t, Ev.step (f := fun k => spec_IsBar.l0 k S S S.length ((i + 1 : Nat) : Int)) (fun k => ?_) ev, fun e => ⟨(ht e).1, fun j h1 h2 => ?_⟩⟩
      · simp only [spec_IsBar.l0]; rw [if_pos (by omega), if_pos (by omega), if_pos (by omega), rd_nat, set_eq, Option.bind_some, decide_eq_true h, if_pos rfl, wz (by omega) (by omega)]; rfl
      · rcases Nat.lt_or_ge i j with h3 | h3
        · exact (ht e).2 j h3 h2
        · obtain rfl : i = j := by omega
          exact h
    · refine ⟨false, Ev.step (f := fun _ => some false) (fun k => ?_) (Ev.now _), fun ht => by cases ht⟩
      simp only [spec_IsBar.l0]; rw [if_pos (by omega), if_pos (by omega), if_pos (by omega), rd_nat, set_eq, Option.bind_some, decide_eq_false h, if_neg (by simp)]
theorem isBar_ex (S : List Int) (hl : S.length ≤ 1048576) : ∃ t, Ev (fun k => spec_IsBar.f k S) t ∧ (t = true → S.length ≤ 40 ∧ ∀ j : Nat, j < S.length → 0 ≤ S.getD j 0 ∧ S.getD j 0 ≤ 127) := by
  obtain ⟨t, ev, ht⟩ := isBar_l0 S hl S.length 0 (by omega)
  exact ⟨t, ev, fun e => ⟨(ht e).1, fun j h => (ht e).2 j (by omega) h⟩⟩
theorem take_getD (S : List Int) (i j : Nat) (h : j < i) : (S.take i).getD j 0 = S.getD j 0 := by
  rw [List.getD_eq_getElem?_getD, List.getElem?_take, if_pos h, ← List.getD_eq_getElem?_getD]
theorem sets_l1 (S : List Int) (hl : S.length ≤ 1048576) (i : Nat) (hi : i < S.length) {Q : Bool → Prop} (hf : Q false) (next : (∀ j : Nat, j < i → S.getD i 0 ≠ S.getD j 0) → ∃ t, Ev (fun k => spec_l1Sets.l0 k S S S.length ((i + 1 : Nat) : Int)) t ∧ Q t) :
    ∀ (n p : Nat), p + n = i → (∀ j : Nat, j < p → S.getD i 0 ≠ S.getD j 0) → ∃ t, Ev (fun k => spec_l1Sets.l1 k S (S.getD i 0) S S.length i (S.take i) ((S.take i).length : Int) p) t ∧ Q t
  | 0, p, hn, hp => by
    have hlen : (S.take i).length = i := by simp; omega
    obtain ⟨t, ev, ht⟩ := next (fun j hj => hp j (by omega))
    refine ⟨t, Ev.step (f := fun k => spec_l1Sets.l0 k S S S.length ((i + 1 : Nat) : Int)) (fun k => ?_) ev, ht⟩
    simp only [spec_l1Sets.l1]; rw [if_neg (by omega), wz (by omega) (by omega)]; rfl
  | n + 1, p, hn, hp => by
    have hlen : (S.take i).length = i := by simp; omega
    by_cases he : S.getD i 0 = S.getD p 0
    · refine ⟨false, Ev.step (f := fun _ => some false) (fun k => ?_) (Ev.now _), hf⟩
      simp only [spec_l1Sets.l1]; rw [if_pos (by omega), if_pos (by omega), if_pos (by omega), rd_nat, take_getD S i p (by omega), if_pos he]
    · obtain ⟨t, ev, ht⟩ := sets_l1 S hl i hi hf next n (p + 1) (by omega) (fun j hj => by
        rcases Nat.lt_or_ge j p with h | h
        · exact hp j h
        · obtain rfl : j = p := by omega
          exact he)
      refine ⟨t, Ev.step (f := fun k => spec_l1Sets.l1 k S (S.getD i 0) S S.length i (S.take i) ((S.take i).length : Int) ((p + 1 : Nat) : Int)) (fun k => ?_) ev, ht⟩
      simp only [spec_l1Sets.l1]; rw [if_pos (by omega), if_pos (by omega), if_pos (by omega), rd_nat, take_getD S i p (by omega), if_neg he, wz (by omega) (by omega)]; rfl
theorem sets_l0 (S : List Int) (hl : S.length ≤ 1048576) : ∀ (n i : Nat), i + n = S.length → (∀ a b : Nat, a < b → b < i → S.getD b 0 ≠ S.getD a 0) → ∃ t, Ev (fun k => spec_l1Sets.l0 k S S S.length i) t ∧ (t = true → SetsOk S)
  | 0, i, hn, hp => by
    obtain ⟨t, ev, ht⟩ := isBar_ex S hl
    refine ⟨t, Ev.step (f := fun k => (spec_IsBar.f k S).bind fun t => some t) (fun k => ?_) (Ev.bind ev (Ev.now _)), fun e => ⟨(ht e).2, fun a b h1 h2 => hp a b h1 (by omega), (ht e).1⟩⟩
    simp only [spec_l1Sets.l0]; rw [if_neg (by omega)]
  | n + 1, i, hn, hp => by
    obtain ⟨t, ev, ht⟩ := sets_l1 S hl i (by omega) (Q := fun t => t = true → SetsOk S) (fun h => by cases h) (fun h => sets_l0 S hl n (i + 1) (by omega) (fun a b h1 h2 => by
      rcases Nat.lt_or_ge b i with h3 | h3
      · exact hp a b h1 h3
      · obtain rfl : b = i := by omega
        exact h a h1)) i 0 (by omega) (fun j hj => by omega)
    refine ⟨t, Ev.step (f := fun k => spec_l1Sets.l1 k S (S.getD i 0) S S.length i (S.take i) ((S.take i).length : Int) ((0 : Nat) : Int)) (fun k => ?_) ev, ht⟩
    simp only [spec_l1Sets.l0]; rw [if_pos (by omega), if_pos (by omega), if_pos (by omega), if_pos (by omega), rd_nat, Int.toNat_natCast]; rfl
theorem sets_ex (S : List Int) (hl : S.length ≤ 1048576) : ∃ t, Ev (fun k => spec_l1Sets.f k S) t ∧ (t = true → SetsOk S) := by
  obtain ⟨t, ev, ht⟩ := sets_l0 S hl S.length 0 (by omega) (fun a b _ h => by omega)
  exact ⟨t, ev, ht⟩
/-! OrderBar -/
def lf (L : List Bool) (j : Nat) : Bool := L.getD j false
theorem lf_set (L : List Bool) (i j : Nat) (v : Bool) (h : i < L.length) : lf (L.set i v) j = if i = j then v else lf L j := by
  unfold lf
  rw [List.getD_eq_getElem?_getD, List.getElem?_set, List.getD_eq_getElem?_getD]
  by_cases h1 : i = j
  · subst h1; simp [h]
  · simp [h1]
def cnt : List Bool → Nat
  | [] => 0
  | b :: t => (if b = true then 1 else 0) + cnt t
theorem cnt_set : ∀ (L : List Bool) (j : Nat), lf L j = true → cnt (L.set j false) + 1 = cnt L
  | [], j, h => by simp [lf] at h
  | b :: t, 0, h => by simp only [lf, List.getD_cons_zero] at h; subst h; simp [cnt]; omega
  | b :: t, j + 1, h => by
    have := cnt_set t j (by simpa [lf] using h)
    simp only [List.set_cons_succ, cnt]; omega
theorem cnt_pos : ∀ (L : List Bool), 0 < cnt L → ∃ j, j < L.length ∧ lf L j = true
  | [], h => by simp [cnt] at h
  | true :: t, h => ⟨0, by simp, rfl⟩
  | false :: t, h => by
    obtain ⟨j, h1, h2⟩ := cnt_pos t (by simpa [cnt] using h)
    exact ⟨j + 1, by simp; omega, by simpa [lf] using h2⟩
theorem cnt_rep : ∀ n, cnt (List.replicate n true) = n
  | 0 => rfl
  | n + 1 => by rw [List.replicate_succ, cnt, cnt_rep n]; simp; omega
def Hit (S : List Int) (L : List Bool) (i p : Nat) : Prop := ∃ j, p ≤ j ∧ j < S.length ∧ j ≠ i ∧ lf L j = true ∧ Go.bits .andNot .i64 (S.getD j 0) (S.getD i 0) = 0
theorem rdOf_lf (L : List Bool) (j : Nat) : rdOf false L (j : Int) = lf L j := by unfold rdOf lf; rw [Int.toNat_natCast]
theorem free_l0 (S : List Int) (L : List Bool) (hS : S.length ≤ 40) (hL : L.length = S.length) (i : Nat) (hi : i < S.length) : ∀ (n p : Nat), p + n = S.length → ∃ t, Ev (fun k => spec_l1Free.l0 k S L i S S.length p) t ∧ (t = false → Hit S L i p)
  | 0, p, hn => ⟨true, Ev.step (f := fun _ => some true) (fun k => by simp only [spec_l1Free.l0]; rw [if_neg (by omega)]) (Ev.now _), fun h => by cases h⟩
  | n + 1, p, hn => by
    obtain ⟨t, ev, ht⟩ := free_l0 S L hS hL i hi n (p + 1) (by omega)
    have skip : ∀ {g : Nat → Option Bool}, (∀ k, g (k + 1) = spec_l1Free.l0 k S L i S S.length ((p + 1 : Nat) : Int)) → ∃ t, Ev g t ∧ (t = false → Hit S L i p) := by
      intro g hg
      refine ⟨t, Ev.step (f := fun k => spec_l1Free.l0 k S L i S S.length ((p + 1 : Nat) : Int)) hg ev, fun e => ?_⟩
      obtain ⟨j, h1, h2⟩ := ht e
      exact ⟨j, by omega, h2⟩
    have hw : wrap64 ((p : Int) + 1) = ((p + 1 : Nat) : Int) := wz (n := (p : Int) + 1) (by omega) (by omega)
    by_cases hpi : p = i
    · refine skip (fun k => ?_)
      simp only [spec_l1Free.l0]; rw [if_pos (by omega), if_pos (by omega), if_pos (by omega), if_pos (by omega), hw]
    · cases hlf : lf L p with
      | false =>
        refine skip (fun k => ?_)
        simp only [spec_l1Free.l0]; rw [if_pos (by omega), if_pos (by omega), if_pos (by omega), if_neg (by omega), if_pos (by omega), rdOf_lf, hlf, if_neg (by simp), hw]
      | true =>
        by_cases hp : Go.bits .andNot .i64 (S.getD p 0) (S.getD i 0) = 0
        · refine ⟨false, Ev.step (f := fun _ => some false) (fun k => ?_) (Ev.now _), fun _ => ⟨p, Nat.le_refl _, by omega, hpi, hlf, hp⟩⟩
          simp only [spec_l1Free.l0]; rw [if_pos (by omega), if_pos (by omega), if_pos (by omega), if_neg (by omega), if_pos (by omega), rdOf_lf, hlf, if_pos rfl, if_pos (by omega), if_pos (by omega), rd_nat, rd_nat]
          unfold spec_l1Part.f; rw [Option.bind_some, if_pos ((eqb_zero _).2 hp)]
        · refine skip (fun k => ?_)
          simp only [spec_l1Free.l0]; rw [if_pos (by omega), if_pos (by omega), if_pos (by omega), if_neg (by omega), if_pos (by omega), rdOf_lf, hlf, if_pos rfl, if_pos (by omega), if_pos (by omega), rd_nat, rd_nat]
          unfold spec_l1Part.f; rw [Option.bind_some, if_neg (fun h => hp ((eqb_zero _).1 h)), hw]
theorem free_ex (S : List Int) (L : List Bool) (hS : S.length ≤ 40) (hL : L.length = S.length) (i : Nat) (hi : i < S.length) : ∃ t, Ev (fun k => spec_l1Free.f k S L i) t ∧ (t = false → Hit S L i 0) := free_l0 S L hS hL i hi S.length 0 (by omega)
/-- Of the sets that are left one is free: no other one that is left is part of it. -/
theorem some_free {S : List Int} (hS : SetsOk S) (L : List Bool) (hL : L.length = S.length) : ∀ (v j : Nat), j < S.length → lf L j = true → S.getD j 0 = (v : Int) → ∃ i, i < S.length ∧ lf L i = true ∧ ¬ Hit S L i 0 := by
  intro v
  induction v using Nat.strongRecOn with
  | ind v ih =>
    intro j hj hlf hv
    by_cases h : Hit S L j 0
    · obtain ⟨q, _, h2, h3, h4, h5⟩ := h
      have hq := hS.1 q h2
      have hjj := hS.1 j hj
      have hle := andNot_le hq.1 hq.2 hjj.1 hjj.2 h5
      have hne : S.getD q 0 ≠ S.getD j 0 := by
        rcases Nat.lt_or_ge q j with h | h
        · exact fun e => hS.2.1 q j h hj e.symm
        · exact hS.2.1 j q (by omega) h2
      obtain ⟨w, hw⟩ := Int.eq_ofNat_of_zero_le hq.1
      exact ih w (by omega) q h2 h4 hw
    · exact ⟨j, hj, hlf, h⟩
theorem order_l2 {S : List Int} (hS : SetsOk S) (L : List Bool) (hL : L.length = S.length) (out : List Int) (ho : out.length < S.length) {Q : List Int × Bool → Prop}
    (next : ∀ j, j < S.length → lf L j = true → ∃ r, Ev (fun k => spec_OrderBar.l1 k S (L.set j false) (out ++ [S.getD j 0])) r ∧ Q r) (i : Nat) (hi : i < S.length) (hlf : lf L i = true) (hf : ¬ Hit S L i 0) :
    ∀ (n p : Nat), p + n = S.length → p ≤ i → ∃ r, Ev (fun k => spec_OrderBar.l2 k S L out S S.length p) r ∧ Q r
  | 0, p, hn, hp => by omega
  | n + 1, p, hn, hp => by
    have h40 := hS.2.2
    have hw : wrap64 ((p : Int) + 1) = ((p + 1 : Nat) : Int) := wz (n := (p : Int) + 1) (by omega) (by omega)
    cases hlp : lf L p with
    | false =>
      obtain ⟨r, ev, hq⟩ := order_l2 hS L hL out ho next i hi hlf hf n (p + 1) (by omega) (by
        rcases Nat.lt_or_ge p i with h | h
        · exact h
        · obtain rfl : p = i := by omega
          rw [hlf] at hlp; cases hlp)
      refine ⟨r, Ev.step (f := fun k => spec_OrderBar.l2 k S L out S S.length ((p + 1 : Nat) : Int)) (fun k => ?_) ev, hq⟩
      simp only [spec_OrderBar.l2]; rw [if_pos (by omega), if_pos (by omega), if_pos (by omega), if_pos (by omega), rdOf_lf, hlp, if_neg (by simp), hw]
    | true =>
      obtain ⟨t, evt, ht⟩ := free_ex S L h40 hL p (by omega)
      have st : ∀ k, spec_OrderBar.l2 (k + 1) S L out S S.length (p : Int) = (spec_l1Free.f k S L p).bind fun t => if t = true then spec_OrderBar.l1 k S (L.set p false) (out ++ [S.getD p 0]) else spec_OrderBar.l2 k S L out S S.length ((p + 1 : Nat) : Int) := by
        intro k
        simp only [spec_OrderBar.l2]; rw [if_pos (by omega), if_pos (by omega), if_pos (by omega), if_pos (by omega), rdOf_lf, hlp, if_pos rfl, hw, if_pos (by omega), Int.toNat_natCast, rd_nat]
      cases t with
      | true =>
        obtain ⟨r, ev, hq⟩ := next p (by omega) hlp
        exact ⟨r, Ev.step st (Ev.bind evt (by simpa using ev)), hq⟩
      | false =>
        obtain ⟨r, ev, hq⟩ := order_l2 hS L hL out ho next i hi hlf hf n (p + 1) (by omega) (by
          rcases Nat.lt_or_ge p i with h | h
          · exact h
          · obtain rfl : p = i := by omega
            exact absurd (ht rfl) hf)
        exact ⟨r, Ev.step st (Ev.bind evt (by simpa using ev)), hq⟩
theorem order_l1 {S : List Int} (hS : SetsOk S) : ∀ (n : Nat) (L : List Bool) (out : List Int), L.length = S.length → cnt L = n → out.length + n = S.length → ∃ r, Ev (fun k => spec_OrderBar.l1 k S L out) r ∧ r.1.length = S.length
  | 0, L, out, hL, hc, ho => ⟨(out, true), Ev.step (f := fun _ => some (out, true)) (fun k => by simp only [spec_OrderBar.l1]; rw [if_neg (by omega)]) (Ev.now _), by simpa using ho⟩
  | n + 1, L, out, hL, hc, ho => by
    obtain ⟨j, h1, h2⟩ := cnt_pos L (by omega)
    obtain ⟨v, hv⟩ := Int.eq_ofNat_of_zero_le (hS.1 j (by omega)).1
    obtain ⟨i, hi, hlf, hf⟩ := some_free hS L hL v j (by omega) h2 hv
    obtain ⟨r, ev, hq⟩ := order_l2 hS L hL out (by omega) (Q := fun r => r.1.length = S.length) (fun j hj hl => order_l1 hS n (L.set j false) (out ++ [S.getD j 0]) (by simpa using hL) (by have := cnt_set L j hl; omega) (by simp; omega)) i hi hlf hf S.length 0 (by omega) (by omega)
    refine ⟨r, Ev.step (f := fun k => spec_OrderBar.l2 k S L out S S.length ((0 : Nat) : Int)) (fun k => ?_) ev, hq⟩
    simp only [spec_OrderBar.l1]; rw [if_pos (by omega)]; rfl
theorem order_l0 {S : List Int} (hS : SetsOk S) : ∀ (n p : Nat) (L : List Bool), p + n = S.length → L.length = S.length → (∀ j, j < p → lf L j = true) → ∃ r, Ev (fun k => spec_OrderBar.l0 k S L S.length p) r ∧ r.1.length = S.length
  | 0, p, L, hn, hL, hp => by
    have e : L = List.replicate S.length true := by
      refine List.ext_getElem (by simp [hL]) (fun j h1 h2 => ?_)
      have := hp j (by omega)
      unfold lf at this
      rw [List.getD_eq_getElem?_getD, List.getElem?_eq_getElem h1] at this
      simpa using this
    obtain ⟨r, ev, hq⟩ := order_l1 hS S.length L [] hL (by rw [e, cnt_rep]) (by simp)
    refine ⟨r, Ev.step (f := fun k => spec_OrderBar.l1 k S L []) (fun k => ?_) ev, hq⟩
    simp only [spec_OrderBar.l0]; rw [if_neg (by omega)]
  | n + 1, p, L, hn, hL, hp => by
    have h40 := hS.2.2
    obtain ⟨r, ev, hq⟩ := order_l0 hS n (p + 1) (L.set p true) (by omega) (by simpa using hL) (fun j hj => by
      rw [lf_set L p j true (by omega)]
      by_cases h : p = j
      · rw [if_pos h]
      · rw [if_neg h]; exact hp j (by omega))
    refine ⟨r, Ev.step (f := fun k => spec_OrderBar.l0 k S (L.set p true) S.length ((p + 1 : Nat) : Int)) (fun k => ?_) ev, hq⟩
    simp only [spec_OrderBar.l0]; rw [if_pos (by omega), if_pos (by omega), if_pos (by omega), Int.toNat_natCast, wz (by omega) (by omega)]; rfl
theorem order_ex (S : List Int) (hl : S.length ≤ 1048576) : ∃ r, Ev (fun k => spec_OrderBar.f k S) r ∧ r.1.length ≤ 40 := by
  unfold spec_OrderBar.f
  obtain ⟨t, ev, ht⟩ := sets_ex S hl
  cases t with
  | false => exact ⟨([], false), Ev.bind ev (by simpa using Ev.now _), by simp⟩
  | true =>
    have hS := ht rfl
    obtain ⟨r, ev2, hr⟩ := order_l0 hS S.length 0 (List.replicate S.length false) (by omega) (by simp) (fun j hj => by omega)
    refine ⟨r, Ev.bind ev ?_, by have := hS.2.2; omega⟩
    simp only [if_true, if_pos (show (0 : Int) ≤ (S.length : Int) by omega), Int.toNat_natCast, if_pos (show S.length ≤ 281474976710656 by omega), Option.bind_some, List.length_replicate]
    exact ev2
/-! l2Font, l01Pick, l5Words -/
theorem extract_size (s : ByteArray) (i j : Nat) : (s.extract i j).size ≤ j - i := by rw [ByteArray.size_extract]; omega
theorem font_l1 {b : List Int} (C : List Int) (hC : C.length ≤ 40) : ∀ (n p : Nat) (i h : Int) (s : ByteArray) (w : List Int), p + n = C.length → s.size ≤ p → w.length ≤ p → Cur b i →
    ∃ s' w' i' h', Ev (fun k => spec_l2Font.l1 k C.length p b i h s w C) (s', w', C, i', h') ∧ s'.size ≤ 40 ∧ Cur b i'
  | 0, p, i, h, s, w, hn, hs, hw, c => ⟨s, w, i, h, Ev.step (f := fun _ => some (s, w, C, i, h)) (fun k => by simp only [spec_l2Font.l1]; rw [if_neg (by omega)]) (Ev.now _), by omega, c⟩
  | n + 1, p, i, h, s, w, hn, hs, hw, c => by
    obtain ⟨x, i1, h1, e, _, _, _, c1⟩ := below_ex h 20 c
    generalize hL : (⟨#[97, 101, 110, 111, 114, 116, 105, 46, 44, 104, 115, 100, 108, 117, 99, 109, 102, 119, 45, 103, 121, 112, 98, 118, 107, 113, 120, 106, 122, 33, 40, 41, 48, 49, 50, 51, 52, 53, 54, 55]⟩ : ByteArray) = A
    have hx := extract_size A p (p + 1)
    obtain ⟨s', w', i', h', ev, hs', c'⟩ := font_l1 C hC n (p + 1) i1 h1 (s ++ A.extract p (p + 1)) (w ++ [wrap64 (1 + x)]) (by omega) (by rw [ByteArray.size_append]; omega) (by simp; omega) c1
    refine ⟨s', w', i', h', Ev.step (f := fun k => spec_l2Font.l1 k C.length ((p + 1 : Nat) : Int) b i1 h1 (s ++ A.extract p (p + 1)) (w ++ [wrap64 (1 + x)]) C) (fun k => ?_) ev, hs', c'⟩
    simp only [spec_l2Font.l1]
    rw [hL, wz (n := (p : Int) + 1) (by omega) (by omega), show (p : Int) + 1 = ((p + 1 : Nat) : Int) from by omega, Int.toNat_natCast, Int.toNat_natCast]
    rw [if_pos (by omega), if_pos (by omega), if_pos (by omega), if_pos (by omega), if_pos (by omega), e, Option.bind_some, if_pos (by omega)]
theorem font_l0 {b : List Int} : ∀ (n : Nat) (i h : Int) (S : List Int), n ≤ 100 → S.length + n ≤ 200 → Cur b i →
    ∃ s' w' C i' h', Ev (fun k => spec_l2Font.l0 k S n b i h (⟨#[]⟩ : ByteArray)) (s', w', C, i', h') ∧ s'.size ≤ 40 ∧ Cur b i'
  | 0, i, h, S, hn, hS, c => by
    obtain ⟨r, ev, hr⟩ := order_ex S (by omega)
    obtain ⟨s', w', i', h', ev2, hs, c'⟩ := font_l1 (b := b) r.1 hr r.1.length 0 i h (⟨#[]⟩ : ByteArray) [] (by omega) (by decide) (by simp) c
    refine ⟨s', w', r.1, i', h', Ev.step (f := fun k => (spec_OrderBar.f k S).bind fun bt203 => (spec_l2Font.l1 k (bt203.1.length : Int) 0 b i h (⟨#[]⟩ : ByteArray) ([] : List Int) bt203.1)) (fun k => ?_) (Ev.bind ev ev2), hs, c'⟩
    simp only [spec_l2Font.l0]; rw [if_neg (by omega)]
  | n + 1, i, h, S, hn, hS, c => by
    obtain ⟨x, i1, h1, e1, x0, _, _, c1⟩ := below_ex h 5 c
    obtain ⟨y, i2, h2, e2, y0, _, _, c2⟩ := below_ex h1 5 c1
    obtain ⟨z, i3, h3, e3, z0, _, _, c3⟩ := below_ex h2 7 c2
    generalize hv : Go.bits .or .i64 (Go.bits .or .i64 (shl .i64 1 x) (shl .i64 1 y)) (shl .i64 1 z) = v
    obtain ⟨t, evt, _⟩ := sets_ex (S ++ [v]) (by simp; omega)
    have st : ∀ k, spec_l2Font.l0 (k + 1) S ((n + 1 : Nat) : Int) b i h (⟨#[]⟩ : ByteArray) = (spec_l1Sets.f k (S ++ [v])).bind fun t => if t = true then spec_l2Font.l0 k (S ++ [v]) (n : Int) b i3 h3 (⟨#[]⟩ : ByteArray) else spec_l2Font.l0 k S (n : Int) b i3 h3 (⟨#[]⟩ : ByteArray) := by
      intro k
      simp only [spec_l2Font.l0]
      rw [if_pos (by omega), e1, Option.bind_some, if_pos x0, e2, Option.bind_some, if_pos y0, e3, Option.bind_some, if_pos z0, Option.bind_some, if_pos (by simp; omega), Option.bind_some, if_pos (by simp; omega), Option.bind_some, hv, wz (n := ((n + 1 : Nat) : Int) - 1) (by omega) (by omega), show ((n + 1 : Nat) : Int) - 1 = (n : Int) from by omega, List.nil_append]
    cases t with
    | true =>
      obtain ⟨s', w', C, i', h', ev, hs, c'⟩ := font_l0 n i3 h3 (S ++ [v]) (by omega) (by simp; omega) c3
      exact ⟨s', w', C, i', h', Ev.step st (Ev.bind evt (by simpa using ev)), hs, c'⟩
    | false =>
      obtain ⟨s', w', C, i', h', ev, hs, c'⟩ := font_l0 n i3 h3 S (by omega) (by omega) c3
      exact ⟨s', w', C, i', h', Ev.step st (Ev.bind evt (by simpa using ev)), hs, c'⟩
theorem font_ex {b : List Int} {i : Int} (h most : Int) (hm : 0 < most) (hm2 : most ≤ 50) (c : Cur b i) : ∃ s w C i' h', Ev (fun k => spec_l2Font.f k b i h most) (s, w, C, i', h') ∧ s.size ≤ 40 ∧ Cur b i' := by
  unfold spec_l2Font.f
  obtain ⟨x, i1, h1, e1, x0, x1, _, c1⟩ := below_ex h most c
  have x1 := x1 hm
  obtain ⟨q, rfl⟩ := Int.eq_ofNat_of_zero_le x0
  rw [e1]
  simp only [Option.bind_some]
  rw [wz (n := 1 + (q : Int)) (by omega) (by omega)]
  exact font_l0 (1 + q) i1 h1 [] (by omega) (by simp; omega) c1
theorem pick_ex {b : List Int} {i : Int} (h : Int) (l : List ByteArray) (hl : 0 < l.length) (hs : ∀ s ∈ l, s.size ≤ 2) (c : Cur b i) : ∃ x i' h', spec_l01Pick.f b i h l = some (x, i', h') ∧ x.size ≤ 2 ∧ Cur b i' := by
  unfold spec_l01Pick.f
  obtain ⟨x, i', h', e, x0, x1, _, c'⟩ := below_ex h (l.length : Int) c
  have x1 := x1 (by omega)
  rw [e, Option.bind_some, if_pos x0, if_pos x1]
  refine ⟨_, _, _, rfl, ?_, c'⟩
  obtain ⟨q, rfl⟩ := Int.eq_ofNat_of_zero_le x0
  unfold rdOf
  rw [Int.toNat_natCast, List.getD_eq_getElem?_getD, List.getElem?_eq_getElem (show q < l.length by omega)]
  exact hs _ (List.getElem_mem _)
theorem words5_l0 {b : List Int} (L : ByteArray) (w C : List Int) (hL : L.size ≤ 40) : ∀ (n : Nat) (i h : Int) (s : ByteArray), n ≤ 20 → s.size + n ≤ 20 → Cur b i →
    ∃ s' i' h', Ev (fun k => spec_l5Words.l0 k s n b i h L w C) (s', i', h') ∧ s'.size ≤ 22 ∧ Cur b i'
  | 0, i, h, s, hn, hs, c => by
    obtain ⟨o, i1, h1, e1, c1⟩ := once_ex h 10 c
    cases o with
    | true =>
      obtain ⟨x, i2, h2, e2, hx, c2⟩ := pick_ex h1 ([(⟨#[63]⟩ : ByteArray), (⟨#[255]⟩ : ByteArray), (⟨#[97, 97]⟩ : ByteArray), (⟨#[32, 32]⟩ : ByteArray), (⟨#[81]⟩ : ByteArray)] : List ByteArray) (by simp) (by intro s hs; simp at hs; rcases hs with rfl | rfl | rfl | rfl | rfl <;> decide) c1
      refine ⟨s ++ x, i2, h2, Ev.step (f := fun _ => some (s ++ x, i2, h2)) (fun k => ?_) (Ev.now _), by rw [ByteArray.size_append]; omega, c2⟩
      simp only [spec_l5Words.l0]
      rw [if_neg (by omega), e1, Option.bind_some, if_pos rfl, e2, Option.bind_some]
      exact if_pos (by show s.size + x.size ≤ _; omega)
    | false =>
      refine ⟨s, i1, h1, Ev.step (f := fun _ => some (s, i1, h1)) (fun k => ?_) (Ev.now _), by omega, c1⟩
      simp only [spec_l5Words.l0]
      rw [if_neg (by omega), e1, Option.bind_some, if_neg (by simp)]
  | n + 1, i, h, s, hn, hs, c => by
    obtain ⟨o, i1, h1, e1, c1⟩ := once_ex h 4 c
    have hw : wrap64 (((n + 1 : Nat) : Int) - 1) = (n : Int) := by rw [wz (by omega) (by omega)]; omega
    have blank : ∀ (i1 h1 : Int), Cur b i1 → ∃ s' i' h', Ev (fun k => spec_l5Words.l0 k (s ++ (⟨#[32]⟩ : ByteArray)) n b i1 h1 L w C) (s', i', h') ∧ s'.size ≤ 22 ∧ Cur b i' := fun i1 h1 c1 =>
      words5_l0 L w C hL n i1 h1 (s ++ (⟨#[32]⟩ : ByteArray)) (by omega) (by rw [ByteArray.size_append, show (⟨#[32]⟩ : ByteArray).size = 1 from rfl]; omega) c1
    cases o with
    | true =>
      obtain ⟨s', i', h', ev, hs', c'⟩ := blank i1 h1 c1
      refine ⟨s', i', h', Ev.step (f := fun k => spec_l5Words.l0 k (s ++ (⟨#[32]⟩ : ByteArray)) n b i1 h1 L w C) (fun k => ?_) ev, hs', c'⟩
      simp only [spec_l5Words.l0]
      rw [if_pos (by omega), e1, Option.bind_some, if_pos rfl, if_pos (by omega), hw]
    | false =>
      by_cases h0 : (L.size : Int) = 0
      · obtain ⟨s', i', h', ev, hs', c'⟩ := blank i1 h1 c1
        refine ⟨s', i', h', Ev.step (f := fun k => spec_l5Words.l0 k (s ++ (⟨#[32]⟩ : ByteArray)) n b i1 h1 L w C) (fun k => ?_) ev, hs', c'⟩
        simp only [spec_l5Words.l0]
        rw [if_pos (by omega), e1, Option.bind_some, if_neg (by simp), if_pos h0, if_pos (by omega), hw]
      · obtain ⟨x, i2, h2, e2, x0, x1, _, c2⟩ := below_ex h1 (L.size : Int) c1
        have x1 := x1 (by omega)
        obtain ⟨q, rfl⟩ := Int.eq_ofNat_of_zero_le x0
        have hx := extract_size L q (q + 1)
        obtain ⟨s', i', h', ev, hs', c'⟩ := words5_l0 L w C hL n i2 h2 (s ++ L.extract q (q + 1)) (by omega) (by rw [ByteArray.size_append]; omega) c2
        refine ⟨s', i', h', Ev.step (f := fun k => spec_l5Words.l0 k (s ++ L.extract q (q + 1)) n b i2 h2 L w C) (fun k => ?_) ev, hs', c'⟩
        simp only [spec_l5Words.l0]
        rw [if_pos (by omega), e1, Option.bind_some, if_neg (by simp), if_neg h0, e2, Option.bind_some, wz (n := (q : Int) + 1) (by omega) (by omega), show (q : Int) + 1 = ((q + 1 : Nat) : Int) from by omega, Int.toNat_natCast, Int.toNat_natCast, if_pos (by omega), if_pos (by omega), if_pos (by omega), if_pos (by omega), hw]
theorem words5_ex {b : List Int} {i : Int} (h : Int) (L : ByteArray) (w C : List Int) (hL : L.size ≤ 40) (c : Cur b i) : ∃ s i' h', Ev (fun k => spec_l5Words.f k b i h L w C) (s, i', h') ∧ s.size ≤ 22 ∧ Cur b i' := by
  unfold spec_l5Words.f
  obtain ⟨x, i1, h1, e1, x0, x1, _, c1⟩ := below_ex h 14 c
  have x1 := x1 (by omega)
  obtain ⟨q, rfl⟩ := Int.eq_ofNat_of_zero_le x0
  rw [e1]
  simp only [Option.bind_some]
  exact words5_l0 L w C hL q i1 h1 (⟨#[]⟩ : ByteArray) (by omega) (by rw [show (⟨#[]⟩ : ByteArray).size = 0 from rfl]; omega) c1
end Go.Proofs.Ytlhipchbjgfodaa.Pure
