/- The pure statement behind the law FnExactFaultsOf: the program's FaultsOf and the reference's compute the same list, and the marks that the law lays are found again. No condition. -/
import Derived.Test.YtlhipchbjgfodaaPFnExactFaultsOfx2
namespace Go.Proofs.Ytlhipchbjgfodaa.Pure
open Go.RowKit Go.Proofs.Ytlhipchbjgfodaa.PFnExactFaultsOf Go.Proofs.YtlhipchbjgfodaaW.PrintWords Go.Proofs.YtlhipchbjgfodaaW.PrintLast

theorem w1 {i : Int} (h0 : -9223372036854775808 ≤ i + 1) (h : i + 1 ≤ 9223372036854775807) : wrap64 (i + 1) = i + 1 := by unfold wrap64; omega

/-- The indices from i on, n of them, at which two strings differ. -/
def flts (a b : ByteArray) : Nat → Int → List Int
  | 0, _ => []
  | n + 1, i => if bt a i = bt b i then flts a b n (i + 1) else i :: flts a b n (i + 1)
theorem flts_len (a b : ByteArray) : ∀ n i, (flts a b n i).length ≤ n
  | 0, _ => by simp [flts]
  | n + 1, i => by
    have := flts_len a b n (i + 1)
    unfold flts; split <;> simp <;> omega

theorem spec_l0 (a b : ByteArray) (hab : a.size = b.size) (ha : a.size ≤ 1048576) : ∀ (n : Nat) (i : Int) (acc : List Int), 0 ≤ i → i + n = a.size → (acc.length : Int) ≤ i →
    Ev (fun k => spec_FaultsOf.l0 k a b acc i) (acc ++ flts a b n i, true)
  | 0, i, acc, h0, hn, _ => Ev.step (f := fun _ => some (acc, true)) (fun k => by simp only [spec_FaultsOf.l0]; rw [if_neg (by omega)]) (by simpa [flts] using Ev.now _)
  | n + 1, i, acc, h0, hn, hl => by
    refine Ev.step (f := fun k => if bt a i = bt b i then spec_FaultsOf.l0 k a b acc (i + 1) else spec_FaultsOf.l0 k a b (acc ++ [i]) (i + 1)) (fun k => ?_) ?_
    · simp only [spec_FaultsOf.l0]; rw [if_pos (by omega), if_pos h0, if_pos (by omega), if_pos (show acc.length < 17592186044416 by omega), w1 (by omega) (by omega)]
    · unfold flts
      split
      · exact spec_l0 a b hab ha n (i + 1) acc (by omega) (by omega) (by omega)
      · have := spec_l0 a b hab ha n (i + 1) (acc ++ [i]) (by omega) (by omega) (by simp; omega)
        simpa using this

theorem impl_l0 (a b : ByteArray) (hab : a.size = b.size) (ha : a.size ≤ 1048576) : ∀ (n : Nat) (i : Int) (acc : List Int), 0 ≤ i → i + n = a.size → (acc.length : Int) ≤ i →
    Ev (fun k => impl_FaultsOf.l0 k a b acc a.size i) (acc ++ flts a b n i, true)
  | 0, i, acc, h0, hn, _ => Ev.step (f := fun _ => some (acc, true)) (fun k => by simp only [impl_FaultsOf.l0]; rw [if_neg (by omega)]) (by simpa [flts] using Ev.now _)
  | n + 1, i, acc, h0, hn, hl => by
    refine Ev.step (f := fun k => if bt a i = bt b i then impl_FaultsOf.l0 k a b acc a.size (i + 1) else impl_FaultsOf.l0 k a b (acc ++ [i]) a.size (i + 1)) (fun k => ?_) ?_
    · simp only [impl_FaultsOf.l0]; rw [if_pos (by omega), if_pos h0, if_pos (by omega), if_pos (by omega), if_pos (show acc.length < 17592186044416 by omega), w1 (by omega) (by omega)]
    · unfold flts
      split
      · exact impl_l0 a b hab ha n (i + 1) acc (by omega) (by omega) (by omega)
      · have := impl_l0 a b hab ha n (i + 1) (acc ++ [i]) (by omega) (by omega) (by simp; omega)
        simpa using this

def faults (a b : ByteArray) : List Int × Bool := if a.size = b.size then (flts a b a.size 0, true) else ([], false)
theorem faults_len (a b : ByteArray) : (faults a b).1.length ≤ a.size := by
  unfold faults; split
  · exact flts_len a b _ _
  · simp
theorem spec_ev (a b : ByteArray) (ha : a.size ≤ 1048576) : Ev (fun k => spec_FaultsOf.f k a b) (faults a b) := by
  unfold spec_FaultsOf.f faults
  by_cases h : a.size = b.size
  · simp only [if_pos h, if_pos (show (a.size : Int) = b.size by omega)]
    simpa using spec_l0 a b h ha a.size 0 [] (by omega) (by omega) (by simp)
  · simp only [if_neg h, if_neg (show ¬ (a.size : Int) = b.size by omega)]; exact Ev.now _
theorem impl_ev (a b : ByteArray) (ha : a.size ≤ 1048576) : Ev (fun k => impl_FaultsOf.f k a b) (faults a b) := by
  unfold impl_FaultsOf.f faults
  by_cases h : a.size = b.size
  · simp only [if_pos h, if_pos (show (a.size : Int) = b.size by omega)]
    simpa using impl_l0 a b h ha a.size 0 [] (by omega) (by omega) (by simp)
  · simp only [if_neg h, if_neg (show ¬ (a.size : Int) = b.size by omega)]; exact Ev.now _

theorem eqIntS_l0 (l : List Int) (hl : l.length ≤ 1048576) : ∀ (n : Nat) (i : Int), 0 ≤ i → i + n = l.length → Ev (fun k => laws_eqIntS.l0 k l l i) true
  | 0, i, h0, hn => Ev.step (f := fun _ => some true) (fun k => by simp only [laws_eqIntS.l0]; rw [if_neg (by omega)]) (Ev.now _)
  | n + 1, i, h0, hn => Ev.step (f := fun k => laws_eqIntS.l0 k l l (i + 1)) (fun k => by
      simp only [laws_eqIntS.l0]; rw [if_pos (by omega), if_pos h0, if_pos (by omega)]; simp only [if_true]; rw [w1 (by omega) (by omega)]) (eqIntS_l0 l hl n (i + 1) (by omega) (by omega))
theorem eqIntS_ev (l : List Int) (hl : l.length ≤ 1048576) : Ev (fun k => laws_eqIntS.f k l l) true := by
  unfold laws_eqIntS.f; simp only [if_true]; exact eqIntS_l0 l hl l.length 0 (by omega) (by omega)

/-- The list that the marking leaves: from place i on, n places, the numbers from c on. -/
def marked : Nat → Int → Int → List Int → List Int
  | 0, _, _, l => l
  | n + 1, i, c, l => marked n (i + 1) (c + 1) (l.set i.toNat c)
theorem marked_length : ∀ n i c (l : List Int), (marked n i c l).length = l.length
  | 0, _, _, _ => rfl
  | n + 1, i, c, l => by rw [marked, marked_length]; simp
theorem markIntS_l0 : ∀ (n : Nat) (i c : Int) (l : List Int), l.length ≤ 1048576 → 0 ≤ i → i + n = l.length → c = i + 1 →
    Ev (fun k => laws_markIntS.l0 k l c i) (c + n, marked n i c l)
  | 0, i, c, l, _, h0, hn, _ => Ev.step (f := fun _ => some (c, l)) (fun k => by simp only [laws_markIntS.l0]; rw [if_neg (by omega)]) (by simpa [marked] using Ev.now _)
  | n + 1, i, c, l, hl, h0, hn, hc => by
    refine Ev.step (f := fun k => laws_markIntS.l0 k (l.set i.toNat c) (c + 1) (i + 1)) (fun k => ?_) ?_
    · simp only [laws_markIntS.l0]; rw [if_pos (by omega), if_pos h0, w1 (i := i) (by omega) (by omega), w1 (i := c) (by omega) (by omega)]
    · have := markIntS_l0 n (i + 1) (c + 1) (l.set i.toNat c) (by simpa using hl) (by omega) (by simp; omega) (by omega)
      simp only [marked]
      rwa [show c + 1 + (n : Int) = c + ((n + 1 : Nat) : Int) by omega] at this
theorem marked_get : ∀ (n : Nat) (i c : Int) (l : List Int) (j : Nat), 0 ≤ i → i + n ≤ l.length → (marked n i c l)[j]? = if i ≤ j ∧ (j : Int) < i + n then some (c + j - i) else l[j]?
  | 0, i, c, l, j, h0, hn => by rw [if_neg (by omega)]; rfl
  | n + 1, i, c, l, j, h0, hn => by
    rw [marked, marked_get n (i + 1) (c + 1) (l.set i.toNat c) j (by omega) (by simp; omega), List.getElem?_set]
    by_cases h1 : i + 1 ≤ j ∧ (j : Int) < i + 1 + n
    · rw [if_pos h1, if_pos (by omega)]; congr 1; omega
    · rw [if_neg h1]
      by_cases h2 : i.toNat = j
      · rw [if_pos h2, if_pos (by omega), if_pos (by omega)]; congr 1; omega
      · rw [if_neg h2, if_neg (by omega)]
theorem heldIntS_l0 (l : List Int) (hl : l.length ≤ 1048576) (hg : ∀ j : Nat, j < l.length → l[j]? = some ((j : Int) + 1)) : ∀ (n : Nat) (i c : Int), 0 ≤ i → i + n = l.length → c = i + 1 →
    Ev (fun k => laws_heldIntS.l0 k l c i) (c + n)
  | 0, i, c, h0, hn, _ => Ev.step (f := fun _ => some c) (fun k => by simp only [laws_heldIntS.l0]; rw [if_neg (by omega)]) (by simpa using Ev.now _)
  | n + 1, i, c, h0, hn, hc => by
    refine Ev.step (f := fun k => laws_heldIntS.l0 k l (c + 1) (i + 1)) (fun k => ?_) ?_
    · have hr : rd l i = c := by
        unfold rd; rw [List.getD_eq_getElem?_getD, hg i.toNat (by omega)]; simp; omega
      simp only [laws_heldIntS.l0]; rw [if_pos (by omega), if_pos h0, if_pos hr, w1 (i := i) (by omega) (by omega), w1 (i := c) (by omega) (by omega)]
    · have := heldIntS_l0 l hl hg n (i + 1) (c + 1) (by omega) (by omega) (by omega)
      rwa [show c + 1 + (n : Int) = c + ((n + 1 : Nat) : Int) by omega] at this
theorem markIntS_ev (l : List Int) (hl : l.length ≤ 1048576) : Ev (fun k => laws_markIntS.f k l 1) (1 + l.length, marked l.length 0 1 l) := by
  unfold laws_markIntS.f; exact markIntS_l0 l.length 0 1 l hl (by omega) (by omega) (by omega)
theorem heldIntS_ev (l : List Int) (hl : l.length ≤ 1048576) : Ev (fun k => laws_heldIntS.f k (marked l.length 0 1 l) 1) (1 + l.length) := by
  unfold laws_heldIntS.f
  have hm : (marked l.length 0 1 l).length = l.length := marked_length _ _ _ _
  have := heldIntS_l0 (marked l.length 0 1 l) (by omega) (fun j hj => by rw [marked_get _ _ _ _ _ (by omega) (by omega), if_pos (by omega)]; congr 1; omega) l.length 0 1 (by omega) (by omega) (by omega)
  exact this

theorem FnExactFaultsOf : laws_FnExactFaultsOf.Pure := by
  intro a b _ _
  refine Ev.rounds (g := fun k => laws_FnExactFaultsOf.f k a b) ?_
  unfold laws_FnExactFaultsOf.f
  by_cases ha : (a.size : Int) > 1048576
  · simp only [if_pos ha]; exact Ev.now _
  by_cases hb : (b.size : Int) > 1048576
  · simp only [if_neg ha, if_pos hb]; exact Ev.now _
  simp only [if_neg ha, if_neg hb]
  have ha' : a.size ≤ 1048576 := by omega
  have hf : (faults a b).1.length ≤ 1048576 := Nat.le_trans (faults_len a b) ha'
  refine Ev.bind (spec_ev a b ha') (Ev.bind (impl_ev a b ha') (Ev.bind (eqIntS_ev _ hf) ?_))
  simp only [if_true, bne_self_eq_false]
  refine Ev.step (f := fun k => _) (fun k => by simp only [laws_FnExactFaultsOf.j0]; rfl) ?_
  simp only [Bool.false_eq_true, if_false]
  refine Ev.bind (markIntS_ev _ hf) (Ev.bind (heldIntS_ev _ hf) ?_)
  simp only [if_true]
  simp only [if_neg (show ¬ (1 + ((faults a b).1.length : Int) < 0) by omega)]
  refine Ev.bind (impl_ev a b ha') (Ev.bind (eqIntS_ev _ hf) ?_)
  simp only [if_true, bne_self_eq_false]
  refine Ev.step (f := fun k => _) (fun k => by simp only [laws_FnExactFaultsOf.j1]; rfl) ?_
  simp only [Bool.false_eq_true, if_false]
  refine Ev.bind (heldIntS_ev _ hf) ?_
  simp only [if_true]
  simp only [if_neg (show ¬ (1 + ((faults a b).1.length : Int) < 0) by omega)]
  exact Ev.now _

end Go.Proofs.Ytlhipchbjgfodaa.Pure
