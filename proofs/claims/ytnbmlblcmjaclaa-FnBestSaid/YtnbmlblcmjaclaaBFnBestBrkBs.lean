/- Plain laws on the best breaking, program and reference. Conditions: bounds on lengths alone. -/
import Derived.Test.YtnbmlblcmjaclaaPFnBest2
import Derived.Test.YtnbmlblcmjaclaaPFnBest4
import Derived.Test.YtnbmlblcmjaclaaPFnBest7
import Derived.Test.YtnbmlblcmjaclaaBFnBestBase
import Derived.Test.YtnbmlblcmjaclaaBFnBestKinds
import Derived.Test.YtnbmlblcmjaclaaBFnBestBrk
import Derived.Test.YtnbmlblcmjaclaaBFnBestBrkI
import Derived.Test.YtnbmlblcmjaclaaBFnBestBrkAt
import Derived.Test.YtnbmlblcmjaclaaBFnBestBrkIx
import Derived.Test.YtnbmlblcmjaclaaBFnBestBrkIxI
import Derived.Test.YtnbmlblcmjaclaaBFnBestBrkMem
import Derived.Test.YtnbmlblcmjaclaaBFnBestBrkCost
import Derived.Test.YtnbmlblcmjaclaaBFnBestBrkBest
namespace Go.Proofs.Ytnbmlblcmjaclaa.Pure
open Go.RowKit Go.Proofs.Ytnbmlblcmjaclaa.PFnBest Go.Proofs.YtnbmlblcmjaclaaW.PrintWords Go.Proofs.YtnbmlblcmjaclaaW.PrintLast Go.Proofs.YtnbmlblcmjaclaaW.PrintMore
set_option linter.unusedSectionVars false
set_option linter.unusedVariables false
set_option linter.unusedSimpArgs false
def cO : Option CL → Int | none => 0 | some b => b.1
def iO : Option CL → Int | none => -1 | some b => b.1
def fO : Option CL → Int | none => 0 | some b => ((b.2.headD 0 : Nat) : Int)
theorem drop_ne {ws : List Int} {d : Nat} (hd : d < ws.length) : ws.drop d ≠ [] := by intro e; have := congrArg List.length e; simp at this; omega
section
variable (W Th Tk : Int)
theorem fO_pos {s : List Int} {n : Nat} {b : CL} (hn : n ≤ s.length) (h : bsp W Th Tk s n = some b) : fO (some b) ≠ 0 := by
  obtain ⟨q, l, c, rfl, _, _, _⟩ := bsp_form W Th Tk s n b hn h
  simp only [fO, List.headD_cons]; omega
theorem upd_spec {α : Type} {R : α} {L : Nat → List Int → List Int → Option α} (c f : List Int) (d n : Nat) (ob : Option CL) (nb : CL) (hc : d < c.length) (hf : d < f.length)
    (hcd : c.getD d 0 = cO ob) (hfd : f.getD d 0 = fO ob) (hob : ∀ b, ob = some b → fO (some b) ≠ 0) (hn : fO (some nb) = n)
    (next : ∀ c' f' : List Int, c'.length = c.length → f'.length = f.length → (∀ j, j ≠ d → c'.getD j 0 = c.getD j 0 ∧ f'.getD j 0 = f.getD j 0) → c'.getD d 0 = cO (cmb ob nb) → f'.getD d 0 = fO (cmb ob nb) → Ev (fun k => L k c' f') R) :
    Ev (fun k => if rd f d = 0 then L k (c.set d nb.1) (f.set d n) else if nb.1 < rd c d then L k (c.set d nb.1) (f.set d n) else L k c f) R := by
  have new : cmb ob nb = some nb → Ev (fun k => L k (c.set d nb.1) (f.set d n)) R := by
    intro e
    refine next _ _ (by simp) (by simp) (fun j hj => ⟨by rw [getD_set, if_neg (by omega)], by rw [getD_set, if_neg (by omega)]⟩) ?_ ?_
    · rw [e, getD_set, if_pos ⟨rfl, hc⟩]; rfl
    · rw [e, getD_set, if_pos ⟨rfl, hf⟩, hn]
  have e1 : rd c (d : Int) = cO ob := by rw [rd_nat, hcd]
  have e2 : rd f (d : Int) = fO ob := by rw [rd_nat, hfd]
  cases ob with
  | none => simp only [if_pos (show rd f (d : Int) = 0 from e2)]; exact new rfl
  | some b =>
    simp only [if_neg (show ¬ rd f (d : Int) = 0 from by rw [e2]; exact hob b rfl)]
    by_cases hlt : nb.1 < b.1
    · simp only [if_pos (show nb.1 < rd c (d : Int) from by rw [e1]; exact hlt)]; exact new (by simp only [cmb, if_pos hlt])
    · simp only [if_neg (show ¬ nb.1 < rd c (d : Int) from by rw [e1]; exact hlt)]
      exact next c f rfl rfl (fun _ _ => ⟨rfl, rfl⟩) (by rw [hcd]; simp only [cmb, if_neg hlt]) (by rw [hfd]; simp only [cmb, if_neg hlt])
theorem upd_impl {α : Type} {R : α} {L : Nat → List Int → List Int → Option α} (c f : List Int) (d n : Nat) (ob : Option CL) (nb : CL) (hc : d < c.length) (hf : d < f.length)
    (hcd : c.getD d 0 = iO ob) (hfd : f.getD d 0 = fO ob) (hob : ∀ b, ob = some b → 0 ≤ b.1) (hn : fO (some nb) = n)
    (next : ∀ c' f' : List Int, c'.length = c.length → f'.length = f.length → (∀ j, j ≠ d → c'.getD j 0 = c.getD j 0 ∧ f'.getD j 0 = f.getD j 0) → c'.getD d 0 = iO (cmb ob nb) → f'.getD d 0 = fO (cmb ob nb) → Ev (fun k => L k c' f') R) :
    Ev (fun k => if rd c d < 0 then L k (c.set d nb.1) (f.set d n) else if nb.1 < rd c d then L k (c.set d nb.1) (f.set d n) else L k c f) R := by
  have new : cmb ob nb = some nb → Ev (fun k => L k (c.set d nb.1) (f.set d n)) R := by
    intro e
    refine next _ _ (by simp) (by simp) (fun j hj => ⟨by rw [getD_set, if_neg (by omega)], by rw [getD_set, if_neg (by omega)]⟩) ?_ ?_
    · rw [e, getD_set, if_pos ⟨rfl, hc⟩]; rfl
    · rw [e, getD_set, if_pos ⟨rfl, hf⟩, hn]
  have e1 : rd c (d : Int) = iO ob := by rw [rd_nat, hcd]
  cases ob with
  | none => simp only [if_pos (show rd c (d : Int) < 0 from by rw [e1]; simp only [iO]; omega)]; exact new rfl
  | some b =>
    simp only [if_neg (show ¬ rd c (d : Int) < 0 from by rw [e1]; have := hob b rfl; simp only [iO]; omega)]
    by_cases hlt : nb.1 < b.1
    · simp only [if_pos (show nb.1 < rd c (d : Int) from by rw [e1]; exact hlt)]; exact new (by simp only [cmb, if_pos hlt])
    · simp only [if_neg (show ¬ nb.1 < rd c (d : Int) from by rw [e1]; exact hlt)]
      exact next c f rfl rfl (fun _ _ => ⟨rfl, rfl⟩) (by rw [hcd]; simp only [cmb, if_neg hlt]) (by rw [hfd]; simp only [cmb, if_neg hlt])
/-- The best breaking, its cost, and whether there is one. -/
def bsR (o : Option CL) : List Int × Int × Bool := match o with
  | some b => (ints b.2, b.1, true)
  | none => ([], 0, false)
def bsN (ws : List Int) : List Int × Int × Bool := if bothB W Th Tk ws = true then bsR (bst W Th Tk ws) else ([], 0, false)
theorem bst_isB {s : List Int} {b : CL} (h : bst W Th Tk s = some b) : b.2 ∈ brk W Th Tk s ∧ costN W Th Tk s (ints b.2) = b.1 := by
  obtain ⟨i, h1, h2, _⟩ := fm_least _ _ _ h
  exact ⟨List.mem_of_getElem? h1, h2⟩
theorem bsN_len (ws : List Int) : (bsN W Th Tk ws).1.length ≤ ws.length := by
  unfold bsN
  split
  · cases h : bst W Th Tk ws with
    | none => simp [bsR]
    | some b => exact isB_len _ _ (brk_isB ws.length ws b.2 (Nat.le_refl _) (bst_isB W Th Tk h).1)
  · simp
end
section
variable {W Th Tk : Int} {ws : List Int} (m : MOk W Th Tk) (h : Sk ws)
include m h
theorem bst_ge (j : Nat) (hj : j ≤ ws.length) {b : CL} (hb : bst W Th Tk (ws.drop j) = some b) : 0 ≤ b.1 ∧ b.1 ≤ 392040 := by
  have hlen := h.len
  have := bst_bd m (ws.drop j).length (ws.drop j) b (Nat.le_refl _) (by
    by_cases he : j < ws.length
    · exact .inr (sk_drop m h he)
    · exact .inl (List.drop_of_length_le (by omega))) hb
  rw [List.length_drop] at this
  omega
theorem bsp_rng {d n : Nat} (hd : d < ws.length) (hn : d + n ≤ ws.length) {b : CL} (hb : bsp W Th Tk (ws.drop d) n = some b) : 0 ≤ b.1 ∧ b.1 ≤ 392040 :=
  bsp_bd m (sk_drop m h hd) (by simp; omega) hb
theorem implBs_l2 (c f : List Int) (hc : c.length = ws.length + 1) (hf : f.length = ws.length + 1) (h2 : ∀ j, j ≤ ws.length → f.getD j 0 = fO (bst W Th Tk (ws.drop j))) : ∀ (e a : Nat) (out : List Int) (b : CL), ws.length - a ≤ e → a ≤ ws.length → out.length ≤ a → bst W Th Tk (ws.drop a) = some b →
    Ev (fun k => impl_BestBreaking.l2 k ws c f out a) (out ++ ints b.2, c.getD 0 0, true) := by
  have hlen := h.len
  intro e
  induction e with
  | zero =>
    intro a out b he ha ho hb
    rw [List.drop_of_length_le (by omega), bst_nil] at hb
    obtain rfl := Option.some.inj hb
    refine Ev.step (f := fun _ => some (out, c.getD 0 0, true)) (fun k => ?_) (by simpa [ints] using Ev.now _)
    simp only [impl_BestBreaking.l2]; rw [if_neg (by omega), if_pos (by omega)]; rfl
  | succ e ih =>
    intro a out b he ha ho hb
    by_cases hlt : a < ws.length
    · have hf0 := h2 a ha
      rw [hb] at hf0
      rw [bst_bsp W Th Tk (drop_ne hlt)] at hb
      obtain ⟨q, l, c', rfl, hq, hg, hs⟩ := bsp_form W Th Tk _ _ b (Nat.le_refl _) hb
      rw [List.length_drop] at hq
      simp only [fO, List.headD_cons] at hf0
      have := ih (a + (q + 1)) (out ++ [((q + 1 : Nat) : Int)]) (c', l) (by omega) (by omega) (by simp; omega) (by rw [← List.drop_drop]; exact hs)
      refine Ev.step (f := fun k => impl_BestBreaking.l2 k ws c f (out ++ [((q + 1 : Nat) : Int)]) ((a + (q + 1) : Nat) : Int)) (fun k => ?_) (by simpa [ints] using this)
      simp only [impl_BestBreaking.l2]
      rw [if_pos (by omega), if_pos (by omega), if_pos (by omega), if_pos (by omega), rd_nat, hf0, wz (by omega) (by omega)]
      rfl
    · exact ih a out b (by omega) ha ho hb
theorem implBs_l1 {R : List Int × Int × Bool} (d : Nat) (hd : d < ws.length)
    (ih : ∀ c f : List Int, c.length = ws.length + 1 → f.length = ws.length + 1 → (∀ j, d ≤ j → j ≤ ws.length → c.getD j 0 = iO (bst W Th Tk (ws.drop j)) ∧ f.getD j 0 = fO (bst W Th Tk (ws.drop j))) → (∀ j, j < d → f.getD j 0 = 0) → Ev (fun k => impl_BestBreaking.l0 k ws c f ((d : Int) - 1) W Th Tk) R) :
    ∀ (r n : Nat) (c f : List Int), n + 1 + r = ws.length - d + 1 → c.length = ws.length + 1 → f.length = ws.length + 1 → (∀ j, d < j → j ≤ ws.length → c.getD j 0 = iO (bst W Th Tk (ws.drop j)) ∧ f.getD j 0 = fO (bst W Th Tk (ws.drop j))) →
      c.getD d 0 = iO (bsp W Th Tk (ws.drop d) n) → f.getD d 0 = fO (bsp W Th Tk (ws.drop d) n) → (∀ j, j < d → f.getD j 0 = 0) →
      Ev (fun k => impl_BestBreaking.l1 k ws c f d ((n + 1 : Nat) : Int) W Th Tk) R := by
  have hlen := h.len
  intro r
  induction r with
  | zero =>
    intro n c f hn hc hf h1 hcd hfd h3
    refine Ev.step (f := fun k => impl_BestBreaking.l0 k ws c f ((d : Int) - 1) W Th Tk) (fun k => ?_) (ih c f hc hf (fun j hj hj2 => ?_) h3)
    · simp only [impl_BestBreaking.l1]; rw [wz (by omega) (by omega), if_neg (by omega), wz (by omega) (by omega)]
    · rcases Nat.lt_or_ge d j with hlt | hge
      · exact h1 j hlt hj2
      · obtain rfl : j = d := by omega
        rw [hcd, hfd, bst_bsp W Th Tk (drop_ne hd), show (ws.drop j).length = n from by simp; omega]; exact ⟨rfl, rfl⟩
  | succ r ihr =>
    intro n c f hn hc hf h1 hcd hfd h3
    have hbs := bsp_succ W Th Tk (ws.drop d) n (by simp; omega)
    rw [List.drop_drop] at hbs
    have hseg := h.seg d (n + 1) (by omega) (by omega)
    have hk := implKind_ev hseg m
    have hgk := goes_kind (W := W) (Th := Th) (Tk := Tk) (s := ws.drop d) (n := n + 1) (by simp; omega)
    rw [List.length_drop] at hgk
    have skip : bsp W Th Tk (ws.drop d) (n + 1) = bsp W Th Tk (ws.drop d) n → ∀ z : Int, Ev (fun k => impl_BestBreaking.j3 k ws c f d ((n + 1 : Nat) : Int) z true W Th Tk) R := by
      intro e z
      refine Ev.step (f := fun k => impl_BestBreaking.l1 k ws c f d ((n + 1 + 1 : Nat) : Int) W Th Tk) (fun k => ?_) (ihr (n + 1) c f (by omega) hc hf h1 (by rw [hcd, e]) (by rw [hfd, e]) h3)
      simp only [impl_BestBreaking.j3]; rw [if_pos trivial, wz (by omega) (by omega)]; rfl
    have upd : ∀ b : CL, goesS W Th Tk (ws.drop d) (n + 1) = true → bst W Th Tk (ws.drop (d + (n + 1))) = some b → Ev (fun k => if rd c d < 0 then impl_BestBreaking.l1 k ws (c.set d (lineC W Th Tk (ws.drop d) (n + 1) + b.1)) (f.set d ((n + 1 : Nat) : Int)) d ((n + 1 + 1 : Nat) : Int) W Th Tk else if lineC W Th Tk (ws.drop d) (n + 1) + b.1 < rd c d then impl_BestBreaking.l1 k ws (c.set d (lineC W Th Tk (ws.drop d) (n + 1) + b.1)) (f.set d ((n + 1 : Nat) : Int)) d ((n + 1 + 1 : Nat) : Int) W Th Tk else impl_BestBreaking.l1 k ws c f d ((n + 1 + 1 : Nat) : Int) W Th Tk) R := by
      intro b hgo hb
      rw [if_pos hgo, hb] at hbs
      exact upd_impl (R := R) (L := fun k c f => impl_BestBreaking.l1 k ws c f d ((n + 1 + 1 : Nat) : Int) W Th Tk) c f d (n + 1) (bsp W Th Tk (ws.drop d) n) (lineC W Th Tk (ws.drop d) (n + 1) + b.1, (n + 1) :: b.2) (by omega) (by omega) hcd hfd (fun b' hb' => (bsp_rng m h hd (by omega) hb').1) rfl
            (fun c' f' hc' hf' hj hc2 hf2 => ihr (n + 1) c' f' (by omega) (by omega) (by omega) (fun j hj1 hj2 => by rw [(hj j (by omega)).1, (hj j (by omega)).2]; exact h1 j hj1 hj2) (by rw [hc2, hbs]) (by rw [hf2, hbs]) (fun j hj1 => by rw [(hj j (by omega)).2]; exact h3 j hj1))
    by_cases hend : d + (n + 1) = ws.length
    · refine Ev.step (f := fun k => (impl_kindOf.f k W Th Tk ((ws.drop d).take (n + 1))).bind fun t => impl_BestBreaking.j2 k ws c f d ((n + 1 : Nat) : Int) t 0 (t == 0) W Th Tk) (fun k => ?_) (Ev.bind hk ?_)
      · simp only [impl_BestBreaking.l1]
        rw [wz (n := (d : Int) + ((n + 1 : Nat) : Int)) (by omega) (by omega)]
        simp only [if_pos (show (0 : Int) ≤ (d : Int) by omega), if_pos (show (d : Int) ≤ (d : Int) + ((n + 1 : Nat) : Int) by omega), if_pos (show (d : Int) + ((n + 1 : Nat) : Int) ≤ (ws.length : Int) by omega), if_pos (show (d : Int) + ((n + 1 : Nat) : Int) = (ws.length : Int) by omega), toNat_add, Int.toNat_natCast, seg_eq]
      · by_cases hk0 : kindN W Th Tk ((ws.drop d).take (n + 1)) = 0
        · rw [hk0]
          refine Ev.step (f := fun k => impl_BestBreaking.j3 k ws c f d ((n + 1 : Nat) : Int) 0 true W Th Tk) (fun k => by simp only [impl_BestBreaking.j2]; rfl) (skip ?_ 0)
          rw [hbs, if_neg (by rw [hgk, if_pos hk0]; simp)]
        · rw [beq_eq_false_iff_ne.2 hk0]
          have hgo : goesS W Th Tk (ws.drop d) (n + 1) = true := by
            rw [hgk, if_neg hk0]; split
            · exact decide_eq_true (by omega)
            · rfl
          have hb : bst W Th Tk (ws.drop (d + (n + 1))) = some (0, []) := by rw [List.drop_of_length_le (by omega), bst_nil]
          have hup := upd _ hgo hb
          rw [show lineC W Th Tk (ws.drop d) (n + 1) = 0 from by unfold lineC; rw [if_pos (by simp; omega)], Int.zero_add] at hup
          refine Ev.step (f := fun k => impl_BestBreaking.j3 k ws c f d ((n + 1 : Nat) : Int) 0 false W Th Tk) (fun k => ?_) (Ev.step (fun k => ?_) hup)
          · simp only [impl_BestBreaking.j2]
            rw [if_neg (by simp), wz (n := (d : Int) + ((n + 1 : Nat) : Int)) (by omega) (by omega), if_neg (show ¬ (d : Int) + ((n + 1 : Nat) : Int) < (ws.length : Int) by omega)]
          · simp only [impl_BestBreaking.j3]
            rw [if_neg (by simp), wz (n := (d : Int) + ((n + 1 : Nat) : Int)) (by omega) (by omega), if_neg (show ¬ (d : Int) + ((n + 1 : Nat) : Int) < (ws.length : Int) by omega), wz (n := ((n + 1 : Nat) : Int) + 1) (by omega) (by omega)]
            simp only [if_pos (show (0 : Int) ≤ (d : Int) by omega), if_pos (show (d : Int) < (c.length : Int) by omega), if_pos (show (d : Int) < (f.length : Int) by omega), Int.toNat_natCast]
            rfl
    · have hkz := kindN_cases W Th Tk ((ws.drop d).take (n + 1))
      refine Ev.step (f := fun k => (impl_kindOf.f k W Th Tk ((ws.drop d).take (n + 1))).bind fun t => impl_BestBreaking.j2 k ws c f d ((n + 1 : Nat) : Int) t 0 false W Th Tk) (fun k => ?_) (Ev.bind hk ?_)
      · simp only [impl_BestBreaking.l1]
        rw [wz (n := (d : Int) + ((n + 1 : Nat) : Int)) (by omega) (by omega)]
        simp only [if_pos (show (0 : Int) ≤ (d : Int) by omega), if_pos (show (d : Int) ≤ (d : Int) + ((n + 1 : Nat) : Int) by omega), if_pos (show (d : Int) + ((n + 1 : Nat) : Int) ≤ (ws.length : Int) by omega), if_neg (show ¬ (d : Int) + ((n + 1 : Nat) : Int) = (ws.length : Int) by omega), toNat_add, Int.toNat_natCast, seg_eq]
      · by_cases hk2 : kindN W Th Tk ((ws.drop d).take (n + 1)) = 2
        · rw [hk2]
          have hgo : goesS W Th Tk (ws.drop d) (n + 1) = true := by rw [hgk, if_neg (by omega), if_neg (by omega)]
          have hcn := (h1 (d + (n + 1)) (by omega) (by omega)).1
          refine Ev.step (f := fun k => impl_BestBreaking.j3 k ws c f d ((n + 1 : Nat) : Int) 0 (decide (iO (bst W Th Tk (ws.drop (d + (n + 1)))) < 0)) W Th Tk) (fun k => ?_) ?_
          · simp only [impl_BestBreaking.j2]
            rw [if_neg (by simp), wz (n := (d : Int) + ((n + 1 : Nat) : Int)) (by omega) (by omega), if_pos (show (d : Int) + ((n + 1 : Nat) : Int) < (ws.length : Int) by omega), if_pos trivial, if_pos (by omega), if_pos (by omega), show (d : Int) + ((n + 1 : Nat) : Int) = ((d + (n + 1) : Nat) : Int) from by omega, rd_nat c (d + (n + 1)), hcn]
          · rw [if_pos hgo] at hbs
            cases hb : bst W Th Tk (ws.drop (d + (n + 1))) with
            | none => exact skip (by rw [hbs, hb]) 0
            | some b =>
              have hbd := bst_ge m h (d + (n + 1)) (by omega) hb
              rw [hb] at hcn
              rw [show decide (iO (some b) < 0) = false from decide_eq_false (by simp only [iO]; omega)]
              have h0r := kindN_rest (kindN_of_goes hgo)
              have hrb := riseN_bd m hseg h0r
              have hsq := sq_bd hrb.1 hrb.2
              have hup := upd b hgo hb
              have hlc : lineC W Th Tk (ws.drop d) (n + 1) = riseN W Th Tk ((ws.drop d).take (n + 1)) * riseN W Th Tk ((ws.drop d).take (n + 1)) := by unfold lineC; rw [if_neg (by simp; omega)]
              rw [hlc] at hup
              refine Ev.step (f := fun k => (impl_riseOf.f k W Th Tk ((ws.drop d).take (n + 1))).bind fun t => if rd c d < 0 then impl_BestBreaking.l1 k ws (c.set d (wrap64 (wrap64 (t * t) + b.1))) (f.set d ((n + 1 : Nat) : Int)) d ((n + 1 + 1 : Nat) : Int) W Th Tk else if wrap64 (wrap64 (t * t) + b.1) < rd c d then impl_BestBreaking.l1 k ws (c.set d (wrap64 (wrap64 (t * t) + b.1))) (f.set d ((n + 1 : Nat) : Int)) d ((n + 1 + 1 : Nat) : Int) W Th Tk else impl_BestBreaking.l1 k ws c f d ((n + 1 + 1 : Nat) : Int) W Th Tk) (fun k => ?_) (Ev.bind (implRise_ev hseg m h0r) ?_)
              · simp only [impl_BestBreaking.j3]
                rw [if_neg (by simp), wz (n := (d : Int) + ((n + 1 : Nat) : Int)) (by omega) (by omega), wz (n := ((n + 1 : Nat) : Int) + 1) (by omega) (by omega)]
                simp only [if_pos (show (d : Int) + ((n + 1 : Nat) : Int) < (ws.length : Int) by omega), if_pos (show (0 : Int) ≤ (d : Int) by omega), if_pos (show (d : Int) ≤ (d : Int) + ((n + 1 : Nat) : Int) by omega), if_pos (show (d : Int) + ((n + 1 : Nat) : Int) ≤ (ws.length : Int) by omega), if_pos (show (0 : Int) ≤ (d : Int) + ((n + 1 : Nat) : Int) by omega), if_pos (show (d : Int) + ((n + 1 : Nat) : Int) < (c.length : Int) by omega), if_pos (show (d : Int) < (f.length : Int) by omega), if_pos (show (d : Int) < (c.length : Int) by omega), toNat_add, Int.toNat_natCast, seg_eq]
                rw [show (d : Int) + ((n + 1 : Nat) : Int) = ((d + (n + 1) : Nat) : Int) from by omega, rd_nat c (d + (n + 1)), hcn]
                rfl
              · rw [wz (n := riseN W Th Tk ((ws.drop d).take (n + 1)) * _) (by omega) (by omega), wz (by omega) (by omega)]
                exact hup
        · refine Ev.step (f := fun k => impl_BestBreaking.j3 k ws c f d ((n + 1 : Nat) : Int) 0 true W Th Tk) (fun k => ?_) (skip ?_ 0)
          · simp only [impl_BestBreaking.j2]
            rw [if_neg (by simp), wz (n := (d : Int) + ((n + 1 : Nat) : Int)) (by omega) (by omega), if_pos (show (d : Int) + ((n + 1 : Nat) : Int) < (ws.length : Int) by omega), if_neg hk2]
          · rw [hbs, if_neg]
            rw [hgk]
            rcases hkz with hz | hz | hz
            · rw [if_pos hz]; simp
            · rw [if_neg (by omega), if_pos hz, decide_eq_true_eq]; omega
            · exact absurd hz hk2
theorem implBs_l0 {R : List Int × Int × Bool} (fin : ∀ c f : List Int, c.length = ws.length + 1 → f.length = ws.length + 1 → (∀ j, j ≤ ws.length → c.getD j 0 = iO (bst W Th Tk (ws.drop j)) ∧ f.getD j 0 = fO (bst W Th Tk (ws.drop j))) → Ev (fun k => if rd c 0 < 0 then some ([], 0, false) else impl_BestBreaking.l2 k ws c f [] 0) R) :
    ∀ (d : Nat) (c f : List Int), d ≤ ws.length → c.length = ws.length + 1 → f.length = ws.length + 1 → (∀ j, d ≤ j → j ≤ ws.length → c.getD j 0 = iO (bst W Th Tk (ws.drop j)) ∧ f.getD j 0 = fO (bst W Th Tk (ws.drop j))) → (∀ j, j < d → f.getD j 0 = 0) →
      Ev (fun k => impl_BestBreaking.l0 k ws c f ((d : Int) - 1) W Th Tk) R := by
  intro d
  induction d with
  | zero =>
    intro c f hd hc hf h1 h3
    exact Ev.step (f := fun k => if rd c 0 < 0 then some ([], 0, false) else impl_BestBreaking.l2 k ws c f [] 0) (fun k => by simp only [impl_BestBreaking.l0]; rw [if_neg (by omega), if_pos (by omega)]) (fin c f hc hf (fun j hj => h1 j (by omega) hj))
  | succ d ihd =>
    intro c f hd hc hf h1 h3
    refine Ev.step (f := fun k => impl_BestBreaking.l1 k ws (c.set d (-1)) f d ((0 + 1 : Nat) : Int) W Th Tk) (fun k => ?_) ?_
    · simp only [impl_BestBreaking.l0]; rw [show ((d + 1 : Nat) : Int) - 1 = (d : Int) from by omega, if_pos (by omega), if_pos (by omega), if_pos (by omega), Int.toNat_natCast]; rfl
    · exact implBs_l1 m h d (by omega) (fun c f hc hf h1 h3 => ihd c f (by omega) hc hf h1 h3) (ws.length - d) 0 _ f (by omega) (by simpa using hc) hf (fun j hj hj2 => by rw [getD_set, if_neg (by omega)]; exact h1 j (by omega) hj2) (by rw [getD_set, if_pos ⟨rfl, by omega⟩]; rfl) (by rw [h3 d (by omega)]; rfl) (fun j hj => h3 j (by omega))
end
theorem implBs_ev (W Th Tk : Int) (ws : List Int) : Ev (fun k => impl_BestBreaking.f k W Th Tk ws) (bsN W Th Tk ws) := by
  unfold impl_BestBreaking.f bsN
  rw [implBoth_eq]
  simp only [Option.bind_some]
  cases hb : bothB W Th Tk ws with
  | false => simp only [Bool.false_eq_true, if_false]; exact Ev.now _
  | true =>
    obtain ⟨m, h⟩ := bothB_iff hb
    have hlen := h.len
    rw [wz (n := (ws.length : Int) + 1) (by omega) (by omega), wz (n := (ws.length : Int) - 1) (by omega) (by omega), show ((ws.length : Int) + 1).toNat = ws.length + 1 from by omega]
    simp only [if_true, if_pos (show (0 : Int) ≤ (ws.length : Int) + 1 by omega), if_pos (show ws.length + 1 ≤ 35184372088832 by omega)]
    refine implBs_l0 m h (fun c f hc hf h1 => ?_) ws.length _ _ (Nat.le_refl _) (by simp) (by simp) (fun j hj hj2 => ?_) (fun j hj => replicate_getD _ _)
    · have e0 : rd c 0 = iO (bst W Th Tk ws) := by have := (h1 0 (by omega)).1; rw [List.drop_zero] at this; exact this
      cases hs : bst W Th Tk ws with
      | none => simp only [if_pos (show rd c 0 < 0 by rw [e0, hs]; simp only [iO]; omega)]; exact Ev.now _
      | some b =>
        have hbd := bst_ge m h 0 (by omega) (by simpa using hs)
        simp only [if_neg (show ¬ rd c 0 < 0 by rw [e0, hs]; simp only [iO]; omega)]
        have := implBs_l2 m h c f hc hf (fun j hj => (h1 j hj).2) ws.length 0 [] b (by omega) (by omega) (by simp) (by simpa using hs)
        rw [(h1 0 (by omega)).1, List.drop_zero, hs, List.nil_append] at this
        exact this
    · obtain rfl : j = ws.length := by omega
      rw [List.drop_length, bst_nil, replicate_getD]; exact ⟨rfl, rfl⟩
end Go.Proofs.Ytnbmlblcmjaclaa.Pure
