/- Part 7 of the tree calculus: symbolic execution of the model's code over typed lists, proved sound. No condition. -/
import Derived.Test.YtkinnkjgdephhaaK6
import Derived.ChangeArms
import Derived.ChangeShapes
import Derived.WideShapes
import Derived.OpenShut
import Derived.ShutString
import Derived.ChangeOld
import Derived.Below
import Derived.Carry
namespace Go.Tree
set_option linter.unusedVariables false
set_option linter.unusedSimpArgs false
set_option linter.constructorNameAsVariable false
set_option maxHeartbeats 200000

/- loops -/
def loopN {X Z : Type} (step : X → Option (X ⊕ Z)) : Nat → X → Option Z
  | 0, _ => none
  | n + 1, x => match step x with
    | some (.inl y) => loopN step n y
    | some (.inr z) => some z
    | none => none
theorem loopN_mono {X Z : Type} {step : X → Option (X ⊕ Z)} : ∀ {n m : Nat} {x : X} {z : Z}, n ≤ m → loopN step n x = some z → loopN step m x = some z
  | 0, _, _, _, _, h => by cases h
  | n + 1, 0, _, _, h, _ => absurd h (by omega)
  | n + 1, m + 1, x, z, hle, h => by
    simp only [loopN] at h ⊢
    split at h
    · rename_i y hy; exact loopN_mono (by omega) h
    · exact h
    · cases h
open Classical in
/-- a loop, as often as it goes round -/
noncomputable def loopC {X Z : Type} (step : X → Option (X ⊕ Z)) (x : X) : Option Z := if h : ∃ z, ∃ n, loopN step n x = some z then some (Classical.choose h) else none
theorem loopC_iff {X Z : Type} {step : X → Option (X ⊕ Z)} {x : X} {z : Z} : loopC step x = some z ↔ ∃ n, loopN step n x = some z := by
  unfold loopC
  constructor
  · intro h
    split at h
    · rename_i hx; cases h; exact Classical.choose_spec hx
    · cases h
  · rintro ⟨n, h⟩
    have hx : ∃ z, ∃ n, loopN step n x = some z := ⟨z, n, h⟩
    rw [dif_pos hx]
    obtain ⟨m, hm⟩ := Classical.choose_spec hx
    have h1 := loopN_mono (Nat.le_max_left n m) h
    have h2 := loopN_mono (Nat.le_max_right n m) hm
    rw [h1] at h2
    rw [Option.some.inj h2]
theorem loopC_eq {X Z : Type} (step : X → Option (X ⊕ Z)) (x : X) : loopC step x = match step x with | some (.inl y) => loopC step y | some (.inr z) => some z | none => none := by
  cases hs : step x with
  | none =>
    cases hl : loopC step x with
    | none => rfl
    | some z =>
      obtain ⟨n, hn⟩ := loopC_iff.1 hl
      cases n with
      | zero => cases hn
      | succ n => simp [loopN, hs] at hn
  | some s => cases s with
    | inr z => exact loopC_iff.2 ⟨1, by simp [loopN, hs]⟩
    | inl y =>
      dsimp only
      cases hl : loopC step y with
      | some z =>
        obtain ⟨n, hn⟩ := loopC_iff.1 hl
        exact loopC_iff.2 ⟨n + 1, by simp [loopN, hs, hn]⟩
      | none =>
        cases hl2 : loopC step x with
        | none => rfl
        | some z =>
          obtain ⟨n, hn⟩ := loopC_iff.1 hl2
          cases n with
          | zero => cases hn
          | succ n =>
            simp only [loopN, hs] at hn
            rw [loopC_iff.2 ⟨n, hn⟩] at hl
            cases hl
/-- a rule for loops: what holds at each head, and falls -/
theorem loopC_rule {X Z : Type} {step : X → Option (X ⊕ Z)} (I : X → Prop) (μ : X → Nat) (Q : Z → Prop)
    (hs : ∀ x, I x → (∃ y, step x = some (.inl y) ∧ I y ∧ μ y < μ x) ∨ ∃ z, step x = some (.inr z) ∧ Q z) : ∀ (n : Nat) (x : X), μ x ≤ n → I x → ∃ z, loopC step x = some z ∧ Q z := by
  intro n
  induction n with
  | zero =>
    intro x hx hI
    rw [loopC_eq]
    rcases hs x hI with ⟨y, h1, h2, h3⟩ | ⟨z, h1, h2⟩
    · omega
    · rw [h1]; exact ⟨z, rfl, h2⟩
  | succ n ih =>
    intro x hx hI
    rw [loopC_eq]
    rcases hs x hI with ⟨y, h1, h2, h3⟩ | ⟨z, h1, h2⟩
    · rw [h1]; exact ih y (by omega) h2
    · rw [h1]; exact ⟨z, rfl, h2⟩

abbrev Own := List (Pl × Nat × Ty)
def Sh.live (s : Sh) : List Nat := s.tm.map (·.1)
/-- the state, in the form of a shape -/
def Sh.fit (s : Sh) (own : Own) (A : Wt) : Option s.den := s.dec (canonW s.live (ownify own A))
structure Lp where
  k : Nat
  own : Own
  head : Sh
  back : Own
  exs : List (Ex × Own)
  res : List Sh
  F : head.den → Option (altDen res)
section
variable {β : Type}
def altKE : (res : List Sh) → List (Ex × Own) → altDen res → (Ex → Wt → Option β) → Option β
  | [s], [p], x, K => K p.1 (s.mk' x)
  | s :: t :: l, p :: q :: ps, x, K => match x with | .inl y => K p.1 (s.mk' y) | .inr y => altKE (t :: l) (q :: ps) y K
  | _, _, _, _ => none
def altDecE (e : Ex) (A : Wt) : (res : List Sh) → List (Ex × Own) → Option (altDen res)
  | [s], [p] => if p.1 = e then s.fit p.2 A else none
  | s :: t :: l, p :: q :: ps => match (if p.1 = e then s.fit p.2 A else none) with
    | some x => some (.inl x)
    | none => (altDecE e A (t :: l) (q :: ps)).map .inr
  | _, _ => none
def lpAt : List Lp → Nat → Option Lp
  | [], _ => none
  | L :: Ls, k => if L.k = k then some L else lpAt Ls k
def loopK (Ls : List Lp) (k : Nat) (A : Wt) (K : Ex → Wt → Option β) : Option β := match lpAt Ls k with
  | some L => match L.head.fit L.own A with
    | some x => (L.F x).bind fun y => altKE L.res L.exs y K
    | none => none
  | none => none
variable (E : Env) (T : List Ctr)
noncomputable def runCodeW (Ls : List Lp) (h : Hint) : Code → Nat → Wt → (Ex → Wt → Option β) → Option β
  | .skip, _, A, K => K .normal A
  | .seq a b, k, A, K => runCodeW Ls h a k A fun e A => match e with
    | .normal => runCodeW Ls h b k A K
    | e => K e A
  | .cond c a b, k, A, K => match A.ev c with
    | .c (.v (.bool t)) => match c with
      | .tmp s => br t (runCodeW Ls h a k (A.fix s true) K) (runCodeW Ls h b k (A.fix s false) K)
      | _ => br t (runCodeW Ls h a k A K) (runCodeW Ls h b k A K)
    | _ => none
  | .block id b, _, A, K => runCodeW Ls h b id A fun e A => match e with
    | .exit j => if j = id then K .normal A else K (.exit j) A
    | e => K e A
  | .exit id, _, A, K => K (.exit id) A
  | .ret, _, A, K => K .ret A
  | .loop b, k, A, K => loopK Ls k A K
  | .region _ ops d, _, A, K => match d with
    | true => drawW E T h ops A (K .normal)
    | false => runOpsW E T h ops ops.toList A (K .normal)
  | _, _, _, _ => none
/-- one round of a loop -/
noncomputable def stepW (Ls : List Lp) (h : Hint) (b : Code) (k : Nat) (head : Sh) (back : Own) (exs : List (Ex × Own)) (res : List Sh) (x : head.den) : Option (head.den ⊕ altDen res) :=
  runCodeW (β := head.den ⊕ altDen res) E T Ls h b k (head.mk' x) fun e A => match e with
    | .normal => (head.fit back A).map .inl
    | e => (altDecE e A res exs).map .inr
def loopsOf : Code → Nat → List (Nat × Code)
  | .seq a b, k => loopsOf a k ++ loopsOf b k
  | .cond _ a b, k => loopsOf a k ++ loopsOf b k
  | .block id b, _ => loopsOf b id
  | .loop b, k => (k, b) :: loopsOf b k
  | _, _ => []
def LoopsOk (Ls : List Lp) (h : Hint) (l : List (Nat × Code)) : Prop := ∀ p ∈ l, ∀ L, lpAt Ls p.1 = some L → ∀ x, L.F x = loopC (stepW E T Ls h p.2 p.1 L.head L.back L.exs L.res) x
def resultsK (P : Program) (A : Wt) : List ResultVar → (List TW → Option β) → Option β
  | [], K => K []
  | .tmp t :: l, K => resultsK P A l fun rs => K (A.get t :: rs)
  | .cell a t :: l, K => match A.get a with
    | .c x => if P.cellsOf t = 0 then none else A.at (P.cellsOf t) x fun cs => (match cellsTW P t cs with
      | some y => resultsK P A l fun rs => K (y :: rs)
      | none => none)
    | _ => none
/-- what a function's body tells -/
noncomputable def runBodyW (Ls : List Lp) (h : Hint) (f : FuncId) (results : List ResultVar) (c : Code) (own : Own) (S : Wt) (res : List Sh) : Option (altDen res) :=
  runCodeW (β := altDen res) E T Ls h c 0 S fun e A => match e with
    | .exit _ => none
    | _ =>
      let A := ownify own A
      resultsK E.P A results fun rs =>
        let tvs := rs ++ (if E.mode f = 1 ∨ E.mode f = 2 then [A.get 0] else [])
        if tvs.all noBoxi && nodup (selObsW A tvs) && nodup (selBoxesW tvs) && rs.length == E.nres f then altDec res (packW A (selObsW A tvs) (selBoxesW tvs) tvs) else none
end

section
variable {E : Env} {T : List Ctr} {γ0 : Gh} {w0 : World} {n : Nat} {pr : List Nat} {pv : Nat → Value} {h : Hint} {Ls : List Lp} {A : Wt} {a : Act} {w : World}
theorem fit_inv {s : Sh} {own : Own} {x : s.den} (hI : InvP γ0 w0 n pr pv A.enc a w) (hf : s.fit own A = some x) : InvP γ0 w0 n pr pv (s.mk' x).enc a w := by
  refine ⟨?_, hI.2⟩
  obtain ⟨⟨γ, hR, hH⟩, hd, hs⟩ := hI.1
  obtain ⟨γ1, h1, h2⟩ := ownify_rel own hR
  have hI1 : Inv γ0 w0 n (ownify own A).enc a w := ⟨⟨γ1, h1, h2 _ _ hH⟩, hd, hs⟩
  have hI2 := hI1.canon s.live
  rw [← canonW_enc] at hI2
  obtain ⟨⟨γ2, h3, h4⟩, _, _⟩ := hI2
  exact ⟨⟨γ2, s.dec_rel h3 hf, h4⟩, hd, hs⟩
theorem altDecE_inv {e : Ex} (hI : InvP γ0 w0 n pr pv A.enc a w) : ∀ {res : List Sh} {exs : List (Ex × Own)} {z : altDen res}, altDecE e A res exs = some z → ∃ B : Wt, (∀ (β : Type) (K : Ex → Wt → Option β), altKE res exs z K = K e B) ∧ InvP γ0 w0 n pr pv B.enc a w
  | [s], [p], z, hz => by
    simp only [altDecE] at hz
    split at hz
    · rename_i he
      exact ⟨s.mk' z, fun β K => by simp only [altKE, he], fit_inv hI hz⟩
    · cases hz
  | s :: t :: l, p :: q :: ps, z, hz => by
    simp only [altDecE] at hz
    split at hz
    · rename_i x hx
      cases hz
      split at hx
      · rename_i he
        exact ⟨s.mk' x, fun β K => by simp only [altKE, he], fit_inv hI hx⟩
      · cases hx
    · simp only [Option.map_eq_some_iff] at hz
      obtain ⟨y, hy, rfl⟩ := hz
      obtain ⟨B, h1, h2⟩ := altDecE_inv hI (res := t :: l) (exs := q :: ps) hy
      exact ⟨B, fun β K => by simp only [altKE]; exact h1 β K, h2⟩
  | [], _, z, hz => by simp [altDecE] at hz
  | [s], [], z, hz => by simp [altDecE] at hz
  | [s], _ :: _ :: _, z, hz => by simp [altDecE] at hz
  | s :: t :: l, [], z, hz => by simp [altDecE] at hz
  | s :: t :: l, [_], z, hz => by simp [altDecE] at hz
theorem loopK_some {β : Type} {r : β} {k : Nat} {K : Ex → Wt → Option β} (hr : loopK Ls k A K = some r) : ∃ L, lpAt Ls k = some L ∧ ∃ x y, L.head.fit L.own A = some x ∧ L.F x = some y ∧ altKE L.res L.exs y K = some r := by
  unfold loopK at hr
  split at hr
  · rename_i L hL
    split at hr
    · rename_i x hx
      rw [Option.bind_eq_some_iff] at hr
      obtain ⟨y, h1, h2⟩ := hr
      exact ⟨L, hL, x, y, hx, h1, h2⟩
    · cases hr
  · cases hr

theorem runCodeW_wp (hm : E.P.follows .mixedOrders = true) (hT : ∀ c ∈ T, c.Ok E) : ∀ (c : Code) (β : Type) (r : β) (k : Nat) (A : Wt) (a : Act) (w : World) (K : Ex → Wt → Option β) (Q : Exit → Act → World → Prop),
    runCodeW E T Ls h c k A K = some r → codeOk n pr c = true → LoopsOk E T Ls h (loopsOf c k) → InvP γ0 w0 n pr pv A.enc a w →
      (∀ e A' a' w', K e A' = some r → InvP γ0 w0 n pr pv A'.enc a' w' → Q (exOf e) a' w') → c.wp E.P Q a w
  | .skip, β, r, k, A, a, w, K, Q, hr, hok, hL, hI, hQ => by
    simp only [runCodeW] at hr
    exact wp_skip (hQ _ _ _ _ hr hI)
  | .seq x y, β, r, k, A, a, w, K, Q, hr, hok, hL, hI, hQ => by
    simp only [codeOk, Bool.and_eq_true] at hok
    simp only [runCodeW] at hr
    have hL1 : LoopsOk E T Ls h (loopsOf x k) := fun p hp => hL p (List.mem_append_left _ hp)
    have hL2 : LoopsOk E T Ls h (loopsOf y k) := fun p hp => hL p (List.mem_append_right _ hp)
    refine wp_seq (runCodeW_wp hm hT x β r k A a w _ _ hr hok.1 hL1 hI fun e A' a' w' hK hI' => ?_)
    cases e with
    | normal => exact runCodeW_wp hm hT y β r k A' a' w' K Q hK hok.2 hL2 hI' hQ
    | exit id => exact hQ _ _ _ _ hK hI'
    | ret => exact hQ _ _ _ _ hK hI'
  | .cond c x y, β, r, k, A, a, w, K, Q, hr, hok, hL, hI, hQ => by
    simp only [codeOk, Bool.and_eq_true] at hok
    simp only [runCodeW] at hr
    have hL1 : LoopsOk E T Ls h (loopsOf x k) := fun p hp => hL p (List.mem_append_left _ hp)
    have hL2 : LoopsOk E T Ls h (loopsOf y k) := fun p hp => hL p (List.mem_append_right _ hp)
    split at hr
    · rename_i t hev
      obtain ⟨γ, hR, hH⟩ := hI.1.ex
      have hc : a.eval c = .bool t := ev_c hR (ev_c_enc hev)
      refine wp_cond hc ?_
      split at hr
      · rename_i s
        rcases br_some hr with ⟨rfl, hr2⟩ | ⟨rfl, hr2⟩
        · exact runCodeW_wp hm hT x β r k _ a w K Q hr2 hok.1 hL1 ⟨fix_inv hI.1 hev, hI.2⟩ hQ
        · exact runCodeW_wp hm hT y β r k _ a w K Q hr2 hok.2 hL2 ⟨fix_inv hI.1 hev, hI.2⟩ hQ
      · rcases br_some hr with ⟨rfl, hr2⟩ | ⟨rfl, hr2⟩
        · exact runCodeW_wp hm hT x β r k _ a w K Q hr2 hok.1 hL1 hI hQ
        · exact runCodeW_wp hm hT y β r k _ a w K Q hr2 hok.2 hL2 hI hQ
    · cases hr
  | .block id b, β, r, k, A, a, w, K, Q, hr, hok, hL, hI, hQ => by
    simp only [codeOk] at hok
    simp only [runCodeW] at hr
    refine wp_block (runCodeW_wp hm hT b β r id A a w _ _ hr hok hL hI fun e A' a' w' hK hI' => ?_)
    cases e with
    | normal => exact hQ _ _ _ _ hK hI'
    | ret => exact hQ _ _ _ _ hK hI'
    | exit j =>
      simp only [exOf, Exit.inBlock]
      dsimp only at hK
      split at hK
      · rename_i e; rw [if_pos e]; exact hQ _ _ _ _ hK hI'
      · rename_i e; rw [if_neg e]; exact hQ _ _ _ _ hK hI'
  | .exit id, β, r, k, A, a, w, K, Q, hr, hok, hL, hI, hQ => by
    simp only [runCodeW] at hr
    exact wp_exit (hQ _ _ _ _ hr hI)
  | .ret, β, r, k, A, a, w, K, Q, hr, hok, hL, hI, hQ => by
    simp only [runCodeW] at hr
    exact wp_ret (hQ _ _ _ _ hr hI)
  | .loop b, β, r, k, A, a, w, K, Q, hr, hok, hL, hI, hQ => by
    simp only [codeOk] at hok
    simp only [runCodeW] at hr
    obtain ⟨L, hLk, x, y, hx, hF, hK⟩ := loopK_some hr
    have hLb : LoopsOk E T Ls h (loopsOf b k) := fun p hp => hL p (List.mem_cons_of_mem _ hp)
    rw [hL (k, b) (by simp [loopsOf]) L hLk] at hF
    obtain ⟨N, hN⟩ := loopC_iff.1 hF
    refine wp_loop_n (fun j a w => ∃ x, InvP γ0 w0 n pr pv (L.head.mk' x).enc a w ∧ loopN (stepW E T Ls h b k L.head L.back L.exs L.res) j x = some y) ⟨x, fit_inv hI hx, hN⟩ (fun a w => ?_) (fun j a w => ?_)
    · rintro ⟨x, _, h1⟩; cases h1
    · rintro ⟨x, hI1, h1⟩
      simp only [loopN] at h1
      cases hs : stepW E T Ls h b k L.head L.back L.exs L.res x with
      | none => rw [hs] at h1; cases h1
      | some s =>
        rw [hs] at h1
        refine runCodeW_wp hm hT b _ s k _ a w _ _ hs hok hLb hI1 fun e A' a' w' hK' hI' => ?_
        have out : ∀ e', (altDecE e' A' L.res L.exs).map Sum.inr = some s → e' ≠ .normal → Exit.then (fun a w => ∃ x, InvP γ0 w0 n pr pv (L.head.mk' x).enc a w ∧ loopN (stepW E T Ls h b k L.head L.back L.exs L.res) j x = some y) Q (exOf e') a' w' := fun e' he hne => by
          simp only [Option.map_eq_some_iff] at he
          obtain ⟨z, hz, rfl⟩ := he
          dsimp only at h1
          cases h1
          obtain ⟨B, k1, k2⟩ := altDecE_inv hI' hz
          rw [k1] at hK
          have := hQ e' B a' w' hK k2
          cases e' with
          | normal => exact absurd rfl hne
          | exit id => exact this
          | ret => exact this
        cases e with
        | normal =>
          simp only [Option.map_eq_some_iff] at hK'
          obtain ⟨x', hx', rfl⟩ := hK'
          exact ⟨x', fit_inv hI' hx', h1⟩
        | exit id => exact out _ hK' (by intro e; cases e)
        | ret => exact out _ hK' (by intro e; cases e)
  | .region id ops d, β, r, k, A, a, w, K, Q, hr, hok, hL, hI, hQ => by
    have hops : OpsOk n pr ops := fun o ho t ht => by
      simp only [codeOk, Array.all_eq_true_iff_forall_mem] at hok
      have := hok o ho
      rw [ht] at this
      simpa using this
    simp only [runCodeW] at hr
    cases d with
    | false =>
      refine wp_region ?_
      rw [List.range_eq_range']
      exact runOpsW_wp hT hops (fun A' a' w' hk hi => hQ .normal A' a' w' hk hi) 0 ops.size A a w (by omega) (by simpa using hr) hI
    | true =>
      have hr : drawW E T h ops A (K .normal) = some r := hr
      unfold drawW at hr
      split at hr
      · rename_i hsel
        refine wp_region_any hm ((runDrawW_any (Q := Q .normal) hT hsel hops (fun A' a' w' hk hi => hQ .normal A' a' w' hk hi) ops.size _ [] A a _ hr ?_ ?_ (fun p hp => by cases hp)).wpAny)
        · obtain ⟨⟨⟨γ, hR, hH⟩, hdf, hsz⟩, hpv⟩ := hI
          refine ⟨⟨⟨γ, ⟨hR.tm, hR.bx, hR.ob, hR.zt, hR.lt⟩, ⟨hH.size, hH.os, hH.tape, hH.output, hH.block, hH.z⟩⟩, hdf, hsz⟩, hpv⟩
        · intro j oj hj hl e he hb
          have hlt := (Array.getElem?_eq_some_iff.1 hj).1
          simp [hlt] at hl
      · cases hr
  | .rangeFunc _ _ _ _, β, r, k, A, a, w, K, Q, hr, hok, hL, hI, hQ => by simp [runCodeW] at hr
  | .goto _, β, r, k, A, a, w, K, Q, hr, hok, hL, hI, hQ => by simp [runCodeW] at hr
  | .label _, β, r, k, A, a, w, K, Q, hr, hok, hL, hI, hQ => by simp [runCodeW] at hr
  | .scope _, β, r, k, A, a, w, K, Q, hr, hok, hL, hI, hQ => by simp [runCodeW] at hr
  | .refuse _, β, r, k, A, a, w, K, Q, hr, hok, hL, hI, hQ => by simp [runCodeW] at hr
theorem resultsK_enc {P : Program} {A : Wt} {β : Type} {r : β} : ∀ {l : List ResultVar} {K : List TW → Option β}, resultsK P A l K = some r → ∃ rs, resultsOf P A.enc l = some (rs.map TW.enc) ∧ K rs = some r
  | [], K, hr => ⟨[], rfl, hr⟩
  | .tmp t :: l, K, hr => by
    simp only [resultsK] at hr
    obtain ⟨rs, h1, h2⟩ := resultsK_enc hr
    exact ⟨_, by simp only [resultsOf, h1, ← A.get_enc]; rfl, h2⟩
  | .cell c t :: l, K, hr => by
    simp only [resultsK] at hr
    split at hr
    · rename_i x hx
      split at hr
      · cases hr
      · rename_i hne
        obtain ⟨cs, h1, h2⟩ := at_enc hr
        split at h2
        · rename_i y hy
          obtain ⟨rs, h3, h4⟩ := resultsK_enc h2
          refine ⟨_, ?_, h4⟩
          have : cellsTV P t (cs.map AW.enc) = some y.enc := by
            unfold cellsTW at hy
            unfold cellsTV
            split at hy
            · cases hy
            · rename_i d hd
              rw [hd]
              dsimp only
              split at hy
              · rename_i ha; rw [if_pos ha]; cases hy; rfl
              · rename_i ha
                rw [if_neg ha]
                split at hy
                · cases hy; rfl
                · cases hy
          have hg : A.enc.get c = .c x.enc := by rw [← A.get_enc, hx]; rfl
          simp only [resultsOf, hg, if_neg hne, h1, this, h3]
          rfl
        · cases h2
    · cases hr
end
end Go.Tree
namespace Go.Tree
set_option linter.unusedVariables false
set_option linter.unusedSimpArgs false
set_option linter.constructorNameAsVariable false
set_option maxHeartbeats 200000

/- how a function is laid before fn_ok -/
def bodyOf (fn : Func) : Code := match fn.body with | some c => c | none => .skip
theorem bodyOf_some {fn : Func} (h : fn.body.isSome = true) : fn.body = some (bodyOf fn) := by
  unfold bodyOf
  cases hb : fn.body with
  | none => rw [hb] at h; cases h
  | some c => rfl
theorem T_nil {E : Env} : ∀ c ∈ ([] : List Ctr), c.Ok E := fun c hc => by cases hc
theorem T_cons {E : Env} {c : Ctr} {T : List Ctr} (h : c.Ok E) (hT : ∀ c ∈ T, c.Ok E) : ∀ x ∈ c :: T, x.Ok E := fun x hx => by
  rcases List.mem_cons.1 hx with rfl | hx
  · exact h
  · exact hT x hx
theorem loopC_congr {X Z : Type} {s t : X → Option (X ⊕ Z)} (h : ∀ x, s x = t x) (x : X) : loopC s x = loopC t x := by
  have : s = t := funext h
  rw [this]
def loopAt (c : Code) (n : Nat) : Code := ((loopsOf c 0).getD n (0, .skip)).2
/-- the loops from number n on -/
def LoopsFrom (E : Env) (T : List Ctr) (Ls : List Lp) (h : Hint) (c : Code) : List Nat → Nat → Prop
  | [], _ => True
  | k :: ks, n => (∀ L, lpAt Ls k = some L → ∀ x, L.F x = loopC (stepW E T Ls h (loopAt c n) k L.head L.back L.exs L.res) x) ∧ LoopsFrom E T Ls h c ks (n + 1)
theorem loop_one {E : Env} {T : List Ctr} {Ls : List Lp} {h : Hint} {b : Code} {k : Nat} {own head back exs res} {step : head.den → Option (head.den ⊕ altDen res)}
    (hL : lpAt Ls k = some ⟨k, own, head, back, exs, res, loopC step⟩) (hs : ∀ x, step x = stepW E T Ls h b k head back exs res x) :
    ∀ L, lpAt Ls k = some L → ∀ x, L.F x = loopC (stepW E T Ls h b k L.head L.back L.exs L.res) x := fun L hL' x => by
  rw [hL] at hL'
  cases hL'
  exact loopC_congr hs x
theorem loops_of {E : Env} {T : List Ctr} {Ls : List Lp} {h : Hint} {c : Code} {ks : List Nat} (hk : (loopsOf c 0).map (·.1) = ks) (hl : LoopsFrom E T Ls h c ks 0) : LoopsOk E T Ls h (loopsOf c 0) := by
  have gen : ∀ (ks : List Nat) (n : Nat) (l : List (Nat × Code)), l = (loopsOf c 0).drop n → l.map (·.1) = ks → LoopsFrom E T Ls h c ks n → LoopsOk E T Ls h l := fun ks => by
    induction ks with
    | nil =>
      intro n l _ hk _ p hp
      have : l = [] := by simpa using hk
      subst this; cases hp
    | cons k ks ih =>
      intro n l hl hk hf p hp
      cases l with
      | nil => cases hp
      | cons q l =>
        simp only [List.map_cons, List.cons.injEq] at hk
        have hn : n < (loopsOf c 0).length := by
          have := congrArg List.length hl
          simp at this
          omega
        rw [List.drop_eq_getElem_cons hn] at hl
        simp only [List.cons.injEq] at hl
        rcases List.mem_cons.1 hp with rfl | hp
        · have : p.2 = loopAt c n := by
            unfold loopAt
            rw [List.getD_eq_getElem?_getD, List.getElem?_eq_getElem hn, ← hl.1]; rfl
          rw [this, hk.1]
          exact hf.1
        · exact ih (n + 1) l hl.2 hk.2 hf.2 p hp
  exact gen ks 0 _ rfl hk hl

section
variable {E : Env} {T : List Ctr}
theorem fn_ok (hm : E.P.follows .mixedOrders = true) (hT : ∀ c ∈ T, c.Ok E) {f : FuncId} {fn : Func} {c : Code} {arg : Sh} {res : List Sh} {own : Own} {F : arg.den → Option (altDen res)} {h : Hint} {Ls : List Lp}
    (hf : E.P.funcs[f]? = some fn) (hb : fn.body = some c) (hok : codeOk fn.ntmps (protectedSlots (E.mode f)) c = true) (hL : LoopsOk E T Ls h (loopsOf c 0))
    (hF : ∀ x, F x = runBodyW E T Ls h f fn.results.toList c own (arg.mk' x) res) : Ctr.Ok E ⟨f, arg, res, F⟩ := by
  intro x y hxy γ0 vs w hR
  simp only at hxy hR ⊢
  rw [hF] at hxy
  have hget : ∀ t, (vs.toArray ++ Array.replicate (fn.ntmps - vs.toArray.size) undef).getD t undef = vs.toArray.getD t undef := fun t => by
    simp only [Array.getD_eq_getD_getElem?, Array.getElem?_append]
    split
    · rfl
    · rename_i hlt
      rw [Array.getElem?_eq_none (Nat.le_of_not_lt hlt)]
      simp only [Array.getElem?_replicate]
      split <;> rfl
  unfold runBodyW at hxy
  refine calls_of_wp hf hb (runCodeW_wp (Ls := Ls) (h := h) (n := (vs.toArray ++ Array.replicate (fn.ntmps - vs.toArray.size) undef).size) (pr := protectedSlots (E.mode f)) (pv := fun t => vs.toArray.getD t undef) (γ0 := γ0) (w0 := w)
    hm hT c _ y 0 (arg.mk' x) _ w _ _ hxy (codeOk.mono (by simp; omega) c hok) hL ⟨⟨⟨γ0, ⟨fun t z hz => ?_, hR.bx, hR.ob, hR.zt, hR.lt⟩, Hist.refl γ0 w⟩, rfl, rfl⟩, fun t ht => hget t⟩ fun e A' a' w' hK hI => ?_)
  · show TVrep γ0 w z ((vs.toArray ++ Array.replicate (fn.ntmps - vs.toArray.size) undef).getD t undef)
    rw [hget]
    exact hR.tm t z hz
  · have hK' : (resultsK E.P (ownify own A') fn.results.toList fun rs =>
        let tvs := rs ++ (if E.mode f = 1 ∨ E.mode f = 2 then [(ownify own A').get 0] else [])
        if tvs.all noBoxi && nodup (selObsW (ownify own A') tvs) && nodup (selBoxesW tvs) && rs.length == E.nres f then altDec res (packW (ownify own A') (selObsW (ownify own A') tvs) (selBoxesW tvs) tvs) else none) = some y := by
      cases e with
      | exit id => cases hK
      | normal => exact hK
      | ret => exact hK
    have core : a'.defers = [] ∧ ∃ v, (results fn a'.tmps).run E.P w' = .ok v w' ∧
        ∃ vals γ', Ending.returned v = .returned (resVal vals) ∧ vals.length = E.nres f ∧ Rel γ' (altMk res y).enc (vals ++ back (E.mode f) vs).toArray w' ∧ Hist γ0 w γ' w' := by
      refine ⟨hI.1.df, ?_⟩
      obtain ⟨γ', hRA', hHA'⟩ := hI.1.ex
      obtain ⟨γ, hRA, hH2⟩ := ownify_rel own hRA'
      have hHA := hH2 _ _ hHA'
      generalize ownify own A' = A at hK' hRA
      obtain ⟨rs, hrs, hK2⟩ := resultsK_enc hK'
      dsimp only at hK2
      generalize hbk : (if E.mode f = 1 ∨ E.mode f = 2 then [A.get 0] else []) = bk at hK2
      split at hK2
      · rename_i hcond
        simp only [Bool.and_eq_true, beq_iff_eq] at hcond
        obtain ⟨⟨⟨hnb, _⟩, _⟩, hlen⟩ := hcond
        obtain ⟨vals, hrun, hF1⟩ := results_run hRA hrs
        have hF2 : F2 (fun x y => TVrep γ w' x y) ((rs ++ bk).map TW.enc) (vals ++ back (E.mode f) vs) := by
          rw [List.map_append]
          refine hF1.append ?_
          rw [← hbk]
          unfold back
          split
          · rename_i hm
            refine .cons ?_ .nil
            have h1 := hRA.eval (d := a'.defers) (.tmp 0)
            have h2 := hI.2 0 (by unfold protectedSlots; rw [if_pos hm]; simp)
            have h3 : a'.tmps.getD 0 undef = vs.getD 0 undef := by rw [h2]; simp
            rw [← h3, A.get_enc]
            exact h1
          · exact .nil
        obtain ⟨γ1, k1, k2, k3, _, _⟩ := Rel.exported (sel := selObs A.enc ((rs ++ bk).map TW.enc)) (bsel := selBoxes ((rs ++ bk).map TW.enc))
          (LO := (shared A.enc (selBoxes ((rs ++ bk).map TW.enc)) ((rs ++ bk).map TW.enc)).flatMap (lentAV A.enc))
          (LB := (shared A.enc (selBoxes ((rs ++ bk).map TW.enc)) ((rs ++ bk).map TW.enc)).flatMap AV.bxs) hRA hF2 fun v hyp => by
            have hm : v ∈ shared A.enc (selBoxes ((rs ++ bk).map TW.enc)) ((rs ++ bk).map TW.enc) := by
              unfold shared
              rw [List.mem_append, List.mem_flatMap, List.mem_flatMap]
              rcases hyp with ⟨x, hx, hvx⟩ | ⟨b, hb, l, hl, hvl⟩
              · exact .inl ⟨x, hx, by rw [all_avs]; exact hvx⟩
              · exact .inr ⟨b, hb, by rw [hl]; exact hvl⟩
            exact ⟨fun o ho => List.mem_flatMap.2 ⟨v, hm, ho⟩, fun b hb => List.mem_flatMap.2 ⟨v, hm, hb⟩⟩
        have k1' : Rel γ1 (altMk res y).enc (vals ++ back (E.mode f) vs).toArray w' := by
          refine altDec_rel ?_ hK2
          refine Rel.le ?_ (packW_le A _ _ _)
          rw [← selObsW_enc hnb, ← selBoxesW_enc hnb]
          exact k1
        have tgn : ∀ b, γ1.tg b ≠ none → γ.tg b ≠ none := fun b hb => by
          rcases k2 b hb with ⟨o, _, h | ⟨i, h⟩⟩ | ⟨x, _, h⟩ <;> rw [h] <;> simp
        refine ⟨_, hrun, vals, γ1, rfl, ?_, k1', hHA.size, hHA.os, hHA.tape, hHA.output, fun b hb ht => ⟨(hHA.block b hb ht).1, ?_⟩, fun b hb hz => ?_⟩
        · rw [← hF1.length, List.length_map]; exact hlen
        · exact Classical.byContradiction fun h => tgn b h (hHA.block b hb ht).2
        · have fin : γ.tg b ≠ none → γ0.z b ∨ γ0.tg b ≠ none := fun h => .inr fun e => h (hHA.block b hb e).2
          rcases k3 b hz with h | ⟨o, _, _, h⟩ | ⟨x, _, _, h⟩
          · exact hHA.z b hb h
          · exact fin (by rcases h with h | ⟨i, h⟩ <;> rw [h] <;> simp)
          · exact fin (by rw [h]; simp)
      · cases hK2
    cases e with
    | normal => exact core
    | ret => exact core
    | exit id => cases hK
end
end Go.Tree
namespace Go.Tree
open Go Go.RowKit
open Go.ChangeShapes Go.WideShapes
set_option linter.constructorNameAsVariable false
set_option linter.unusedVariables false

/-- all that was there before the call is memory that stays -/
def Gh0 (w : World) : Gh := ⟨fun _ => .nilFunc, fun _ => 0, fun _ _ => .nilFunc, fun _ _ => 0, fun _ => 0, fun _ => none, fun b => b < w.heap.size⟩

abbrev I64 (n : Int) : Prop := (Lit.int .i64 n).wf = true
def Ty.wf : (t : Ty) → t.den → Prop
  | .i64, n => I64 n | .u8, n => (Lit.int .u8 n).wf = true | .bool, _ => True | .str, s => s.size ≤ maxLen | .mat, p => I64 p.1 ∧ I64 p.2
  | .mats, l => l.length ≤ maxLen ∧ ∀ p ∈ l, I64 p.1 ∧ I64 p.2
def AS.wf : (a : AS) → a.den → Prop
  | .int k, n => (Lit.int k n).wf = true | .str, s => s.size ≤ maxLen | .rd _ t, l => l.length ≤ maxLen ∧ ∀ x ∈ l, t.wf x | _, _ => True
def wfL : (l : List AS) → denL AS.den l → Prop
  | [], _ => True | a :: l, x => a.wf x.1 ∧ wfL l x.2
def TS.wf : (s : TS) → s.den → Prop
  | .c a, x => a.wf x | .agg l, x => wfL l x
def wfP : (l : List (Nat × TS)) → denL (fun p : Nat × TS => p.2.den) l → Prop
  | [], _ => True | p :: l, x => p.2.wf x.1 ∧ wfP l x.2

def isI64 : Option TypeDesc → Bool | some (.int .i64) => true | _ => false
def matB (P : Program) : List Field → TypeId → Bool
  | [f, g], t => isI64 (P.underlying f.type) && isI64 (P.underlying g.type) && f.offset == 0 && g.offset == 1 && P.cellsOf f.type == 1 && P.cellsOf g.type == 1 && P.cellsOf t == 2
  | _, _ => false
def elTy (P : Program) (t : TypeId) : Option Ty := match P.underlying t with
  | some (.int .i64) => if P.cellsOf t = 1 then some .i64 else none
  | some (.int .u8) => if P.cellsOf t = 1 then some .u8 else none
  | some .bool => if P.cellsOf t = 1 then some .bool else none
  | some .string => if P.cellsOf t = 1 then some .str else none
  | some (.struct fs) => if matB P fs.toList t then some .mat else none
  | some (.slice e) => match P.underlying e with
    | some (.struct fs) => if matB P fs.toList e && P.cellsOf t == 1 then some .mats else none
    | _ => none
  | _ => none
def fieldsOf (rec : TypeId → Option (List AS)) (P : Program) : List Field → Nat → Option (List AS)
  | [], _ => some []
  | f :: fs, k => if f.offset = k then (match rec f.type with
    | some a => if P.cellsOf f.type = a.length then (fieldsOf rec P fs (k + a.length)).map (a ++ ·) else none
    | none => none) else none
def shapeOf (P : Program) : Nat → TypeId → Option (List AS)
  | 0, _ => none
  | n + 1, t => match P.underlying t with
    | some (.int k) => some [.int k]
    | some .bool => some [.bool]
    | some .string => some [.str]
    | some (.slice e) => (elTy P e).map fun τ => [.rd [] τ]
    | some (.struct fs) => match fieldsOf (shapeOf P n) P fs.toList 0 with
      | some as => if P.cellsOf t = as.length then some as else none
      | none => none
    | _ => none
def oneAS (k : Nat) (l : List (Nat × TS)) : List AS → Option (List (Nat × TS))
  | [a] => some ((k, .c a) :: l)
  | _ => none
def parOf (P : Program) : List TypeId → Nat → Option (List (Nat × TS))
  | [], _ => some []
  | t :: ts, k => match shapeOf P 20 t, parOf P ts (k + 1) with
    | some as, some l => (match P.underlying t with
      | some (.struct _) => some ((k, .agg as) :: l)
      | some (.int _) | some .bool | some .string | some (.slice _) => oneAS k l as
      | _ => none)
    | _, _ => none

theorem joinL {P : List AW → Prop} : ∀ (a b : List AS) (va : denL AS.den a) (vb : denL AS.den b), wfL a va → wfL b vb → ∃ v : denL AS.den (a ++ b), mkL AS.mk (a ++ b) v = mkL AS.mk a va ++ mkL AS.mk b vb ∧ wfL (a ++ b) v
  | [], b, _, vb, _, h => ⟨vb, rfl, h⟩
  | x :: a, b, va, vb, h1, h2 => by
    obtain ⟨v, e, h⟩ := joinL (P := P) a b va.2 vb h1.2 h2
    exact ⟨(va.1, v), congrArg (List.cons _) e, h1.1, h⟩

theorem mkL_length {α β : Type} {f : α → Type} {m : (a : α) → f a → β} : ∀ (l : List α) (x : denL f l), (mkL m l x).length = l.length
  | [], _ => rfl
  | a :: l, x => by simp [mkL, mkL_length l x.2]

section
variable {H : Type} {enc : TypeId × Value → H} {P : Program} {w : World} {held : Bool}
variable {γ : Gh} (hz : ∀ b, γ.z b ↔ b < w.heap.size)

theorem list_of {α : Type} {R : Nat → α → Prop} : ∀ n : Nat, (∀ i, i < n → ∃ a, R i a) → ∃ l : List α, l.length = n ∧ ∀ (i : Nat) (a : α), l[i]? = some a → R i a
  | 0, _ => ⟨[], rfl, fun i a h => by simp at h⟩
  | n + 1, h => by
    obtain ⟨l, hl, hr⟩ := list_of n (fun i hi => h i (by omega))
    obtain ⟨a, ha⟩ := h n (by omega)
    refine ⟨l ++ [a], by simp [hl], fun i b hb => ?_⟩
    rcases Nat.lt_or_ge i l.length with hi | hi
    · rw [List.getElem?_append_left hi] at hb; exact hr i b hb
    · have : i = n := by have := (List.getElem?_eq_some_iff.1 hb).1; simp at this; omega
      subst this
      rw [List.getElem?_append_right hi, hl] at hb
      simp at hb; subst hb; exact ha
theorem cells_get {base : Nat} {a : Addr} {n : Nat} {cs : List Value} (h : w.cells? base a n = some cs) : cs.length = n ∧ ∀ i u, cs[i]? = some u → w.cell? (a.add i) = some u := by
  unfold World.cells? at h
  split at h
  · have hm : ∀ (l : List Nat) (cs : List Value), l.mapM (fun i => w.cell? (a.add i)) = some cs → cs.length = l.length ∧ ∀ (i : Nat) (u : Value), cs[i]? = some u → ∃ j : Nat, l[i]? = some j ∧ w.cell? (a.add j) = some u := by
      intro l
      induction l with
      | nil => intro cs h; simp at h; subst h; exact ⟨rfl, fun i u hu => by simp at hu⟩
      | cons x t ih =>
        intro cs h
        rw [List.mapM_cons] at h
        obtain ⟨v, hv, h⟩ := Option.bind_eq_some_iff.1 h
        obtain ⟨vs, hvs, h⟩ := Option.bind_eq_some_iff.1 h
        have h' := Option.some.inj h
        subst h'
        obtain ⟨h1, h2⟩ := ih vs hvs
        refine ⟨by simp [h1], fun i u hu => ?_⟩
        cases i with
        | zero => simp at hu; subst hu; exact ⟨x, rfl, hv⟩
        | succ i => obtain ⟨j, hj, hc⟩ := h2 i u (by simpa using hu); exact ⟨j, by simpa using hj, hc⟩
    obtain ⟨h1, h2⟩ := hm _ _ h
    refine ⟨by simpa using h1, fun i u hu => ?_⟩
    obtain ⟨j, hj, hc⟩ := h2 i u hu
    have := List.getElem?_eq_some_iff.1 hj
    obtain ⟨hlt, e⟩ := this
    simp at e; subst e; exact hc
  · cases h
theorem cell_lt0 {a : Addr} {v : Value} (h : w.cell? a = some v) : a.block < w.heap.size := by
  unfold World.cell? at h
  cases e : w.heap[a.block]? with
  | none => rw [e] at h; cases h
  | some o => exact (Array.getElem?_eq_some_iff.1 e).1

/-- elements as they are read -/
def ElR (enc : TypeId × Value → H) (P : Program) (w : World) (held : Bool) (γ : Gh) (t : TypeId) (τ : Ty) : Prop :=
  P.cellsOf t = τ.sz ∧ ∀ fuel cs x, DataW.trod enc P w 0 (fun _ => true) held fuel t cs = some x → ∃ a : τ.den, F2 (CAt w (γ.inR [])) (τ.enc a) cs ∧ τ.wf a
theorem one_int {k : IntKind} {n : Int} : (Value.int k n).oneCell' = true := rfl
include hz in
theorem sl_rows {e : TypeId} {n : Nat} {α : Type} {f : α → List C} {W : α → Prop} (hn : 0 < n) (hc : P.cellsOf e = n) {t : TypeId} (ht : P.underlying t = some (.slice e))
    (he : ∀ fuel cs x, DataW.trod enc P w 0 (fun _ => true) held fuel e cs = some x → ∃ a : α, F2 (CAt w (γ.inR [])) (f a) cs ∧ W a) {fuel : Nat} {cs : List Value} {x}
    (h : DataW.trod enc P w 0 (fun _ => true) held fuel t cs = some x) :
    ∃ l : List α, ∃ v, cs = [v] ∧ v.oneCell' = true ∧ SlAt w (γ.inR []) v ⟨n, l.map f⟩ ∧ l.length ≤ maxLen ∧ ∀ a ∈ l, W a := by
  rcases DataW.trod_slice ht h with ⟨rfl, _⟩ | ⟨a, len, cap, elems, rest, m, _, rfl, _, _, hl, hm, hlen, hel, _, _⟩
  · exact ⟨[], _, rfl, rfl, ⟨by simp, none, 0, rfl, Nat.le_refl _, fun _ => rfl, fun h => absurd rfl h⟩, by simp, by simp⟩
  · have each : ∀ i, i < len → ∃ z : α, (∃ c : List Value, c.length = n ∧ F2 (CAt w (γ.inR [])) (f z) c ∧ ∀ q u, c[q]? = some u → w.cell? ((a.add (i * n)).add q) = some u) ∧ W z := by
      intro i hi
      have h1 := hel i hi
      rw [List.getElem?_eq_getElem (by omega)] at h1
      obtain ⟨c, hc1, hc2⟩ := Option.bind_eq_some_iff.1 h1
      obtain ⟨z, hz, hw⟩ := he _ _ _ hc2
      obtain ⟨g1, g2⟩ := cells_get hc1
      rw [hc] at g1 g2
      exact ⟨z, ⟨c, g1, hz, g2⟩, hw⟩
    obtain ⟨l, hll, hlr⟩ := list_of len each
    have len_f : ∀ i z, l[i]? = some z → (f z).length = n := fun i z hz => by
      obtain ⟨c, h1, h2, _⟩ := (hlr i z hz).1
      rw [h2.length, h1]
    refine ⟨l, _, rfl, rfl, ⟨?_, some a, cap, by simp [hll], by simp [hll]; omega, fun h => absurd h (by simp; omega), ?_⟩, by omega, fun x hx => ?_⟩
    · intro r hr
      obtain ⟨z, hz, rfl⟩ := List.mem_map.1 hr
      obtain ⟨i, hi, e⟩ := List.mem_iff_getElem.1 hz
      exact len_f i z (by rw [List.getElem?_eq_getElem hi, e])
    · intro hne
      cases l with
      | nil => exact absurd rfl hne
      | cons z0 l' =>
        obtain ⟨c, h1, h2, h3⟩ := (hlr 0 z0 rfl).1
        have g0 := h3 0 (c[0]'(by omega)) (List.getElem?_eq_getElem (by omega))
        have hspot : a.spot = none := by simpa [Addr.add] using World.cell?_spot g0
        obtain ⟨blk, off, spot⟩ := a
        simp at hspot
        subst hspot
        refine ⟨blk, off, rfl, Or.inl ((hz blk).2 (by have := cell_lt0 g0; rw [addr_add, addr_add] at this; exact this)), fun i r hr j x hx => ?_⟩
        simp only [List.getElem?_map, Option.map_eq_some_iff] at hr
        obtain ⟨z, hz', rfl⟩ := hr
        obtain ⟨c, h1, h2, h3⟩ := (hlr i z hz').1
        obtain ⟨u, hu, hR⟩ := h2.get hx
        refine ⟨u, ?_, hR⟩
        have := h3 j u hu
        rw [addr_add, addr_add] at this
        exact this
    · obtain ⟨i, hi, e⟩ := List.mem_iff_getElem.1 hx
      exact (hlr i x (by rw [List.getElem?_eq_getElem hi, e])).2

theorem isI64_eq {o : Option TypeDesc} (h : isI64 o = true) : o = some (.int .i64) := by
  unfold isI64 at h; split at h <;> simp_all
theorem mat_el {t : TypeId} {fs : Array Field} (ht : P.underlying t = some (.struct fs)) (hm : matB P fs.toList t = true) {fuel : Nat} {cs : List Value} {x}
    (h : DataW.trod enc P w 0 (fun _ => true) held fuel t cs = some x) : ∃ a : Int × Int, cs = Ty.row .mat a ∧ Ty.wf .mat a := by
  obtain ⟨xs, n, _, _, hl, hx, hf⟩ := DataW.trod_struct ht h
  rcases efs : fs.toList with _ | ⟨f, _ | ⟨g, _ | ⟨g', r⟩⟩⟩ <;> rw [efs] at hm <;> simp only [matB] at hm <;> try cases hm
  simp only [Bool.and_eq_true, beq_iff_eq] at hm
  obtain ⟨⟨⟨⟨⟨⟨a1, a2⟩, a3⟩, a4⟩, a5⟩, a6⟩, a7⟩ := hm
  have ef0 : fs[0]? = some f := by rw [← Array.getElem?_toList, efs]; rfl
  have ef1 : fs[1]? = some g := by rw [← Array.getElem?_toList, efs]; rfl
  have sz : fs.size = 2 := by rw [← Array.length_toList, efs]; rfl
  have g0 := hf 0 f ef0
  have g1 := hf 1 g ef1
  rw [List.getElem?_eq_getElem (by omega)] at g0 g1
  obtain ⟨p, hp, _, wp⟩ := DataW.trod_int (isI64_eq a1) g0
  obtain ⟨q, hq, _, wq⟩ := DataW.trod_int (isI64_eq a2) g1
  rw [a3, a5] at hp
  rw [a4, a6] at hq
  rw [a7] at hl
  match cs, hl with
  | [u, v], _ =>
    simp at hp hq
    subst hp hq
    exact ⟨(p, q), rfl, wp, wq⟩
include hz in
theorem el_of {t : TypeId} {τ : Ty} (ht : elTy P t = some τ) : ElR enc P w held γ t τ := by
  unfold elTy at ht
  split at ht
  · rename_i hu; split at ht <;> cases ht; rename_i hc
    exact ⟨hc, fun _ _ _ h => by obtain ⟨n, rfl, _, hw⟩ := DataW.trod_int hu h; exact ⟨n, .cons ⟨rfl, rfl⟩ .nil, hw⟩⟩
  · rename_i hu; split at ht <;> cases ht; rename_i hc
    exact ⟨hc, fun _ _ _ h => by obtain ⟨n, rfl, _, hw⟩ := DataW.trod_int hu h; exact ⟨n, .cons ⟨rfl, rfl⟩ .nil, hw⟩⟩
  · rename_i hu; split at ht <;> cases ht; rename_i hc
    exact ⟨hc, fun _ _ _ h => by obtain ⟨n, rfl, _⟩ := DataW.trod_bool hu h; exact ⟨n, .cons ⟨rfl, rfl⟩ .nil, trivial⟩⟩
  · rename_i hu; split at ht <;> cases ht; rename_i hc
    exact ⟨hc, fun _ _ _ h => by obtain ⟨n, rfl, _, hs⟩ := DataW.trod_string hu h; exact ⟨n, .cons ⟨rfl, rfl⟩ .nil, hs⟩⟩
  · rename_i fs hu; split at ht <;> cases ht; rename_i hm
    have hm' := hm
    refine ⟨?_, fun _ _ _ h => by obtain ⟨a, rfl, hw⟩ := mat_el hu hm h; exact ⟨a, .cons ⟨rfl, rfl⟩ (.cons ⟨rfl, rfl⟩ .nil), hw⟩⟩
    unfold matB at hm'
    split at hm'
    · simp only [Bool.and_eq_true, beq_iff_eq] at hm'; exact hm'.2
    · cases hm'
  · rename_i e hu
    split at ht
    · rename_i fs he
      split at ht <;> cases ht
      rename_i hb
      simp only [Bool.and_eq_true, beq_iff_eq] at hb
      obtain ⟨hm, hc⟩ := hb
      refine ⟨hc, fun _ _ _ h => ?_⟩
      have hce : P.cellsOf e = 2 := by
        unfold matB at hm
        split at hm
        · simp only [Bool.and_eq_true, beq_iff_eq] at hm; exact hm.2
        · cases hm
      obtain ⟨l, v, rfl, h1, h2, h3, h4⟩ := sl_rows (w := w) (γ := γ) hz (f := Ty.enc .mat) (W := Ty.wf .mat) (n := 2) (by omega) hce hu (fun _ _ _ h => by obtain ⟨a, rfl, hw⟩ := mat_el he hm h; exact ⟨a, .cons ⟨rfl, rfl⟩ (.cons ⟨rfl, rfl⟩ .nil), hw⟩) h
      refine ⟨l, .cons ?_ .nil, h3, h4⟩
      obtain ⟨k1, a, cap, k2, k3, k4, k5⟩ := h2
      refine ⟨fun r hr => ?_, a, cap, by simpa using k2, by simpa using k3, fun h => absurd h (by omega), fun hne => ?_⟩
      · obtain ⟨z, _, rfl⟩ := List.mem_map.1 hr; rfl
      · obtain ⟨blk, off, ea, hR, hc⟩ := k5 (by simpa using hne)
        refine ⟨blk, off, ea, hR, fun i r hr j x hx => ?_⟩
        simp only [List.getElem?_map, Option.map_eq_some_iff] at hr
        obtain ⟨z, hz', rfl⟩ := hr
        obtain ⟨u, hu, hC⟩ := hc i (Ty.enc .mat z) (by simp [hz']) j (.v x) (by simp [Ty.enc, hx])
        obtain ⟨rfl, ho⟩ := hC
        exact ⟨hu, ho⟩
    · cases ht
  · cases ht

/-- a type, as its cells are read -/
def ShR (enc : TypeId × Value → H) (P : Program) (w : World) (held : Bool) (γ : Gh) (t : TypeId) (as : List AS) : Prop :=
  ∀ fuel cs x, DataW.trod enc P w 0 (fun _ => true) held fuel t cs = some x → ∃ v : denL AS.den as, Cells γ w ((mkL AS.mk as v).map AW.enc) cs ∧ wfL as v

theorem fields_of {rec : TypeId → Option (List AS)} (hrec : ∀ t as, rec t = some as → ShR enc P w held γ t as) {cs : List Value} : ∀ (fs : List Field) (k : Nat) (as : List AS), fieldsOf rec P fs k = some as →
    (∀ f ∈ fs, ∃ n y, DataW.trod enc P w 0 (fun _ => true) held n f.type ((cs.drop f.offset).take (P.cellsOf f.type)) = some y) →
    ∃ v : denL AS.den as, Cells γ w ((mkL AS.mk as v).map AW.enc) ((cs.drop k).take as.length) ∧ wfL as v
  | [], k, as, h, _ => by
    cases h
    exact ⟨(), by rw [List.length_nil, List.take_zero]; exact .nil, trivial⟩
  | f :: fs, k, as, h, hf => by
    simp only [fieldsOf] at h
    split at h
    · rename_i hk
      split at h
      · rename_i a ha
        split at h
        · rename_i hc
          simp only [Option.map_eq_some_iff] at h
          obtain ⟨b, hb, rfl⟩ := h
          obtain ⟨v2, c2, w2⟩ := fields_of hrec fs (k + a.length) b hb (fun g hg => hf g (List.mem_cons_of_mem _ hg))
          obtain ⟨n, y, hy⟩ := hf f (List.mem_cons_self ..)
          rw [hk, hc] at hy
          obtain ⟨v1, c1, w1⟩ := hrec _ _ ha _ _ _ hy
          obtain ⟨v, ev, wv⟩ := joinL (P := fun _ => True) a b v1 v2 w1 w2
          refine ⟨v, ?_, wv⟩
          rw [ev, List.map_append, List.length_append, List.take_add, List.drop_drop]
          exact F2.append c1 c2
        · cases h
      · cases h
    · cases h
include hz in
theorem shape_of : ∀ (n : Nat) (t : TypeId) (as : List AS), shapeOf P n t = some as → ShR enc P w held γ t as
  | 0, _, _, h => by cases h
  | n + 1, t, as, h => by
    unfold shapeOf at h
    split at h
    · rename_i hu; cases h
      exact fun _ _ _ h => by obtain ⟨n, rfl, _, hw⟩ := DataW.trod_int hu h; exact ⟨(n, ()), .cons ⟨rfl, rfl⟩ .nil, hw, trivial⟩
    · rename_i hu; cases h
      exact fun _ _ _ h => by obtain ⟨n, rfl, _⟩ := DataW.trod_bool hu h; exact ⟨(n, ()), .cons ⟨rfl, rfl⟩ .nil, trivial, trivial⟩
    · rename_i hu; cases h
      exact fun _ _ _ h => by obtain ⟨n, rfl, _, hs⟩ := DataW.trod_string hu h; exact ⟨(n, ()), .cons ⟨rfl, rfl⟩ .nil, hs, trivial⟩
    · rename_i e hu
      simp only [Option.map_eq_some_iff] at h
      obtain ⟨τ, hτ, rfl⟩ := h
      intro fuel cs x h
      obtain ⟨hc, he⟩ := el_of (enc := enc) (w := w) (held := held) hz hτ
      obtain ⟨l, v, rfl, h1, h2, h3, h4⟩ := sl_rows (w := w) (γ := γ) hz (f := τ.enc) (W := τ.wf) (n := τ.sz) (by cases τ <;> decide) hc hu he h
      exact ⟨(l, ()), .cons ⟨h2, h1⟩ .nil, ⟨h3, h4⟩, trivial⟩
    · rename_i fs hu
      split at h
      · rename_i as' hfs
        split at h <;> cases h
        rename_i hc
        intro fuel cs x h
        obtain ⟨xs, m, _, _, hl, hx, hf⟩ := DataW.trod_struct hu h
        obtain ⟨v, c, wv⟩ := fields_of (shape_of n) (cs := cs) fs.toList 0 _ hfs (fun f hf' => by
          obtain ⟨i, hi, e⟩ := List.mem_iff_getElem.1 hf'
          have e' : fs[i]? = some f := by rw [← Array.getElem?_toList, List.getElem?_eq_getElem hi, e]
          have := hf i f e'
          rw [List.getElem?_eq_getElem (by rw [hx]; simpa using hi)] at this
          exact ⟨_, _, this⟩)
        refine ⟨v, ?_, wv⟩
        rwa [List.drop_zero, List.take_of_length_le (by omega)] at c
      · cases h
    · cases h
include hz in
theorem par_of : ∀ (ts : List TypeId) (k : Nat) (l : List (Nat × TS)) (vs : List Value) (ds : List (DataW H)) (ps : List MemPlace), parOf P ts k = some l → DataW.TrodAll enc P w 0 (fun _ => true) held ts vs ds ps →
    (∀ (j : Nat) t v, ts[j]? = some t → vs[j]? = some v → Value.okWide P w .any 0 t v) →
    ∃ x : denL (fun p : Nat × TS => p.2.den) l, wfP l x ∧ ∀ t y, look t (encL TW.enc (mkL (fun p y => (p.1, TS.mk p.2 y)) l x)) = some y → k ≤ t ∧ TVrep γ w y (vs.toArray.getD (t - k) undef)
  | [], k, l, vs, ds, ps, hp, _, _ => by cases hp; exact ⟨(), trivial, fun _ _ h => by cases h⟩
  | t :: ts, k, l, vs, ds, ps, hp, hA, hv => by
    obtain ⟨v, vs', d, ds', p, q, rfl, rfl, rfl, ⟨fuel, ht⟩, hA'⟩ := trodAll_cons hA
    unfold parOf at hp
    split at hp
    · rename_i as l' has hl'
      obtain ⟨x, wx, hx⟩ := par_of ts (k + 1) l' vs' ds' q hl' hA' (fun j t v h1 h2 => hv (j + 1) t v (by simpa using h1) (by simpa using h2))
      obtain ⟨y, cy, wy⟩ := shape_of hz 20 t as has _ _ _ ht
      have hv0 := hv 0 t v rfl rfl
      have rest : ∀ (s : TS) (z : s.den), TVrep γ w (TS.mk s z).enc v → ∀ t y, look t (encL TW.enc (mkL (f := fun p : Nat × TS => p.2.den) (fun p y => (p.1, TS.mk p.2 y)) ((k, s) :: l') (z, x))) = some y → k ≤ t ∧ TVrep γ w y ((v :: vs').toArray.getD (t - k) undef) := by
        intro s z hz t y h
        simp only [mkL, encL, List.map_cons, look] at h
        split at h
        · rename_i e
          cases h
          subst e
          exact ⟨Nat.le_refl _, by simpa using hz⟩
        · obtain ⟨h1, h2⟩ := hx t y h
          refine ⟨by omega, ?_⟩
          have : t - k = (t - (k + 1)) + 1 := by omega
          rw [this]
          simpa [Array.getD_eq_getD_getElem?] using h2
      have sc : (∃ a, v.cells.toList = [a] ∧ v = a) → oneAS k l' as = some l →
          ∃ x : denL (fun p : Nat × TS => p.2.den) l, wfP l x ∧ ∀ t y, look t (encL TW.enc (mkL (fun p y => (p.1, TS.mk p.2 y)) l x)) = some y → k ≤ t ∧ TVrep γ w y ((v :: vs').toArray.getD (t - k) undef) := by
        intro ⟨a, ea, e⟩ hp
        unfold oneAS at hp
        split at hp
        · cases hp
          rw [ea] at cy
          subst e
          cases cy with
          | cons c _ => exact ⟨(y.1, x), ⟨wy.1, wx⟩, rest (.c _) y.1 c.1⟩
        · cases hp
      split at hp
      · rename_i fs hu
        cases hp
        obtain ⟨cs, rfl, _, _⟩ : ∃ cs, v = .agg cs ∧ cs.size = P.cellsOf t ∧ Row.okWide P w .any 0 t cs := by simpa [Value.okWide, hu] using hv0
        exact ⟨(y, x), ⟨wy, wx⟩, rest (.agg as) y ⟨cs.toList, by simp, cy⟩⟩
      · rename_i hu
        obtain ⟨n, rfl⟩ := okWide_int hu hv0
        exact sc ⟨_, rfl, rfl⟩ hp
      · rename_i hu
        obtain ⟨n, rfl⟩ := okWide_bool hu hv0
        exact sc ⟨_, rfl, rfl⟩ hp
      · rename_i hu
        obtain ⟨n, rfl⟩ := okWide_string hu hv0
        exact sc ⟨_, rfl, rfl⟩ hp
      · rename_i hu
        obtain ⟨a, b, c, rfl⟩ := okWide_slice hu hv0
        exact sc ⟨_, rfl, rfl⟩ hp
      · cases hp
    · cases hp
theorem trod_rest {W W' : World} (hl : laidOutB P = true) (bel : Below W.heap.size W W') : ∀ {ts : List TypeId} {vs : List Value} {ds : List (DataW H)} {ps : List MemPlace},
    (ts.all fun t => P.readableRec t && decide (t < P.types.size)) = true → DataW.TrodAll enc P W 0 (fun _ => true) true ts vs ds ps → DataW.TrodAll enc P W' 0 (fun b => decide (b < W.heap.size)) true ts vs ds ps
  | [], _, _, _, _, h => by obtain ⟨rfl, rfl, rfl⟩ := trodAll_nil h; exact trodAll_mk0
  | t :: ts, _, _, _, hr, h => by
    obtain ⟨v, vs', d, ds', p, q, rfl, rfl, rfl, k, hA'⟩ := trodAll_cons h
    simp only [List.all_cons, Bool.and_eq_true, decide_eq_true_eq] at hr
    have lt : ∀ x ∈ p, x.block < W.heap.size := by obtain ⟨m, hm⟩ := k; exact DataW.trod_lt m _ _ _ hm
    exact trodAll_cons_mk (Below.trod hl hr.1.1 hr.1.2 k bel lt) (trod_rest hl bel hr.2 hA')
end
theorem trodAll_len {H : Type} {enc : TypeId × Value → H} {P : Program} {w : World} {base : Nat} {spare : Nat → Bool} {held : Bool} : ∀ {ts : List TypeId} {vs : List Value} {ds : List (DataW H)} {ps : List MemPlace},
    DataW.TrodAll enc P w base spare held ts vs ds ps → ds.length = ts.length
  | [], _, _, _, h => by obtain ⟨_, rfl, _⟩ := trodAll_nil h; rfl
  | t :: ts, _, _, _, h => by
    obtain ⟨v, vs', d, ds', p, q, rfl, rfl, rfl, k, hA'⟩ := trodAll_cons h
    simp [trodAll_len hA']
theorem len0 {α : Type} {l : List α} (h : l.length = 0) : l = [] := List.length_eq_zero_iff.1 h
theorem len1 {α : Type} {l : List α} (h : l.length = 1) : ∃ a, l = [a] := List.length_eq_one_iff.1 h
theorem len2 {α : Type} : ∀ {l : List α}, l.length = 2 → ∃ a b, l = [a, b]
  | [a, b], _ => ⟨a, b, rfl⟩
theorem len3 {α : Type} : ∀ {l : List α}, l.length = 3 → ∃ a b c, l = [a, b, c]
  | [a, b, c], _ => ⟨a, b, c, rfl⟩
theorem len4 {α : Type} : ∀ {l : List α}, l.length = 4 → ∃ a b c d, l = [a, b, c, d]
  | [a, b, c, d], _ => ⟨a, b, c, d, rfl⟩
theorem len5 {α : Type} : ∀ {l : List α}, l.length = 5 → ∃ a b c d e, l = [a, b, c, d, e]
  | [a, b, c, d, e], _ => ⟨a, b, c, d, e, rfl⟩
theorem len6 {α : Type} : ∀ {l : List α}, l.length = 6 → ∃ a b c d e f, l = [a, b, c, d, e, f]
  | [a, b, c, d, e, f], _ => ⟨a, b, c, d, e, f, rfl⟩
theorem Hist.below {w : World} {γ' : Gh} {w' : World} (h : Hist (Gh0 w) w γ' w') : Below w.heap.size w w' :=
  ⟨h.os, h.tape, h.output, h.size, fun k hk => (h.block k hk rfl).1⟩

/-- a law that answers true: the call, from its arguments as the row reads them -/
theorem law_call {H : Type} {enc : TypeId × Value → H} {E : Env} {c : Ctr} (hok : c.Ok E) {ts : List TypeId} {vs : List Value} {ds : List (DataW H)} {ps : List MemPlace} {w : World} {l : List (Nat × TS)}
    (hp : parOf E.P ts 0 = some l) (harg : c.arg = ⟨l, [], []⟩) (hres : c.res = [⟨[(0, .c .bool)], [], []⟩]) (hn : E.nres c.f = 1)
    (hA : DataW.TrodAll enc E.P w 0 (fun _ => true) true ts vs ds ps) (hv : ∀ (j : Nat) t v, ts[j]? = some t → vs[j]? = some v → Value.okWide E.P w .any 0 t v)
    (hF : ∀ x : c.arg.den, wfP c.arg.tm x.1 → ∃ y : altDen c.res, c.F x = some y ∧ (altMk c.res y).tm = [(0, .c (.v (.bool true)))]) :
    Calls E.P c.f vs.toArray w fun e w' => e = .returned (.bool true) ∧ Below w.heap.size w w' := by
  obtain ⟨x, wx, hx⟩ := par_of (γ := Gh0 w) (fun _ => Iff.rfl) ts 0 l vs ds ps hp hA hv
  obtain ⟨y, hy, ht⟩ : ∃ y, c.F (harg ▸ (x, (), ())) = some y ∧ (altMk c.res y).tm = [(0, .c (.v (.bool true)))] := by
    refine hF _ ?_
    obtain ⟨f, arg, res, F⟩ := c
    simp only at harg
    subst harg
    exact wx
  have hrel : Rel (Gh0 w) (c.arg.mk' (harg ▸ (x, (), ()))).enc vs.toArray w := by
    obtain ⟨f, arg, res, F⟩ := c
    simp only at harg
    subst harg
    exact ⟨fun t y h => (hx t y h).2, fun _ _ h => (by cases h), fun _ _ h => (by cases h), fun _ _ => rfl, fun b h => h.elim id fun h => absurd rfl h⟩
  refine (hok _ _ hy _ vs w hrel).mono fun e w' ⟨vals, γ', he, hl, hR, hH⟩ => ⟨?_, hH.below⟩
  rw [hn] at hl
  match vals, hl with
  | [v], _ =>
    have := hR.tm 0 (.c (.v (.bool true))) (by simp [Wt.enc, ht, encL, look, TW.enc, AW.enc])
    have e : v = .bool true := by simpa [TVrep, AVrep] using this
    rw [he, e]
    rfl
end Go.Tree
