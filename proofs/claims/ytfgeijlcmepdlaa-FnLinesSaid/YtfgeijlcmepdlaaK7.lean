/- Part 7 of the tree calculus: symbolic execution of the model's code over typed lists, proved sound. No condition. -/
import Derived.Test.YtfgeijlcmepdlaaK6
namespace Go.Tree
set_option linter.unusedVariables false
set_option linter.unusedSimpArgs false
set_option linter.constructorNameAsVariable false
set_option maxHeartbeats 200000

section
variable {ops : Array Oper}
/-- does an operation wait for another, by others too -/
noncomputable def tiedN (ops : Array Oper) (m : Nat) : Nat → Nat → Bool
  | 0, _ => false
  | n + 1, j => match ops[j]? with | some oj => oj.after.any fun e => Region.binds .any e && (e.on == m || tiedN ops m n e.on) | none => false
noncomputable def tiedT (ops : Array Oper) (m j : Nat) : Bool := tiedN ops m ops.size j
noncomputable def Down (ops : Array Oper) (listed : Array Bool) : Prop := ∀ j oj, ops[j]? = some oj → listed.getD j true = true → ∀ e ∈ oj.after, Region.binds .any e = true → listed.getD e.on false = true
theorem getD_ft {listed : Array Bool} {i : Nat} (h : listed.getD i false = true) : listed.getD i true = true := by
  simp only [Array.getD_eq_getD_getElem?] at *
  cases hq : listed[i]? with
  | none => rfl
  | some b => rw [hq] at h; exact h
theorem tiedN_false {listed : Array Bool} (hD : Down ops listed) {m : Nat} (hm : listed.getD m true = false) : ∀ (n j : Nat), (∀ oj, ops[j]? = some oj → ∀ e ∈ oj.after, Region.binds .any e = true → listed.getD e.on false = true) → tiedN ops m n j = false
  | 0, _, _ => rfl
  | n + 1, j, hj => by
    simp only [tiedN]
    split
    · rename_i oj hoj
      refine Bool.eq_false_iff.2 fun h => ?_
      obtain ⟨e, he, hb⟩ := Array.any_eq_true'.1 h
      simp only [Bool.and_eq_true, Bool.or_eq_true, beq_iff_eq] at hb
      have h1 := getD_ft (hj oj hoj e he hb.1)
      rcases hb.2 with h2 | h2
      · rw [h2, hm] at h1; cases h1
      · rw [tiedN_false hD hm n e.on fun oj' hoj' e' he' hb' => hD e.on oj' hoj' h1 e' he' hb'] at h2
        cases h2
    · rfl
theorem Down.next {listed : Array Bool} (hD : Down ops listed) {i : Nat} (hi : i ∈ Region.ready .any ops listed) : Down ops (listed.setIfInBounds i true) := by
  intro j oj hj hl e he hb
  by_cases hij : i = j
  · subst hij
    obtain ⟨_, o, ho, hall⟩ := mem_ready.1 hi
    rw [hj] at ho
    cases ho
    exact getD_set_true (hall e he hb)
  · rw [getD_set_ne true hij] at hl
    exact getD_set_true (hD j oj hj hl e he hb)

variable {P : Program}
/-- An operation that is ready, that nothing disturbs, can be taken first. -/
theorem anyK_takeT {m : Nat} {om : Oper} {v : Value} (hm : ops[m]? = some om) (hsel : Region.noSelect ops = true) {Q : Act → World → Prop} {K K' : Nat → Nat → Prop} {B : Nat → Prop} (hK : ∀ i b, K i b → K' i b) :
    ∀ (fuel : Nat) (listed : Array Bool) (a : Act) (w : World), Down ops listed →
      (∀ j oj, ops[j]? = some oj → j ≠ m → listed.getD j true = false → tiedT ops m j = false → om.apart ops oj = true ∧ ∀ b, B b → K' j b) →
      m ∈ Region.ready .any ops listed → YieldsIn P ops om v a B w → anyK P ops Q K' fuel (listed.setIfInBounds m true) (a.put om.dst v) w → anyK P ops Q K (fuel + 1) listed a w := by
  have self : ∀ (fuel : Nat) (listed : Array Bool) (a : Act) (w : World), YieldsIn P ops om v a B w → anyK P ops Q K' fuel (listed.setIfInBounds m true) (a.put om.dst v) w →
      opDoes P ops m (fun a' w' => keeps (K m) w w' ∧ anyK P ops Q K fuel (listed.setIfInBounds m true) a' w') a w := fun fuel listed a w hy H => by
    refine ⟨om, hm, ?_⟩
    rcases hy with ⟨h1, h2⟩ | ⟨h1, rfl⟩
    · exact .inr ⟨h1, .inl ⟨.value v, w, v, h2 w (.refl w), .inl rfl, .refl w, H.mono hK⟩⟩
    · exact .inl ⟨h1, .refl w, H.mono hK⟩
  intro fuel
  induction fuel with
  | zero =>
    intro listed a w _ _ hr hy H
    refine ⟨fun h => (by rw [h] at hr; cases hr), fun j hj => ?_⟩
    by_cases hji : j = m
    · subst hji; exact self 0 listed a w hy H
    · have := ready_mono hj hji
      rw [H.1] at this
      cases this
  | succ fuel ih =>
    intro listed a w hD hfree hr hy H
    refine ⟨fun h => (by rw [h] at hr; cases hr), fun j hj => ?_⟩
    by_cases hji : j = m
    · subst hji; exact self _ listed a w hy H
    · have h1 := H.2 j (ready_mono hj hji)
      obtain ⟨hjun, oj, hoj, hall⟩ := mem_ready.1 hj
      have hnot : tiedT ops m j = false := tiedN_false hD (mem_ready.1 hr).1 _ j fun oj' hoj' => by
        rw [hoj] at hoj'; cases hoj'; exact hall
      obtain ⟨hap, hB⟩ := hfree j oj hoj hji hjun hnot
      have h2 := opDoes_put hoj hap (fun cs b => Region.noSelect_spec hsel m om cs b hm) (fun cs b => Region.noSelect_spec hsel j oj cs b hoj) hy h1
      refine h2.mono fun a' w' ⟨hy', hk, H'⟩ => ⟨fun b hb => hk b (hK j b hb), ?_⟩
      refine ih (listed.setIfInBounds j true) a' w' (hD.next hj) (fun k ok hk hki hun hno => ?_) (ready_mono hr (Ne.symm hji)) (hy'.later fun b hb => hk b (hB b hb)) ?_
      · refine hfree k ok hk hki ?_ hno
        by_cases hjk : j = k
        · subst hjk; exact hjun
        · rw [getD_set_ne true hjk] at hun; exact hun
      · rw [Array.setIfInBounds_comm _ _ hji]
        exact H'
end

noncomputable def bothL {α : Type} : List (Option α) → Option α
  | [] => none
  | [x] => x
  | x :: y :: l => both x (bothL (y :: l))
theorem bothL_some {α : Type} {r : α} : ∀ {l : List (Option α)}, bothL l = some r → ∀ x ∈ l, x = some r
  | [], h => by cases h
  | [x], h => by simpa [bothL] using h
  | x :: y :: l, h => by
    simp only [bothL] at h
    obtain ⟨h1, h2⟩ := both_some h
    intro z hz
    rcases List.mem_cons.1 hz with rfl | hz
    · exact h1
    · exact bothL_some h2 z hz

section
variable {β : Type}
noncomputable def Wt.fix (A : Wt) (t : Nat) (b : Bool) : Wt := { A with tm := put t (.c (.v (.bool b))) A.tm }
/-- an operation's guard -/
noncomputable def wantsK (A : Wt) (ops : Array Oper) (o : Oper) (yes no : Wt → Option β) : Option β := match o.guard with
  | none => yes A
  | some (j, want) => match (ops[j]?).bind (·.dst) with
    | some t => match A.get t with
      | .c (.v (.bool b)) => brA b (match want with | true => yes (A.fix t true) | false => no (A.fix t true)) (match want with | true => no (A.fix t false) | false => yes (A.fix t false))
      | .c (.v (.tuple _)) => no A
      | _ => none
    | none => no A
variable (E : Env) (T : List Ctr)
noncomputable def runOpsW (h : Hint) (ops : Array Oper) : List Oper → Wt → (Wt → Option β) → Option β
  | [], A, K => K A
  | o :: l, A, K => wantsK A ops o (fun A => opStepW E T h A o fun A => runOpsW h ops l A K) (fun A => runOpsW h ops l (A.dst o.dst (.c (.v undef))) K)

/-- an operation that may be taken first -/
noncomputable def takeS (A : Wt) (o : Oper) : Bool := match o.op with
  | .load _ _ => true | .fieldAddr _ _ _ => true | .nilCheck _ => true
  | .call c => (match c.callee with | .builtin .len => true | _ => false)
  | .binOp _ _ _ _ _ => !nilTest A o | .unOp _ _ _ => true | .index _ _ _ => true
  | .convert _ _ x => (match A.ev x with | .c (.v _) => true | _ => false)
  | _ => stillOp o.op
noncomputable def safeAll (h : Hint) (ops : Array Oper) (i : Nat) (A : Wt) (o : Oper) : List (Nat × Nat) → Option β → Option β
  | [], X => X
  | p :: l, X => if tiedT ops p.1 i then safeAll h ops i A o l X else safeK E h A o (A.get p.2) (safeAll h ops i A o l X)
/-- the slot of a variable that is made -/
def allocSlot (o : Oper) : Option Nat := match o.op with
  | .alloc _ => o.dst
  | _ => none
def Wt.forget (A : Wt) (ts : List Nat) : Wt := { A with tm := A.tm.filter fun p => !ts.contains p.1 }
noncomputable def waitsFor (o : Oper) (d : Nat) : Bool := o.after.any fun e => Region.binds .any e && e.on == d
/-- variable d may be made later: what needs it waits for operation i -/
noncomputable def delayOk (P : Program) (ops : Array Oper) (listed : Array Bool) (A : Wt) (i d : Nat) : Bool := match ops[d]? with
  | some o => (match o.op, o.dst, o.guard with
    | .alloc e, some t, none => (zeroCells P e).isSome && (look t A.tm).isNone && (List.range ops.size).all fun k => listed.getD k true || k == d || (match ops[k]? with
      | some ok => ok.dst != some t && (!waitsFor ok d || tiedT ops i k)
      | none => true)
    | _, _, _ => false)
  | none => false
noncomputable def isAllocAt (ops : Array Oper) (i : Nat) : Bool := match ops[i]? with
  | some o => (allocSlot o).isSome
  | none => false
noncomputable def pickOne (P : Program) (ops : Array Oper) (listed : Array Bool) (A : Wt) (rs : List Nat) : Option Nat :=
  match (match rs.filter (fun i => !isAllocAt ops i) with
    | [i] => some i
    | [] => rs.head?
    | _ => none) with
  | some i => if rs.all (fun d => d == i || delayOk P ops listed A i d) then some i else none
  | none => none
noncomputable def runDrawW (h : Hint) (ops : Array Oper) : Nat → Array Bool → List (Nat × Nat) → Wt → (Wt → Option β) → Option β
  | 0, listed, _, A, K => if (Region.ready .any ops listed).isEmpty then K A else none
  | fuel + 1, listed, pend, A, K =>
    let rs := Region.ready .any ops listed
    let one := fun i => match ops[i]? with
      | some o => wantsK A ops o (fun A => brA (takeS A o) (opStepW E T h A o fun A => runDrawW h ops fuel (listed.setIfInBounds i true) pend A K) (safeAll E h ops i A o pend (opStepW E T h A o fun A => runDrawW h ops fuel (listed.setIfInBounds i true) pend A K)))
          (fun A => runDrawW h ops fuel (listed.setIfInBounds i true) pend (A.dst o.dst (.c (.v undef))) K)
      | none => none
    match rs with
    | [] => K A
    | [i] => one i
    | rs => match rs.find? (fun i => match ops[i]? with | some o => takeS A o && Region.free .any ops listed i && slotSafe ops listed o | none => false) with
      | some i => (match ops[i]? with
        | some o => wantsK A ops o (fun A => brA (takeS A o) (opStepW E T h A o fun A => runDrawW h ops fuel (listed.setIfInBounds i true) (match addrSlot o with | some t => (i, t) :: pend | none => pend) A K) none)
            (fun A => runDrawW h ops fuel (listed.setIfInBounds i true) pend (A.dst o.dst (.c (.v undef))) K)
        | none => none)
      | none => match pickOne E.P ops listed A rs with
        | some i => one i
        | none => bothL (rs.map one)
noncomputable def drawW (h : Hint) (ops : Array Oper) (A : Wt) (K : Wt → Option β) : Option β :=
  if Region.noSelect ops then runDrawW E T h ops ops.size (Array.replicate ops.size false) [] (A.forget (ops.toList.filterMap allocSlot)) K else none
end

section
variable {E : Env} {T : List Ctr} {β : Type} {r : β} {γ0 : Gh} {w0 : World} {n : Nat} {A : Wt} {a : Act} {w : World} {o : Oper} {h : Hint} {K : Wt → Option β} {pr : List Nat} {pv : Nat → Value} {ops : Array Oper}
theorem fix_inv (hI : Inv γ0 w0 n A.enc a w) {t : Nat} {b : Bool} (ht : A.get t = .c (.v (.bool b))) : Inv γ0 w0 n (A.fix t b).enc a w := by
  obtain ⟨⟨γ, hR, hH⟩, hd, hs⟩ := hI
  refine ⟨⟨γ, ⟨fun s x hx => ?_, hR.bx, hR.ob, hR.zt, hR.lt⟩, hH⟩, hd, hs⟩
  have hx : look s (encL TW.enc (put t (.c (.v (.bool b))) A.tm)) = some x := hx
  rw [put_encL, look_put] at hx
  split at hx
  · rename_i e
    cases hx
    subst e
    have := hR.eval (d := []) (.tmp s)
    rw [← A.ev_enc] at this
    simp only [Wt.ev, ht, Act.eval] at this
    exact this
  · exact hR.tm s x hx
theorem wantsK_ok {yes no : Wt → Option β} (hw : wantsK A ops o yes no = some r) (hI : InvP γ0 w0 n pr pv A.enc a w) :
    ∃ A' b, Region.wanted o (yielded ops a.tmps) = b ∧ InvP γ0 w0 n pr pv A'.enc a w ∧ (if b then yes A' = some r else no A' = some r) := by
  unfold wantsK at hw
  split at hw
  · rename_i hg
    exact ⟨A, true, by unfold Region.wanted; rw [hg], hI, by simpa using hw⟩
  · rename_i j want hg
    split at hw
    · rename_i t ht
      split at hw
      · rename_i b hb
        have hwant : Region.wanted o (yielded ops a.tmps) = (b == want) := by
          refine wants_ok (A := A.enc) ?_ hI.1
          unfold wants
          rw [hg]
          dsimp only
          rw [ht]
          dsimp only
          rw [← A.get_enc, hb]; rfl
        rcases br_some hw with ⟨rfl, hw2⟩ | ⟨rfl, hw2⟩
        · refine ⟨A.fix t true, _, hwant, ⟨fix_inv hI.1 hb, hI.2⟩, ?_⟩
          cases want <;> simpa using hw2
        · refine ⟨A.fix t false, _, hwant, ⟨fix_inv hI.1 hb, hI.2⟩, ?_⟩
          cases want <;> simpa using hw2
      · rename_i hb
        refine ⟨A, false, ?_, hI, by simpa using hw⟩
        refine wants_ok (A := A.enc) ?_ hI.1
        unfold wants
        rw [hg]
        dsimp only
        rw [ht]
        dsimp only
        rw [← A.get_enc, hb]; rfl
      · cases hw
    · rename_i ht
      refine ⟨A, false, ?_, hI, by simpa using hw⟩
      refine wants_ok (A := A.enc) ?_ hI.1
      unfold wants
      rw [hg]
      dsimp only
      rw [ht]
theorem undef_inv (hI : InvP γ0 w0 n pr pv A.enc a w) (hd : ∀ t, o.dst = some t → t < n) (hp : ∀ t ∈ pr, (a.put o.dst undef).tmps.getD t undef = pv t) : InvP γ0 w0 n pr pv (A.dst o.dst (.c (.v undef))).enc (a.put o.dst undef) w := by
  refine ⟨?_, hp⟩
  obtain ⟨γ, hR, hH⟩ := hI.1.ex
  rw [dstv_enc]
  exact hI.1.finish hd ⟨γ, hR, hH, rfl⟩
theorem does_wp {Q : Exit → Act → World → Prop} {K0 : Act → World → Prop}
    (h : (∃ r w' v, (execOp a.eval o).run E.P w = .ok r w' ∧ (r = .value v ∨ r = .skip ∧ v = undef) ∧ K0 (a.put o.dst v) w') ∨
      ∃ f args, (execOp a.eval o).run E.P w = .ok (.enter f args) w ∧ Calls E.P f args w fun e w' => ∃ v, e = .returned v ∧ K0 (a.put o.dst v) w') : o.wp E.P a w K0 Q := by
  unfold Oper.wp
  rcases h with ⟨r, w', v, h1, h2, h3⟩ | ⟨f, args, h1, h2⟩
  · rw [h1]
    rcases h2 with rfl | ⟨rfl, rfl⟩
    · exact h3
    · exact h3
  · rw [h1]
    refine h2.mono fun e w' he => ?_
    obtain ⟨v, rfl, hk⟩ := he
    exact hk
theorem runOpsW_wp (hT : ∀ c ∈ T, c.Ok E) (hPk : PkOk E γ0 w0) (hd : OpsOk n pr ops) {Q : Exit → Act → World → Prop} (hQ : ∀ A' a' w', K A' = some r → InvP γ0 w0 n pr pv A'.enc a' w' → Q .normal a' w') :
    ∀ (k m : Nat) (A : Wt) (a : Act) (w : World), ops.size = k + m → runOpsW E T h ops (ops.toList.drop k) A K = some r → InvP γ0 w0 n pr pv A.enc a w →
      wpOps E.P ops Q (List.range' k m) a w
  | k, 0, A, a, w, hk, hr, hI => by
    have : ops.toList.drop k = [] := by simp; omega
    rw [this] at hr
    exact hQ _ _ _ hr hI
  | k, m + 1, A, a, w, hk, hr, hI => by
    have hlt : k < ops.size := by omega
    have e1 : ops.toList.drop k = ops[k] :: ops.toList.drop (k + 1) := by
      rw [List.drop_eq_getElem_cons (by simpa using hlt)]
      simp
    rw [e1] at hr
    simp only [runOpsW] at hr
    have hmem : ops[k] ∈ ops := Array.getElem_mem hlt
    have e2 : ops[k]? = some ops[k] := Array.getElem?_eq_getElem hlt
    have hdk : ∀ t, ops[k].dst = some t → t < n := fun t ht => (hd _ hmem t ht).1
    simp only [List.range'_succ, wpOps, e2]
    obtain ⟨B, b, hw, hIB, hr⟩ := wantsK_ok hr hI
    rw [hw]
    cases b
    · simp only [Bool.false_eq_true, if_false] at hr ⊢
      exact runOpsW_wp hT hPk hd hQ (k + 1) m _ _ w (by omega) hr (undef_inv hIB hdk (hd.keep hmem hIB.2))
    · simp only [if_true] at hr ⊢
      obtain ⟨A', hK', hdo⟩ := opStepW_does hT hPk hr hIB.1 hdk
      refine .inl (does_wp ?_)
      rcases hdo with ⟨r, w', v, h1, h2, h3, _⟩ | ⟨f, args, h1, h2⟩
      · exact .inl ⟨r, w', v, h1, h2, runOpsW_wp hT hPk hd hQ (k + 1) m _ _ w' (by omega) hK' ⟨h3, hd.keep hmem hIB.2⟩⟩
      · exact .inr ⟨f, args, h1, h2.mono fun e w' ⟨v, he, h3, _⟩ => ⟨v, he, runOpsW_wp hT hPk hd hQ (k + 1) m _ _ w' (by omega) hK' ⟨h3, hd.keep hmem hIB.2⟩⟩⟩
end
end Go.Tree
namespace Go.Tree
set_option linter.unusedVariables false
set_option linter.unusedSimpArgs false
set_option linter.constructorNameAsVariable false
set_option maxHeartbeats 200000

/-- A variable that lies in memory already. -/
theorem Rel.adopt {γ : Gh} {A : St} {tmps : Array Value} {w : World} (h : Rel γ A tmps w) (t : Nat) (e : TypeId) {l : List AV} {cs : List Value} (hl : Cells γ w l cs) (hk : ∀ a ∈ l, t ∉ a.bxs)
    {blk : Nat} (hb : w.heap[blk]? = some (.cells cs.toArray e (0, 0))) (ht : γ.tg blk = none) (hz : ¬ γ.z blk) :
    let γ' := { γ with bb := upd γ.bb t blk, tg := upd γ.tg blk (some (.bx t)) }
    Rel γ' (A.newBox t l) tmps w := by
  intro γ'
  have tgo : ∀ b, b ≠ blk → γ'.tg b = γ.tg b := fun b hb => upd_ne _ _ hb
  have noOb : ∀ o, ¬ γ.inOb o blk := fun o h => by rcases h with h | ⟨i, h⟩ <;> rw [ht] at h <;> cases h
  have ne_of : ∀ {o b}, γ.inOb o b → b ≠ blk := fun h e => noOb _ (e ▸ h)
  have L : ∀ a : AV, t ∉ a.bxs → Leans γ w γ' w a := fun a ha =>
    ⟨fun b hb hlt => ⟨rfl, by
      rcases hb with hz | ⟨p, hp, hpb⟩
      · exact .inl hz
      · exact .inr ⟨p, hp, by unfold Gh.inOb; rw [tgo b (ne_of hpb)]; exact hpb⟩⟩,
    fun b hb hlt => ⟨rfl, hb⟩, fun o _ => ⟨rfl, rfl⟩, fun o i _ => ⟨rfl, rfl⟩, fun b hb => upd_ne _ _ (fun e => ha (e ▸ hb))⟩
  have hm := h.map (forgets_killIf fun a => a.bxs.contains t)
  have nb : ∀ a ∈ (A.map (killBox t)).avs, t ∉ a.bxs := fun a ha => by
    obtain ⟨b, rfl⟩ := forgets_avs (forgets_killIf _) A (a := a) ha
    have := killIf_not (p := fun a : AV => a.bxs.contains t) (b := b) (by simp [AV.bxs])
    simpa using this
  have zt : ∀ b, γ'.z b → γ'.tg b = none := fun b hzb => by rw [tgo b (fun e => hz (e ▸ hzb))]; exact h.zt b hzb
  have lt : ∀ b, γ'.z b ∨ γ'.tg b ≠ none → b < w.heap.size := fun b hbb => by
    by_cases e : b = blk
    · subst e; exact heap_lt hb
    · rw [tgo b e] at hbb; exact h.lt b hbb
  refine ⟨fun s x hx => ?_, fun b l' hb' => ?_, fun o l' ho => ?_, zt, lt⟩
  · exact (hm.tm s x hx).mono fun a y ha hy => hy.move (L a (nb a (List.mem_append_left _ (List.mem_flatMap.2 ⟨_, mem_of_look hx, ha⟩))))
  · simp only [St.newBox, look] at hb'
    split at hb'
    · rename_i e'
      cases hb'
      subst e'
      refine ⟨cs, e, ?_, ?_, hl.mono fun a y ha hy => hy.move (L a (hk a ha))⟩
      · show w.heap[upd γ.bb t blk t]? = _
        rw [upd_same]; exact hb
      · show upd γ.tg blk _ (upd γ.bb t blk t) = _
        rw [upd_same, upd_same]
    · rename_i e'
      rw [look_drop, if_neg (Ne.symm e')] at hb'
      have hbx := hm.bx b l' hb'
      refine hbx.move ?_ (upd_ne _ _ (Ne.symm e')) fun a ha => L a (nb a (List.mem_append_right _ (List.mem_flatMap.2 ⟨_, mem_of_look hb', ha⟩)))
      obtain ⟨cs', e2, h1, h2, h3⟩ := hbx
      exact ⟨rfl, tgo _ (fun e => by rw [e, ht] at h2; cases h2)⟩
  · exact (h.ob o l' ho).move (fun b hb hlt => ⟨rfl, tgo b (ne_of hb)⟩) ⟨rfl, rfl⟩ fun i => ⟨rfl, rfl⟩

/-- variables M that have been made ahead of time: nothing speaks of them yet -/
def Made (P : Program) (ops : Array Oper) (M : List Nat) (bl : Nat → Nat) (s0 : Nat) (γ : Gh) (a : Act) (w : World) : Prop :=
  (∀ m ∈ M, ∃ o t e z, ops[m]? = some o ∧ o.op = .alloc e ∧ o.dst = some t ∧ o.guard = none ∧ zeroCells P e = some z ∧
    a.tmps.getD t undef = .pointer (some ⟨bl m, 0, none⟩) ∧ w.heap[bl m]? = some (.cells z.toArray e (0, 0)) ∧ s0 ≤ bl m ∧ γ.tg (bl m) = none ∧ ¬ γ.z (bl m)) ∧
  ∀ m ∈ M, ∀ m' ∈ M, bl m = bl m' → m = m'
structure InvD (P : Program) (ops : Array Oper) (γ0 : Gh) (w0 : World) (n : Nat) (pr : List Nat) (pv : Nat → Value) (A : St) (M : List Nat) (a : Act) (w : World) : Prop where
  ex : ∃ γ bl, Rel γ A a.tmps w ∧ Hist γ0 w0 γ w ∧ Made P ops M bl w0.heap.size γ a w
  df : a.defers = []
  sz : a.tmps.size = n
  pp : ∀ t ∈ pr, a.tmps.getD t undef = pv t
section
variable {P : Program} {ops : Array Oper} {γ0 : Gh} {w0 : World} {n : Nat} {pr : List Nat} {pv : Nat → Value} {A : St} {M : List Nat} {a : Act} {w : World}
theorem InvP.toD (h : InvP γ0 w0 n pr pv A a w) : InvD P ops γ0 w0 n pr pv A [] a w := by
  obtain ⟨⟨⟨γ, hR, hH⟩, hd, hs⟩, hp⟩ := h
  exact ⟨⟨γ, fun _ => 0, hR, hH, ⟨fun m hm => (List.not_mem_nil hm).elim, fun m hm => (List.not_mem_nil hm).elim⟩⟩, hd, hs, hp⟩
theorem InvD.toP (h : InvD P ops γ0 w0 n pr pv A M a w) : InvP γ0 w0 n pr pv A a w := by
  obtain ⟨⟨γ, bl, hR, hH, _⟩, hd, hs, hp⟩ := h
  exact ⟨⟨⟨γ, hR, hH⟩, hd, hs⟩, hp⟩
/-- what was made ahead stays as it is -/
theorem InvD.base (h : InvD P ops γ0 w0 n pr pv A M a w) : ∃ γ, Hist γ0 w0 γ w ∧ InvP γ w n pr pv A a w ∧ ∀ A' a' w', InvP γ w n pr pv A' a' w' →
    (∀ m ∈ M, ∀ o t, ops[m]? = some o → o.dst = some t → a'.tmps.getD t undef = a.tmps.getD t undef) → InvD P ops γ0 w0 n pr pv A' M a' w' := by
  obtain ⟨⟨γ, bl, hR, hH, hM, hi⟩, hd, hs, hp⟩ := h
  refine ⟨γ, hH, ⟨⟨⟨γ, hR, Hist.refl γ w⟩, hd, hs⟩, hp⟩, fun A' a' w' ⟨⟨⟨γ', hR', hH'⟩, hd', hs'⟩, hp'⟩ hslot => ⟨⟨γ', bl, hR', hH.trans hH', fun m hm => ?_, hi⟩, hd', hs', hp'⟩⟩
  obtain ⟨o, t, e, z, h1, h2, h3, h4, h5, h6, h7, h8, h9, h10⟩ := hM m hm
  have hb := hH'.block (bl m) (heap_lt h7) h9
  refine ⟨o, t, e, z, h1, h2, h3, h4, h5, by rw [hslot m hm o t h1 h3]; exact h6, by rw [hb.1]; exact h7, h8, hb.2, fun hz => ?_⟩
  rcases hH'.z (bl m) (heap_lt h7) hz with h | h
  · exact h10 h
  · exact h h9
/-- a variable is made ahead of time -/
theorem InvD.make (h : InvD P ops γ0 w0 n pr pv A M a w) {m : Nat} {o : Oper} {t : Nat} {e : TypeId} {z : List Value} (ho : ops[m]? = some o) (hop : o.op = .alloc e) (hdst : o.dst = some t) (hg : o.guard = none) (hz : zeroCells P e = some z)
    (hn : look t A.tm = none) (ht : t < n) (hpr : t ∉ pr) (hM : ∀ m' ∈ M, m' ≠ m ∧ ∀ o' t', ops[m']? = some o' → o'.dst = some t' → t' ≠ t) :
    ∃ v w', (execOp a.eval o).run P w = .ok (.value v) w' ∧ InvD P ops γ0 w0 n pr pv A (m :: M) (a.put o.dst v) w' ∧ w.heap.size ≤ w'.heap.size ∧ ∀ b, b < w.heap.size → w'.heap[b]? = w.heap[b]? := by
  obtain ⟨⟨γ, bl, hR, hH, hMd, hi⟩, hd, hs, hp⟩ := h
  obtain ⟨i, v, h1, h2, h3, h4⟩ := zero_info hz
  have e1 : v.cells = z.toArray := by rw [← h3]
  have zlt : ∀ b, γ.z b → b < w.heap.size := fun b hb => hR.lt b (.inl hb)
  have tlt : ∀ b, γ.tg b ≠ none → b < w.heap.size := fun b hb => hR.lt b (.inr hb)
  have ft : γ.tg w.heap.size = none := Classical.byContradiction fun h => absurd (tlt _ h) (Nat.lt_irrefl _)
  have fz : ¬ γ.z w.heap.size := fun h => absurd (zlt _ h) (Nat.lt_irrefl _)
  have Lf : ∀ a : AV, Leans γ w γ (w.alloc (.cells z.toArray e)) a := fun a => ⟨fun b hb hlt => ⟨heap_alloc _ _ _ hlt, hb⟩, fun b hb hlt => ⟨heap_alloc _ _ _ hlt, hb⟩, fun o _ => ⟨rfl, rfl⟩, fun o i _ => ⟨rfl, rfl⟩, fun b hb => rfl⟩
  have hput : ∀ s, s ≠ t → ∀ u, (a.put o.dst u).tmps.getD s undef = a.tmps.getD s undef := fun s hs u => put_getD (by rw [hdst]; exact fun h => hs (by cases h; rfl))
  refine ⟨.pointer (some ⟨w.heap.size, 0, none⟩), w.alloc (.cells z.toArray e), ?_, ⟨⟨γ, fun k => if k = m then w.heap.size else bl k, ⟨fun s x hx => ?_, fun b l hl => ?_, fun o' l hl => ?_, hR.zt, fun b hb => by simp only [World.size_alloc]; have := hR.lt b hb; omega⟩,
    hH.trans ⟨by simp, rfl, rfl, rfl, fun b hb ht' => ⟨heap_alloc _ _ _ hb, ht'⟩, fun b _ hz => .inl hz⟩, fun k hk => ?_, fun k hk k' hk' e' => ?_⟩, ?_, ?_, fun s hs' => ?_⟩, by simp, fun b hb => heap_alloc _ _ _ hb⟩
  · simp [execOp, hop, Instr.alloc, zeroValue, typeInfo, h1, h2, run_newVar, e1]
  · have hst : s ≠ t := fun e' => by rw [e', hn] at hx; cases hx
    rw [hput s hst]
    exact (hR.tm s x hx).mono fun a y _ hy => hy.move (Lf a)
  · obtain ⟨cs', e2, q1, q2, q3⟩ := hR.bx b l hl
    exact (hR.bx b l hl).move ⟨heap_alloc _ _ _ (heap_lt q1), rfl⟩ rfl fun a _ => Lf a
  · exact (hR.ob o' l hl).move (fun b hb hlt => ⟨heap_alloc _ _ _ hlt, rfl⟩) ⟨rfl, rfl⟩ fun i => ⟨rfl, rfl⟩
  · by_cases hkm : k = m
    · subst hkm
      refine ⟨o, t, e, z, ho, hop, hdst, hg, hz, ?_, ?_, ?_, ?_, ?_⟩
      · simp only [if_true]
        have : t < a.tmps.size := by omega
        simp [Act.put, hdst, this]
      · simp only [if_true]; exact heap_alloc_self _ _
      · simp only [if_true]; exact hH.size
      · simp only [if_true]; exact ft
      · simp only [if_true]; exact fz
    · have hkM : k ∈ M := by simpa [hkm] using hk
      obtain ⟨o', t', e', z', q1, q2, q3, q4, q5, q6, q7, q8, q9, q10⟩ := hMd k hkM
      simp only [if_neg hkm]
      exact ⟨o', t', e', z', q1, q2, q3, q4, q5, by rw [hput t' ((hM k hkM).2 o' t' q1 q3)]; exact q6, by rw [heap_alloc _ _ _ (heap_lt q7)]; exact q7, q8, q9, q10⟩
  · have lt' : ∀ k ∈ M, bl k < w.heap.size := fun k hk => by
      obtain ⟨o', t', e', z', q1, q2, q3, q4, q5, q6, q7, _⟩ := hMd k hk
      exact heap_lt q7
    simp only [List.mem_cons] at hk hk'
    by_cases hkm : k = m <;> by_cases hkm' : k' = m
    · rw [hkm, hkm']
    · have := lt' k' (by simpa [hkm'] using hk'); simp only [if_pos hkm, if_neg hkm'] at e'; omega
    · have := lt' k (by simpa [hkm] using hk); simp only [if_neg hkm, if_pos hkm'] at e'; omega
    · simp only [if_neg hkm, if_neg hkm'] at e'
      exact hi k (by simpa [hkm] using hk) k' (by simpa [hkm'] using hk') e'
  · show (a.put o.dst _).defers = []
    rw [hdst]; exact hd
  · rw [hdst]; simp [Act.put, hs]
  · rw [hput s (fun e' => hpr (e' ▸ hs'))]; exact hp s hs'
/-- the evaluator comes to a variable that has been made -/
theorem InvD.take (h : InvD P ops γ0 w0 n pr pv A M a w) {m : Nat} (hm : m ∈ M) {o : Oper} {t : Nat} {e : TypeId} {z : List Value} (ho : ops[m]? = some o) (hop : o.op = .alloc e) (hdst : o.dst = some t) (hz : zeroCells P e = some z) :
    InvD P ops γ0 w0 n pr pv ((A.newBox t (z.map cellAV)).dst (some t) (.c (.box t 0))) (M.filter fun k => k != m) a w := by
  obtain ⟨⟨γ, bl, hR, hH, hMd, hi⟩, hd, hs, hp⟩ := h
  obtain ⟨o', t', e', z', h1, h2, h3, h4, h5, h6, h7, h8, h9, h10⟩ := hMd m hm
  rw [ho] at h1; cases h1
  rw [hop] at h2; cases h2
  rw [hdst] at h3; cases h3
  rw [hz] at h5; cases h5
  obtain ⟨i, v, _, _, _, hall⟩ := zero_info hz
  have hk : ∀ x ∈ z.map cellAV, t ∉ x.bxs := fun x hx => by
    simp only [List.mem_map] at hx
    obtain ⟨y, _, rfl⟩ := hx
    unfold cellAV; split <;> simp [AV.bxs]
  have hR' := hR.adopt t e (cells_vals (γ := γ) (w := w) z hall) hk h7 h9 h10
  refine ⟨⟨_, bl, ⟨fun s x hx => ?_, hR'.bx, hR'.ob, hR'.zt, hR'.lt⟩, ⟨hH.size, hH.os, hH.tape, hH.output, fun b hb ht => ⟨(hH.block b hb ht).1, ?_⟩, hH.z⟩, fun k hk => ?_, fun k hk k' hk' => hi k (List.mem_filter.1 hk).1 k' (List.mem_filter.1 hk').1⟩, hd, hs, hp⟩
  · simp only [St.dst, look_put] at hx
    split at hx
    · rename_i e'
      cases hx
      subst e'
      show _ = Value.pointer (some ⟨upd γ.bb s (bl m) s, 0, none⟩)
      rw [upd_same]; exact h6
    · exact hR'.tm s x hx
  · have hne : b ≠ bl m := by omega
    show upd γ.tg (bl m) _ b = none
    rw [upd_ne _ _ hne]; exact (hH.block b hb ht).2
  · obtain ⟨hkM, hkm⟩ := List.mem_filter.1 hk
    have hkm : k ≠ m := by simpa using hkm
    obtain ⟨o', t', e', z', q1, q2, q3, q4, q5, q6, q7, q8, q9, q10⟩ := hMd k hkM
    exact ⟨o', t', e', z', q1, q2, q3, q4, q5, q6, q7, q8, by show upd γ.tg (bl m) _ (bl k) = none; rw [upd_ne _ _ (fun e' => hkm (hi k hkM m hm e'))]; exact q9, q10⟩
theorem encL_filter {α β : Type} (f : α → β) (p : Nat → Bool) : ∀ l : List (Nat × α), encL f (l.filter fun q => p q.1) = (encL f l).filter fun q => p q.1
  | [] => rfl
  | (m, a) :: l => by
    have ih := encL_filter f p l
    simp only [encL] at ih ⊢
    rw [List.filter_cons, List.map_cons, List.filter_cons]
    by_cases h : p m = true
    · rw [if_pos h, if_pos h, List.map_cons, ih]
    · rw [if_neg h, if_neg h, ih]
theorem InvP.forget {B : Wt} {ts : List Nat} (h : InvP γ0 w0 n pr pv B.enc a w) : InvP γ0 w0 n pr pv (B.forget ts).enc a w := by
  obtain ⟨⟨⟨γ, hR, hH⟩, hd, hs⟩, hp⟩ := h
  refine ⟨⟨⟨γ, ⟨fun s x hx => ?_, hR.bx, hR.ob, hR.zt, hR.lt⟩, hH⟩, hd, hs⟩, hp⟩
  have hx : look s (encL TW.enc (B.tm.filter fun p => !ts.contains p.1)) = some x := hx
  rw [encL_filter TW.enc (fun k => !ts.contains k), look_filter (fun k => !ts.contains k)] at hx
  split at hx
  · exact hR.tm s x hx
  · cases hx
end

/-- how many operations are left -/
noncomputable def left (ops : Array Oper) (L : Array Bool) : Nat := (List.range ops.size).countP fun k => !L.getD k true
theorem countP_less {p q : Nat → Bool} : ∀ {l : List Nat} {i : Nat}, i ∈ l → p i = false → q i = true → (∀ k ∈ l, p k = true → q k = true) → l.countP p + 1 ≤ l.countP q
  | a :: l, i, hi, hp, hq, h => by
    rw [List.countP_cons, List.countP_cons]
    by_cases e : i = a
    · subst e
      rw [hp, hq]
      have := List.countP_mono_left (l := l) (p := p) (q := q) fun k hk => h k (List.mem_cons_of_mem _ hk)
      simp; omega
    · have hi' : i ∈ l := by simpa [e] using hi
      have := countP_less hi' hp hq fun k hk => h k (List.mem_cons_of_mem _ hk)
      have ha := h a (by simp)
      cases hpa : p a
      · cases hqa : q a <;> simp <;> omega
      · rw [ha hpa]; simp; omega
theorem left_set {ops : Array Oper} {L : Array Bool} {i : Nat} (hi : i < ops.size) (h : L.getD i true = false) : left ops (L.setIfInBounds i true) + 1 ≤ left ops L := by
  refine countP_less (List.mem_range.2 hi) ?_ ?_ fun k _ hk => ?_
  · simp only [Bool.not_eq_false']
    simp only [Array.getD_eq_getD_getElem?, Array.getElem?_setIfInBounds, if_true]
    split <;> rfl
  · simp only [h, Bool.not_false]
  · by_cases e : i = k
    · subst e; simp only [h, Bool.not_false]
    · rwa [getD_set_ne true e] at hk
end Go.Tree
namespace Go.Tree
set_option linter.unusedVariables false
set_option linter.unusedSimpArgs false
set_option linter.constructorNameAsVariable false
set_option maxHeartbeats 200000

section
variable {E : Env} {T : List Ctr} {β : Type} {r : β} {γ0 : Gh} {w0 : World} {n : Nat} {A : Wt} {a : Act} {w : World} {o : Oper} {h : Hint} {K : Wt → Option β} {pr : List Nat} {pv : Nat → Value} {ops : Array Oper}
theorem takeS_take (ht : takeS A o = true) {A' : St} (hop : aop E.P h A.enc o = some A') : takeable E.P A.enc o = true := by
  unfold takeS at ht
  unfold takeable
  split at ht <;> rename_i e <;> try (rw [e]; done)
  · rw [e]; exact ht
  · rw [e]
    dsimp only
    have : plainOp E.P A.enc o = some A' := by rw [← hop]; unfold aop; rw [e]
    rw [this]; simp
  · rw [e]
    dsimp only
    have : plainOp E.P A.enc o = some A' := by rw [← hop]; unfold aop; rw [e]
    rw [this]; simp
  · rw [e]
    dsimp only
    have : plainOp E.P A.enc o = some A' := by rw [← hop]; unfold aop; rw [e]
    rw [this]; simp
  · rename_i s d x e
    rw [e]
    dsimp only
    split at ht
    · rename_i v hx
      have : plainOp E.P A.enc o = some A' := by rw [← hop]; unfold aop; rw [e]; dsimp only; rw [ev_c_enc hx]; rfl
      rw [this]; simp
    · cases ht
  · split
    · rfl
    · rfl
    · rfl
    · rename_i c e; exact (‹∀ (c : Call), o.op = Op.call c → False› c e).elim
    · rw [ht]; rfl
theorem takeS_aop {A' : Wt} (ht : takeS A o = true) (hs : opStepW E T h A o K = some r) : ∃ A' : Wt, K A' = some r ∧ aop E.P h A.enc o = some A'.enc := by
  rw [opStepW_eq] at hs
  unfold opStepW0 at hs
  split at hs
  · rename_i hnt
    unfold nilTest at hnt
    split at hnt
    · rename_i hop
      unfold takeS at ht
      rw [hop] at ht
      dsimp only at ht
      unfold nilTest at ht
      rw [hop] at ht
      dsimp only at ht
      rw [hnt] at ht
      cases ht
    · cases hnt
  split at hs
  · rename_i c e
    split at hs
    · rename_i g e'
      unfold takeS at ht
      rw [e] at ht
      dsimp only at ht
      rw [e'] at ht
      cases ht
    · obtain ⟨B, h1, h2⟩ := aopW_sound hs; exact ⟨B, h2, h1⟩
  · obtain ⟨B, h1, h2⟩ := aopW_sound hs; exact ⟨B, h2, h1⟩

/-- the blocks that operation i has to leave alone -/
def KofT (ops : Array Oper) (pend : List (Nat × Nat)) (a : Act) : Nat → Nat → Prop := fun i b => ∃ p ∈ pend, tiedT ops p.1 i = false ∧ ∃ off, a.tmps.getD p.2 undef = .pointer (some ⟨b, off, none⟩)
theorem safeAll_some {i : Nat} : ∀ {pend : List (Nat × Nat)} {X : Option β}, safeAll E h ops i A o pend X = some r → X = some r ∧ ∀ b, KofT ops pend a i b → safeAt E h A.enc o a b
  | [], X, hs => ⟨hs, fun b ⟨p, hp, _⟩ => by cases hp⟩
  | p :: l, X, hs => by
    simp only [safeAll] at hs
    split at hs
    · rename_i ht
      obtain ⟨h1, h2⟩ := safeAll_some hs
      refine ⟨h1, fun b ⟨q, hq, h3, h4⟩ => ?_⟩
      rcases List.mem_cons.1 hq with rfl | hq
      · rw [ht] at h3; cases h3
      · exact h2 b ⟨q, hq, h3, h4⟩
    · obtain ⟨h0, h5⟩ := safeK_some hs
      obtain ⟨h1, h2⟩ := safeAll_some h0
      refine ⟨h1, fun b ⟨q, hq, h3, off, h4⟩ => ?_⟩
      rcases List.mem_cons.1 hq with rfl | hq
      · exact ⟨q.2, off, h4, by rw [← A.get_enc]; exact h5⟩
      · exact h2 b ⟨q, hq, h3, off, h4⟩

/-- the blocks of what has been loaded lie in memory -/
def InMem (pend : List (Nat × Nat)) (a : Act) (w : World) : Prop := ∀ p ∈ pend, ∀ b off, a.tmps.getD p.2 undef = .pointer (some ⟨b, off, none⟩) → b < w.heap.size
theorem load_lt {A A' : St} (hI : Inv γ0 w0 n A a w) {t : TypeId} {x : Operand} (e : o.op = .load t x) (hop : aop E.P h A o = some A') {b off : Nat} (hx : a.eval x = .pointer (some ⟨b, off, none⟩)) : b < w.heap.size := by
  unfold aop at hop
  rw [e] at hop
  dsimp only at hop
  split at hop
  · rename_i v hv
    split at hop
    · cases hop
    · rename_i hne
      split at hop
      · rename_i l hl
        obtain ⟨γ, hR, hH⟩ := hI.ex
        have hvr : AVrep γ w v (a.eval x) := by
          have := hR.eval (d := a.defers) x
          rw [hv] at this
          exact this
        obtain ⟨blk, off', h1, h2⟩ := block_rep hR hvr hl hne
        rw [hx] at h1
        cases h1
        rcases h2 with h2 | ⟨o, _, h2 | ⟨i, h2⟩⟩ | ⟨x, _, h2⟩
        · exact hR.lt b (.inl h2)
        · exact hR.lt b (.inr (by rw [h2]; simp))
        · exact hR.lt b (.inr (by rw [h2]; simp))
        · exact hR.lt b (.inr (by rw [h2]; simp))
      · cases hop
  · cases hop
theorem eq_of_getD {L l : Array Bool} (h1 : L.size = l.size) (h : ∀ k, k < l.size → L.getD k true = l.getD k true) : L = l := by
  apply Array.ext h1
  intro i hi hi'
  have := h i hi'
  simpa [hi, hi'] using this
theorem InvP.grown (hI : InvP γ0 w0 n pr pv A.enc a w) : w0.heap.size ≤ w.heap.size := by
  obtain ⟨γ, _, hH⟩ := hI.1.ex
  exact hH.size

set_option maxHeartbeats 4000000 in
theorem runDrawW_any (hT : ∀ c ∈ T, c.Ok E) (hPk : PkOk E γ0 w0) (hsel : Region.noSelect ops = true) (hd : OpsOk n pr ops)
    {Q : Act → World → Prop} (hQ : ∀ A' a' w', K A' = some r → InvP γ0 w0 n pr pv A'.enc a' w' → Q a' w') :
    ∀ (N f g : Nat) (listed L : Array Bool) (pend : List (Nat × Nat)) (A : Wt) (M : List Nat) (a : Act) (w : World), f + g ≤ N → runDrawW E T h ops f listed pend A K = some r → InvD E.P ops γ0 w0 n pr pv A.enc M a w → Down ops listed →
      listed.size = ops.size → L.size = ops.size → (∀ k, k < ops.size → L.getD k true = (listed.getD k true || decide (k ∈ M))) → (∀ m ∈ M, m ∈ Region.ready .any ops listed) →
      (∀ m ∈ M, ∀ om t, ops[m]? = some om → om.dst = some t → ∀ k ok, listed.getD k true = false → k ≠ m → ops[k]? = some ok → ok.dst ≠ some t) →
      (∀ p ∈ pend, ∀ k ok, listed.getD k true = false → ops[k]? = some ok → ok.dst ≠ some p.2) → InMem pend a w → left ops L ≤ g → anyK E.P ops Q (KofT ops pend a) g L a w
  | 0, f, g, listed, L, pend, A, M, a, w, hN, hr, hI, hD, hs1, hs2, hL, hMr, hMs, hp, hmem, hg => by
    obtain ⟨rfl, rfl⟩ : f = 0 ∧ g = 0 := by omega
    simp only [runDrawW] at hr
    split at hr
    · rename_i he
      have he : Region.ready .any ops listed = [] := by simpa using he
      have hM0 : M = [] := by
        cases M with
        | nil => rfl
        | cons m M => have := hMr m (by simp); rw [he] at this; cases this
      subst hM0
      have : L = listed := eq_of_getD (by omega) fun k hk => by rw [hL k (by omega)]; simp
      subst this
      exact ⟨he, hQ _ _ _ hr hI.toP⟩
    · cases hr
  | N + 1, f, g, listed, L, pend, A, M, a, w, hN, hr, hI, hD, hs1, hs2, hL, hMr, hMs, hp, hmem, hg => by
    have unL : ∀ k, L.getD k true = false → listed.getD k true = false ∧ k ∉ M := fun k hk => by
      have hk' : k < ops.size := by
        rcases Nat.lt_or_ge k L.size with h | h
        · omega
        · simp [Array.getElem?_eq_none h] at hk
      rw [hL k hk'] at hk
      simpa using hk
    have later : ∀ i oi, ops[i]? = some oi → listed.getD i true = false → ∀ v, ∀ j b, KofT ops pend (a.put oi.dst v) j b ↔ KofT ops pend a j b := fun i oi hi hun v j b => by
      unfold KofT
      constructor
      · rintro ⟨p, h1, h2, off, h3⟩
        rw [put_getD (hp p h1 i oi hun hi)] at h3
        exact ⟨p, h1, h2, off, h3⟩
      · rintro ⟨p, h1, h2, off, h3⟩
        exact ⟨p, h1, h2, off, by rw [put_getD (hp p h1 i oi hun hi)]; exact h3⟩
    have unl : ∀ i k, (listed.setIfInBounds i true).getD k true = false → listed.getD k true = false := fun i k hk => by
      by_cases e : i = k
      · subst e; rw [getD_set_self] at hk; cases hk
      · rwa [getD_set_ne true e] at hk
    have memS : ∀ i oi, ops[i]? = some oi → listed.getD i true = false → ∀ v w', w.heap.size ≤ w'.heap.size → InMem pend (a.put oi.dst v) w' := fun i oi hi hun v w' hle p hpm b off hb => by
      rw [put_getD (hp p hpm i oi hun hi)] at hb
      exact Nat.lt_of_lt_of_le (hmem p hpm b off hb) hle
    have sizes : ∀ i, (listed.setIfInBounds i true).size = ops.size ∧ (L.setIfInBounds i true).size = ops.size := fun i => ⟨by simpa using hs1, by simpa using hs2⟩
    -- listed in both
    have hLset : ∀ i, ∀ k, k < ops.size → (L.setIfInBounds i true).getD k true = ((listed.setIfInBounds i true).getD k true || decide (k ∈ M)) := fun i k hk => by
      by_cases e : i = k
      · subst e; rw [getD_set_self, getD_set_self]; rfl
      · rw [getD_set_ne true e, getD_set_ne true e]; exact hL k hk
    have hMr' : ∀ i, i ∉ M → ∀ m ∈ M, m ∈ Region.ready .any ops (listed.setIfInBounds i true) := fun i hi m hm => ready_mono (hMr m hm) (fun e => hi (e ▸ hm))
    have hMs' : ∀ i, ∀ m ∈ M, ∀ om t, ops[m]? = some om → om.dst = some t → ∀ k ok, (listed.setIfInBounds i true).getD k true = false → k ≠ m → ops[k]? = some ok → ok.dst ≠ some t := fun i m hm om t h1 h2 k ok hk => hMs m hm om t h1 h2 k ok (unl i k hk)
    have slotM : ∀ i oi, ops[i]? = some oi → listed.getD i true = false → i ∉ M → ∀ v, ∀ m ∈ M, ∀ o t, ops[m]? = some o → o.dst = some t → (a.put oi.dst v).tmps.getD t undef = a.tmps.getD t undef := fun i oi hi hun hiM v m hm o t h1 h2 => put_getD (hMs m hm o t h1 h2 i oi hun (fun e => hiM (e ▸ hm)) hi)
    have pend' : ∀ i, ∀ p ∈ pend, ∀ k ok, (listed.setIfInBounds i true).getD k true = false → ops[k]? = some ok → ok.dst ≠ some p.2 := fun i p hpm k ok hk hok => hp p hpm k ok (unl i k hk) hok
    have DownL : Down ops L := fun j oj hj hl e he hb => by
      have key : ∀ q, q < ops.size → listed.getD q false = true → L.getD q false = true := fun q hq h => by
        have h' := getD_ft h
        have := hL q hq
        rw [h', Bool.true_or] at this
        have hq2 : q < L.size := by omega
        simpa [hq2] using this
      have lts : ∀ q, listed.getD q false = true → q < ops.size := fun q h => by
        rcases Nat.lt_or_ge q listed.size with h' | h'
        · omega
        · simp [Array.getElem?_eq_none h'] at h
      have hjl : j < ops.size := (Array.getElem?_eq_some_iff.1 hj).1
      rw [hL j hjl] at hl
      rcases Bool.or_eq_true _ _ ▸ hl with hl | hl
      · have := hD j oj hj hl e he hb; exact key _ (lts _ this) this
      · obtain ⟨_, o, ho, hall⟩ := mem_ready.1 (hMr j (by simpa using hl))
        rw [hj] at ho; cases ho
        have := hall e he hb; exact key _ (lts _ this) this
    have gpos : ∀ i, i < ops.size → L.getD i true = false → ∃ g', g = g' + 1 ∧ left ops (L.setIfInBounds i true) ≤ g' := fun i hi h => by
      have := left_set hi h
      exact ⟨g - 1, by omega, by omega⟩
    -- one operation that is next for both
    have one : ∀ f', f' + 1 = f → ∀ i ∈ Region.ready .any ops listed, i ∉ M → ∀ g', g = g' + 1 → left ops (L.setIfInBounds i true) ≤ g' → (match ops[i]? with
        | some o => wantsK A ops o (fun A => brA (takeS A o) (opStepW E T h A o fun A => runDrawW E T h ops f' (listed.setIfInBounds i true) pend A K) (safeAll E h ops i A o pend (opStepW E T h A o fun A => runDrawW E T h ops f' (listed.setIfInBounds i true) pend A K)))
          (fun A => runDrawW E T h ops f' (listed.setIfInBounds i true) pend (A.dst o.dst (.c (.v undef))) K)
        | none => none) = some r → opDoes E.P ops i (fun a' w' => keeps (KofT ops pend a i) w w' ∧ anyK E.P ops Q (KofT ops pend a) g' (L.setIfInBounds i true) a' w') a w := fun f' hf i hmemr hiM g' hg' hleft hr => by
      obtain ⟨hun, oi, hoi, hall⟩ := mem_ready.1 hmemr
      have hmo : oi ∈ ops := by
        obtain ⟨hlt, e⟩ := Array.getElem?_eq_some_iff.1 hoi
        exact e ▸ Array.getElem_mem hlt
      have hdi : ∀ t, oi.dst = some t → t < n := fun t ht => (hd _ hmo t ht).1
      obtain ⟨γ, hHb, hI0, back⟩ := hI.base
      have next : ∀ (B : Wt) (v : Value) (w' : World), runDrawW E T h ops f' (listed.setIfInBounds i true) pend B K = some r → InvP γ w n pr pv B.enc (a.put oi.dst v) w' → anyK E.P ops Q (KofT ops pend a) g' (L.setIfInBounds i true) (a.put oi.dst v) w' := fun B v w' hrB hIB =>
        (runDrawW_any hT hPk hsel hd hQ N f' g' _ _ _ _ M _ w' (by omega) hrB (back _ _ _ hIB (slotM i oi hoi hun hiM v)) (hD.next hmemr) (sizes i).1 (sizes i).2 (hLset i) (hMr' i hiM) (hMs' i) (pend' i) (memS i oi hoi hun v w' hIB.grown) hleft).mono fun j b hb => (later i oi hoi hun v j b).2 hb
      rw [hoi] at hr
      dsimp only at hr
      refine ⟨oi, hoi, ?_⟩
      obtain ⟨B, b, hw, hIB, hr⟩ := wantsK_ok hr hI0
      cases b
      · simp only [Bool.false_eq_true, if_false] at hr
        exact .inl ⟨hw, .refl w, next _ _ _ hr (undef_inv hIB hdi (hd.keep hmo hIB.2))⟩
      · simp only [if_true] at hr
        refine .inr ⟨hw, ?_⟩
        rcases br_some hr with ⟨htk, hr⟩ | ⟨_, hr⟩
        · have hr : opStepW E T h B oi _ = some r := hr
          obtain ⟨A', hK', haop⟩ := takeS_aop (A' := B) htk hr
          rcases takeable_keeps (takeS_take htk haop) haop hIB.1 hdi with ⟨u, h1, h2⟩ | ⟨t, x, blk, off, u, e, h1, h2, h3⟩
          · exact .inl ⟨.value u, w, u, h1 w, .inl rfl, .refl w, next _ _ _ hK' ⟨h2, hd.keep hmo hIB.2⟩⟩
          · exact .inl ⟨.value u, w, u, h2 w rfl, .inl rfl, .refl w, next _ _ _ hK' ⟨h3, hd.keep hmo hIB.2⟩⟩
        · obtain ⟨hr, hsafe⟩ := safeAll_some (a := a) hr
          obtain ⟨A', hK', hdo⟩ := opStepW_does hT (hPk.hist hHb) hr hIB.1 hdi
          rcases hdo with ⟨r, w', v, h1, h2, h3, h4⟩ | ⟨f, args, h1, h2⟩
          · exact .inl ⟨r, w', v, h1, h2, fun b hb => h4 b (hsafe b hb), next _ _ _ hK' ⟨h3, hd.keep hmo hIB.2⟩⟩
          · exact .inr ⟨f, args, h1, h2.mono fun e w' ⟨v, he, h3, h4⟩ => ⟨v, he, fun b hb => h4 b (hsafe b hb), next _ _ _ hK' ⟨h3, hd.keep hmo hIB.2⟩⟩⟩
    -- a variable that has been made already
    have virt : ∀ f', f' + 1 = f → ∀ i ∈ M, (match ops[i]? with
        | some o => wantsK A ops o (fun A => brA (takeS A o) (opStepW E T h A o fun A => runDrawW E T h ops f' (listed.setIfInBounds i true) pend A K) (safeAll E h ops i A o pend (opStepW E T h A o fun A => runDrawW E T h ops f' (listed.setIfInBounds i true) pend A K)))
          (fun A => runDrawW E T h ops f' (listed.setIfInBounds i true) pend (A.dst o.dst (.c (.v undef))) K)
        | none => none) = some r → anyK E.P ops Q (KofT ops pend a) g L a w := fun f' hf i hiM hr => by
      obtain ⟨oi, t, e, z, h1, h2, h3, h4, h5⟩ : ∃ o t e z, ops[i]? = some o ∧ o.op = .alloc e ∧ o.dst = some t ∧ o.guard = none ∧ zeroCells E.P e = some z := by
        obtain ⟨γ, bl, _, _, hM, _⟩ := hI.ex
        obtain ⟨o, t, e, z, h1, h2, h3, h4, h5, _⟩ := hM i hiM
        exact ⟨o, t, e, z, h1, h2, h3, h4, h5⟩
      rw [h1] at hr
      dsimp only at hr
      have hr : brA (takeS A oi) (opStepW E T h A oi fun A => runDrawW E T h ops f' (listed.setIfInBounds i true) pend A K) (safeAll E h ops i A oi pend (opStepW E T h A oi fun A => runDrawW E T h ops f' (listed.setIfInBounds i true) pend A K)) = some r := by
        simpa only [wantsK, h4] using hr
      have hnt : takeS A oi = false := by simp [takeS, h2, stillOp]
      rw [hnt] at hr
      dsimp only [brA] at hr
      obtain ⟨hr, _⟩ := safeAll_some (a := a) hr
      have hstep : aopW E.P h A oi (fun A => runDrawW E T h ops f' (listed.setIfInBounds i true) pend A K) = some r := by
        unfold opStepW at hr
        rw [h2] at hr
        exact hr
      obtain ⟨A', hop, hK'⟩ := aopW_sound hstep
      have hA' : A'.enc = (A.enc.newBox t (z.map cellAV)).dst (some t) (.c (.box t 0)) := by
        unfold aop at hop
        simp only [h2, h3, h5] at hop
        exact (Option.some.inj hop).symm
      have hI' := hI.take hiM h1 h2 h3 h5
      rw [← hA'] at hI'
      refine runDrawW_any hT hPk hsel hd hQ N f' g _ L _ _ (M.filter fun k => k != i) a w (by omega) hK' hI' (hD.next (hMr i hiM)) (sizes i).1 hs2 (fun k hk => ?_) (fun m hm => ready_mono (hMr m (List.mem_filter.1 hm).1) (by simpa using (List.mem_filter.1 hm).2)) (fun m hm om t h1 h2 k ok hk => hMs m (List.mem_filter.1 hm).1 om t h1 h2 k ok (unl i k hk)) (pend' i) hmem hg
      by_cases e : i = k
      · subst e
        rw [getD_set_self, hL i hk]
        simp [hiM]
      · rw [getD_set_ne true e, hL k hk]
        have : (k ∈ M.filter fun k => k != i) ↔ k ∈ M := by simp [Ne.symm e]
        simp only [this]
    match f with
    | 0 =>
      simp only [runDrawW] at hr
      split at hr
      · rename_i he
        have he : Region.ready .any ops listed = [] := by simpa using he
        have hM0 : M = [] := by
          cases M with
          | nil => rfl
          | cons m M => have := hMr m (by simp); rw [he] at this; cases this
        subst hM0
        have : L = listed := eq_of_getD (by omega) fun k hk => by rw [hL k (by omega)]; simp
        subst this
        cases g with
        | zero => exact ⟨he, hQ _ _ _ hr hI.toP⟩
        | succ g => exact ⟨fun _ => hQ _ _ _ hr hI.toP, fun i hi => by rw [he] at hi; cases hi⟩
      · cases hr
    | f + 1 =>
    have hr0 := hr
    simp only [runDrawW] at hr
    -- nothing has been made ahead
    have none_made : M = [] → L = listed := fun e => by
      subst e
      exact eq_of_getD (by omega) fun k hk => by rw [hL k (by omega)]; simp
    have readyL : ∀ i ∈ Region.ready .any ops listed, i ∉ M → i < ops.size ∧ L.getD i true = false := fun i hi hiM => by
      obtain ⟨hun, oi, hoi, _⟩ := mem_ready.1 hi
      have hlt := (Array.getElem?_eq_some_iff.1 hoi).1
      exact ⟨hlt, by rw [hL i hlt, hun]; simp [hiM]⟩
    -- all orders
    have each : (∀ j ∈ Region.ready .any ops listed, (match ops[j]? with
        | some o => wantsK A ops o (fun A => brA (takeS A o) (opStepW E T h A o fun A => runDrawW E T h ops f (listed.setIfInBounds j true) pend A K) (safeAll E h ops j A o pend (opStepW E T h A o fun A => runDrawW E T h ops f (listed.setIfInBounds j true) pend A K)))
          (fun A => runDrawW E T h ops f (listed.setIfInBounds j true) pend (A.dst o.dst (.c (.v undef))) K)
        | none => none) = some r) → Region.ready .any ops listed ≠ [] → anyK E.P ops Q (KofT ops pend a) g L a w := fun hall hne => by
      by_cases hM0 : M = []
      · have e := none_made hM0
        subst e
        obtain ⟨i0, hi0⟩ := List.exists_mem_of_ne_nil _ hne
        obtain ⟨g', rfl, _⟩ := gpos i0 (readyL i0 hi0 (by simp [hM0])).1 (readyL i0 hi0 (by simp [hM0])).2
        refine ⟨fun h0 => (hne h0).elim, fun j hj => ?_⟩
        have hj' := readyL j hj (by simp [hM0])
        have := left_set hj'.1 hj'.2
        exact one f rfl j hj (by simp [hM0]) g' rfl (by omega) (hall j hj)
      · obtain ⟨d, hdM⟩ := List.exists_mem_of_ne_nil _ hM0
        exact virt f rfl d hdM (hall d (hMr d hdM))
    split at hr
    · rename_i hrs
      have hM0 : M = [] := by
        cases M with
        | nil => rfl
        | cons m M => have := hMr m (by simp); rw [hrs] at this; cases this
      have e := none_made hM0
      subst e
      cases g with
      | zero => exact ⟨hrs, hQ _ _ _ hr hI.toP⟩
      | succ g => exact ⟨fun _ => hQ _ _ _ hr hI.toP, fun i hi => by rw [hrs] at hi; cases hi⟩
    · rename_i i hrs
      refine each (fun j hj => ?_) (by rw [hrs]; simp)
      rw [hrs] at hj
      obtain rfl : j = i := by simpa using hj
      exact hr
    · rename_i rs hne hno1
      split at hr
      · -- an operation that is taken first
        rename_i i hf
        have hmemr := List.mem_of_find?_eq_some hf
        have hcond := List.find?_some hf
        obtain ⟨hun, oi, hoi, hall⟩ := mem_ready.1 hmemr
        rw [hoi] at hcond hr
        simp only [Bool.and_eq_true] at hcond
        obtain ⟨⟨htake, hfree⟩, hslot⟩ := hcond
        have hiM : i ∉ M := fun hm => by
          obtain ⟨γ, bl, _, _, hM, _⟩ := hI.ex
          obtain ⟨o, t, e, z, h1, h2, _⟩ := hM i hm
          rw [hoi] at h1
          cases h1
          simp [takeS, h2, stillOp] at htake
        obtain ⟨hilt, hiL⟩ := readyL i hmemr hiM
        obtain ⟨g', rfl, hleft⟩ := gpos i hilt hiL
        have hmo : oi ∈ ops := by
          obtain ⟨hlt, e⟩ := Array.getElem?_eq_some_iff.1 hoi
          exact e ▸ Array.getElem_mem hlt
        have hdi : ∀ t, oi.dst = some t → t < n := fun t ht => (hd _ hmo t ht).1
        have readyLi : i ∈ Region.ready .any ops L := by
          refine mem_ready.2 ⟨hiL, oi, hoi, fun e he hb => ?_⟩
          have h1 := hall e he hb
          have hlt : e.on < ops.size := by
            rcases Nat.lt_or_ge e.on listed.size with h' | h'
            · omega
            · simp [Array.getElem?_eq_none h'] at h1
          have h2 := hL e.on hlt
          rw [getD_ft h1, Bool.true_or] at h2
          have hlt2 : e.on < L.size := by omega
          simpa [hlt2] using h2
        have slots : ∀ t, addrSlot oi = some t → ∀ k ok, listed.getD k true = false → ops[k]? = some ok → ok.dst ≠ some t := fun t ht k ok hk hok => by
          unfold slotSafe at hslot
          rw [ht] at hslot
          simp only [List.all_eq_true, List.mem_range] at hslot
          have := hslot k (Array.getElem?_eq_some_iff.1 hok).1
          rw [hk, hok] at this
          simpa using this
        have pendN : ∀ p ∈ (match addrSlot oi with | some t => (i, t) :: pend | none => pend), ∀ k ok, (listed.setIfInBounds i true).getD k true = false → ops[k]? = some ok → ok.dst ≠ some p.2 := fun p hpm k ok hk hok => by
          cases hs : addrSlot oi with
          | none => rw [hs] at hpm; exact pend' i p hpm k ok hk hok
          | some t =>
            rw [hs] at hpm
            rcases List.mem_cons.1 hpm with rfl | hpm
            · exact slots t hs k ok (unl i k hk) hok
            · exact pend' i p hpm k ok hk hok
        have supK : ∀ v j b, KofT ops pend a j b → KofT ops (match addrSlot oi with | some t => (i, t) :: pend | none => pend) (a.put oi.dst v) j b := fun v j b hb => by
          have hb := (later i oi hoi hun v j b).2 hb
          cases hs : addrSlot oi with
          | none => exact hb
          | some t =>
            obtain ⟨p, h1, h2⟩ := hb
            exact ⟨p, List.mem_cons_of_mem _ h1, h2⟩
        have freeOf : ∀ j oj, ops[j]? = some oj → j ≠ i → L.getD j true = false → tiedT ops i j = false → oi.apart ops oj = true := fun j oj hj hne hunj hno => by
          refine Region.free_spec hoi hfree j oj hj hne (unL j hunj).1 fun e he hb heq => ?_
          unfold tiedT at hno
          have hsz : 0 < ops.size := Nat.lt_of_le_of_lt (Nat.zero_le _) (Array.getElem?_eq_some_iff.1 hj).1
          obtain ⟨N, hN⟩ : ∃ N, ops.size = N + 1 := ⟨ops.size - 1, by omega⟩
          rw [hN] at hno
          simp only [tiedN, hj] at hno
          have := (Array.any_eq_false.1 hno)
          obtain ⟨q, hq, e1⟩ := Array.mem_iff_getElem.1 he
          have := this q hq
          rw [e1] at this
          simp [hb, heq] at this
        dsimp only at hr
        obtain ⟨γ, hHb, hI0, back⟩ := hI.base
        obtain ⟨B, b, hw, hIB, hr⟩ := wantsK_ok hr hI0
        have nextp : ∀ (pd : List (Nat × Nat)) (B : Wt) (v : Value), runDrawW E T h ops f (listed.setIfInBounds i true) pd B K = some r → InvP γ w n pr pv B.enc (a.put oi.dst v) w →
            (∀ p ∈ pd, ∀ k ok, (listed.setIfInBounds i true).getD k true = false → ops[k]? = some ok → ok.dst ≠ some p.2) → InMem pd (a.put oi.dst v) w → anyK E.P ops Q (KofT ops pd (a.put oi.dst v)) g' (L.setIfInBounds i true) (a.put oi.dst v) w := fun pd B v hrB hIB hpd hmm =>
          runDrawW_any hT hPk hsel hd hQ N f g' _ _ _ _ M _ w (by omega) hrB (back _ _ _ hIB (slotM i oi hoi hun hiM v)) (hD.next hmemr) (sizes i).1 (sizes i).2 (hLset i) (hMr' i hiM) (hMs' i) hpd hmm hleft
        cases b
        · simp only [Bool.false_eq_true, if_false] at hr
          refine anyK_takeT hoi hsel (B := fun _ => False) (v := undef) (K' := KofT ops pend (a.put oi.dst undef)) (fun j b hb => (later i oi hoi hun undef j b).2 hb) g' L a w DownL (fun j oj hj hne hunj hno => ⟨freeOf j oj hj hne hunj hno, fun b hb => hb.elim⟩) readyLi (.inr ⟨hw, rfl⟩) ?_
          exact nextp pend _ _ hr (undef_inv hIB hdi (hd.keep hmo hIB.2)) (pend' i) (memS i oi hoi hun undef w (Nat.le_refl _))
        · simp only [if_true] at hr
          rcases br_some hr with ⟨hB, hr⟩ | ⟨_, hr⟩
          rotate_left
          · cases hr
          obtain ⟨A', hK', haop⟩ := takeS_aop (A' := B) hB hr
          have htk : takeable E.P B.enc oi = true := takeS_take hB haop
          rcases takeable_keeps htk haop hIB.1 hdi with ⟨u, h1, h2⟩ | ⟨t, x, blk, off, u, e, h1, h2, h3⟩
          · refine anyK_takeT hoi hsel (B := fun _ => False) (v := u) (supK u) g' L a w DownL (fun j oj hj hne hunj hno => ⟨freeOf j oj hj hne hunj hno, fun b hb => hb.elim⟩) readyLi (.inl ⟨hw, fun w' _ => h1 w'⟩) ?_
            refine nextp _ _ _ hK' ⟨h2, hd.keep hmo hIB.2⟩ pendN ?_
            have hm0 := memS i oi hoi hun u w (Nat.le_refl _)
            cases hs : addrSlot oi with
            | none => exact hm0
            | some s =>
              intro p hpm b off hb
              rcases List.mem_cons.1 hpm with rfl | hpm
              · obtain ⟨t, e⟩ : ∃ t, oi.op = .load t (.tmp s) := by
                  unfold addrSlot at hs
                  split at hs
                  · rename_i t x e; exact ⟨t, by simp_all⟩
                  · cases hs
                have hb' : a.tmps.getD s undef = .pointer (some ⟨b, off, none⟩) := by
                  rw [put_getD (slots s hs i oi hun hoi)] at hb; exact hb
                exact load_lt hIB.1 e haop (x := .tmp s) hb'
              · exact hm0 p hpm b off hb
          · have hs2 : ∃ t, addrSlot oi = some t ∧ x = .tmp t := by
              unfold slotSafe at hslot
              cases hs : addrSlot oi with
              | none => rw [hs] at hslot; rw [e] at hslot; cases hslot
              | some t =>
                refine ⟨t, rfl, ?_⟩
                unfold addrSlot at hs
                rw [e] at hs
                cases x <;> simp_all
            obtain ⟨s, hs, rfl⟩ := hs2
            refine anyK_takeT hoi hsel (B := fun b => b = blk) (v := u) (supK u) g' L a w DownL (fun j oj hj hne hunj hno => ⟨freeOf j oj hj hne hunj hno, fun b hb => ?_⟩) readyLi (.inl ⟨hw, fun w' hk => h2 w' (hk blk rfl)⟩) ?_
            · subst hb
              simp only [hs]
              refine ⟨(i, s), List.mem_cons_self, hno, off, ?_⟩
              rw [put_getD (slots s hs i oi hun hoi)]
              exact h1
            · refine nextp _ _ _ hK' ⟨h3, hd.keep hmo hIB.2⟩ pendN ?_
              have hm0 := memS i oi hoi hun u w (Nat.le_refl _)
              rw [hs]
              intro p hpm b off' hb
              rcases List.mem_cons.1 hpm with rfl | hpm
              · have hb' : a.tmps.getD s undef = .pointer (some ⟨b, off', none⟩) := by
                  rw [put_getD (slots s hs i oi hun hoi)] at hb; exact hb
                exact load_lt hIB.1 e haop (x := .tmp s) hb'
              · exact hm0 p hpm b off' hb
      · -- variables may be made later
        split at hr
        · rename_i i hpick
          unfold pickOne at hpick
          split at hpick
          · rename_i i' hi'
            split at hpick
            · rename_i hall
              cases hpick
              have hmemr : i ∈ Region.ready .any ops listed := by
                split at hi'
                · rename_i i2 he
                  cases hi'
                  have : i ∈ (Region.ready .any ops listed).filter (fun i => !isAllocAt ops i) := by rw [he]; simp
                  exact (List.mem_filter.1 this).1
                · exact List.mem_of_mem_head? hi'
                · cases hi'
              have hdel : ∀ d ∈ Region.ready .any ops listed, d ≠ i → delayOk E.P ops listed A i d = true := fun d hdm hne => by
                have := List.all_eq_true.1 hall d hdm
                simpa [hne] using this
              by_cases hiM : i ∈ M
              · exact virt f rfl i hiM hr
              · obtain ⟨hilt, hiL⟩ := readyL i hmemr hiM
                obtain ⟨g', rfl, hleft⟩ := gpos i hilt hiL
                have delay : ∀ d ∈ Region.ready .any ops listed, d ≠ i → ∃ o t e z, ops[d]? = some o ∧ o.op = .alloc e ∧ o.dst = some t ∧ o.guard = none ∧ zeroCells E.P e = some z ∧ look t A.tm = none ∧
                    ∀ k ok, listed.getD k true = false → k ≠ d → ops[k]? = some ok → ok.dst ≠ some t ∧ (waitsFor ok d = true → tiedT ops i k = true) := fun d hdm hne => by
                  have hk := hdel d hdm hne
                  unfold delayOk at hk
                  split at hk
                  · rename_i o ho
                    split at hk
                    · rename_i e t h1 h2 h3
                      simp only [Bool.and_eq_true] at hk
                      obtain ⟨⟨k1, k2⟩, k3⟩ := hk
                      obtain ⟨z, hz⟩ := Option.isSome_iff_exists.1 k1
                      refine ⟨o, t, e, z, ho, h1, h2, h3, hz, by simpa using k2, fun k ok hun hne' hok => ?_⟩
                      have hlt := (Array.getElem?_eq_some_iff.1 hok).1
                      have := List.all_eq_true.1 k3 k (List.mem_range.2 hlt)
                      rw [hun, hok] at this
                      simp only [Bool.false_or, Bool.or_eq_true, beq_iff_eq, hne', false_or, Bool.and_eq_true, bne_iff_ne, ne_eq, Bool.not_eq_true'] at this
                      refine ⟨this.1, fun hwt => ?_⟩
                      rcases this.2 with h | h
                      · rw [hwt] at h; cases h
                      · exact h
                    · cases hk
                  · cases hk
                have readyLi : i ∈ Region.ready .any ops L := by
                  obtain ⟨hun, oi, hoi, hall⟩ := mem_ready.1 hmemr
                  refine mem_ready.2 ⟨hiL, oi, hoi, fun e he hb => ?_⟩
                  have h1 := hall e he hb
                  have hlt : e.on < ops.size := by
                    rcases Nat.lt_or_ge e.on listed.size with h' | h'
                    · omega
                    · simp [Array.getElem?_eq_none h'] at h1
                  have h2 := hL e.on hlt
                  rw [getD_ft h1, Bool.true_or] at h2
                  have hlt2 : e.on < L.size := by omega
                  simpa [hlt2] using h2
                refine ⟨fun h0 => (by rw [h0] at readyLi; cases readyLi), fun j hj => ?_⟩
                obtain ⟨hjL, oj, hoj, hallj⟩ := mem_ready.1 hj
                obtain ⟨hjun, hjM⟩ := unL j hjL
                have hjlt := (Array.getElem?_eq_some_iff.1 hoj).1
                by_cases hji : j = i
                · subst hji; exact one f rfl j hmemr hiM g' rfl hleft hr
                · by_cases hjr : j ∈ Region.ready .any ops listed
                  · obtain ⟨o, t, e, z, q1, q2, q3, q4, q5, q6, q7⟩ := delay j hjr hji
                    rw [hoj] at q1
                    cases q1
                    have hmo : oj ∈ ops := by
                      obtain ⟨hlt, e⟩ := Array.getElem?_eq_some_iff.1 hoj
                      exact e ▸ Array.getElem_mem hlt
                    have hlk : look t A.enc.tm = none := by
                      show look t (encL TW.enc A.tm) = none
                      rw [look_encL, q6]; rfl
                    obtain ⟨v, w', k1, k2, k3, k4⟩ := hI.make hoj q2 q3 q4 q5 hlk (hd _ hmo t q3).1 (hd _ hmo t q3).2 (fun m' hm' => ⟨fun e => hjM (e ▸ hm'), fun o' t' h1 h2 e => by
                      subst e
                      exact hMs m' hm' o' t' h1 h2 j oj hjun (fun e => hjM (e ▸ hm')) hoj q3⟩)
                    have hw : Region.wanted oj (yielded ops a.tmps) = true := by unfold Region.wanted; rw [q4]
                    refine ⟨oj, hoj, .inr ⟨hw, .inl ⟨.value v, w', v, k1, .inl rfl, fun b hb => ?_, ?_⟩⟩⟩
                    · obtain ⟨p, hpm, _, off, hb⟩ := hb
                      exact k4 b (hmem p hpm b off hb)
                    · have hl2 := left_set hjlt hjL
                      refine (runDrawW_any hT hPk hsel hd hQ N (f + 1) g' listed (L.setIfInBounds j true) pend A (j :: M) _ w' (by omega) ?_ k2 hD hs1 (by simpa using hs2) (fun k hk => ?_) (fun m hm => ?_) (fun m hm om t' h1 h2 k ok hk hne' hok => ?_) hp (memS j oj hoj hjun v w' k3) (by omega)).mono fun j' b hb => (later j oj hoj hjun v j' b).2 hb
                      · exact hr0
                      · by_cases e : j = k
                        · subst e; rw [getD_set_self]; simp
                        · rw [getD_set_ne true e, hL k hk]
                          simp [Ne.symm e]
                      · rcases List.mem_cons.1 hm with rfl | hm
                        · exact hjr
                        · exact hMr m hm
                      · rcases List.mem_cons.1 hm with rfl | hm
                        · rw [hoj] at h1; cases h1
                          rw [q3] at h2; cases h2
                          exact (q7 k ok hk hne' hok).1
                        · exact hMs m hm om t' h1 h2 k ok hk hne' hok
                  · -- it needs a variable that was made ahead
                    exfalso
                    have : ∃ e ∈ oj.after, Region.binds .any e = true ∧ listed.getD e.on false = false := Classical.byContradiction fun hno => hjr (mem_ready.2 ⟨hjun, oj, hoj, fun e he hb => Classical.byContradiction fun h => hno ⟨e, he, hb, by simpa using h⟩⟩)
                    obtain ⟨e, he, hb, hel⟩ := this
                    have hLe := hallj e he hb
                    have hlt : e.on < ops.size := by
                      rcases Nat.lt_or_ge e.on L.size with h' | h'
                      · omega
                      · simp [Array.getElem?_eq_none h'] at hLe
                    have hLe' := hL e.on hlt
                    rw [getD_ft hLe] at hLe'
                    have hlt1 : e.on < listed.size := by omega
                    have hel' : listed.getD e.on true = false := by simpa [hlt1] using hel
                    rw [hel', Bool.false_or] at hLe'
                    have hdM : e.on ∈ M := by simpa using hLe'.symm
                    have hdi : e.on ≠ i := fun h => hiM (h ▸ hdM)
                    obtain ⟨o, t, e', z, q1, q2, q3, q4, q5, q6, q7⟩ := delay e.on (hMr _ hdM) hdi
                    have hwt : waitsFor oj e.on = true := by
                      unfold waitsFor
                      exact Array.any_eq_true'.2 ⟨e, he, by simp [hb]⟩
                    have ht := (q7 j oj hjun (fun h => hjM (h ▸ hdM)) hoj).2 hwt
                    have := tiedN_false DownL hiL ops.size j fun oj' hoj' => by rw [hoj] at hoj'; cases hoj'; exact hallj
                    unfold tiedT at ht
                    rw [this] at ht
                    cases ht
            · cases hpick
          · cases hpick
        · -- any of them
          have hall := bothL_some hr
          exact each (fun j hj => hall _ (List.mem_map.2 ⟨j, hj, rfl⟩)) hne
end
end Go.Tree
namespace Go.Tree
set_option linter.unusedVariables false
set_option linter.unusedSimpArgs false
set_option linter.constructorNameAsVariable false
set_option maxHeartbeats 200000

/- loops -/
def loopN {X Z : Type} (step : X → Option (X ⊕ Z)) : Nat → X → Option Z
  | 0, _ => none
  | n + 1, x => match step x with
    | some (.inl y) => loopN step n y
    | some (.inr z) => some z
    | none => none
theorem loopN_mono {X Z : Type} {step : X → Option (X ⊕ Z)} : ∀ {n m : Nat} {x : X} {z : Z}, n ≤ m → loopN step n x = some z → loopN step m x = some z
  | 0, _, _, _, _, h => by cases h
  | n + 1, 0, _, _, h, _ => absurd h (by omega)
  | n + 1, m + 1, x, z, hle, h => by
    simp only [loopN] at h ⊢
    split at h
    · rename_i y hy; exact loopN_mono (by omega) h
    · exact h
    · cases h
open Classical in
/-- a loop, as often as it goes round -/
noncomputable def loopC {X Z : Type} (step : X → Option (X ⊕ Z)) (x : X) : Option Z := if h : ∃ z, ∃ n, loopN step n x = some z then some (Classical.choose h) else none
theorem loopC_iff {X Z : Type} {step : X → Option (X ⊕ Z)} {x : X} {z : Z} : loopC step x = some z ↔ ∃ n, loopN step n x = some z := by
  unfold loopC
  constructor
  · intro h
    split at h
    · rename_i hx; cases h; exact Classical.choose_spec hx
    · cases h
  · rintro ⟨n, h⟩
    have hx : ∃ z, ∃ n, loopN step n x = some z := ⟨z, n, h⟩
    rw [dif_pos hx]
    obtain ⟨m, hm⟩ := Classical.choose_spec hx
    have h1 := loopN_mono (Nat.le_max_left n m) h
    have h2 := loopN_mono (Nat.le_max_right n m) hm
    rw [h1] at h2
    rw [Option.some.inj h2]
theorem loopC_eq {X Z : Type} (step : X → Option (X ⊕ Z)) (x : X) : loopC step x = match step x with | some (.inl y) => loopC step y | some (.inr z) => some z | none => none := by
  cases hs : step x with
  | none =>
    cases hl : loopC step x with
    | none => rfl
    | some z =>
      obtain ⟨n, hn⟩ := loopC_iff.1 hl
      cases n with
      | zero => cases hn
      | succ n => simp [loopN, hs] at hn
  | some s => cases s with
    | inr z => exact loopC_iff.2 ⟨1, by simp [loopN, hs]⟩
    | inl y =>
      dsimp only
      cases hl : loopC step y with
      | some z =>
        obtain ⟨n, hn⟩ := loopC_iff.1 hl
        exact loopC_iff.2 ⟨n + 1, by simp [loopN, hs, hn]⟩
      | none =>
        cases hl2 : loopC step x with
        | none => rfl
        | some z =>
          obtain ⟨n, hn⟩ := loopC_iff.1 hl2
          cases n with
          | zero => cases hn
          | succ n =>
            simp only [loopN, hs] at hn
            rw [loopC_iff.2 ⟨n, hn⟩] at hl
            cases hl
/-- a rule for loops: what holds at each head, and falls -/
theorem loopC_rule {X Z : Type} {step : X → Option (X ⊕ Z)} (I : X → Prop) (μ : X → Nat) (Q : Z → Prop)
    (hs : ∀ x, I x → (∃ y, step x = some (.inl y) ∧ I y ∧ μ y < μ x) ∨ ∃ z, step x = some (.inr z) ∧ Q z) : ∀ (n : Nat) (x : X), μ x ≤ n → I x → ∃ z, loopC step x = some z ∧ Q z := by
  intro n
  induction n with
  | zero =>
    intro x hx hI
    rw [loopC_eq]
    rcases hs x hI with ⟨y, h1, h2, h3⟩ | ⟨z, h1, h2⟩
    · omega
    · rw [h1]; exact ⟨z, rfl, h2⟩
  | succ n ih =>
    intro x hx hI
    rw [loopC_eq]
    rcases hs x hI with ⟨y, h1, h2, h3⟩ | ⟨z, h1, h2⟩
    · rw [h1]; exact ih y (by omega) h2
    · rw [h1]; exact ⟨z, rfl, h2⟩

abbrev Own := List (Pl × Nat × Ty)
def Sh.live (s : Sh) : List Nat := s.tm.map (·.1)
/-- the state, in the form of a shape -/
def Sh.fit (s : Sh) (own : Own) (A : Wt) : Option s.den := s.dec (canonW s.live (ownify own A))
structure Lp where
  k : Nat
  own : Own
  head : Sh
  back : Own
  exs : List (Ex × Own)
  res : List Sh
  F : head.den → Option (altDen res)
section
variable {β : Type}
def altKE : (res : List Sh) → List (Ex × Own) → altDen res → (Ex → Wt → Option β) → Option β
  | [s], [p], x, K => K p.1 (s.mk' x)
  | s :: t :: l, p :: q :: ps, x, K => match x with | .inl y => K p.1 (s.mk' y) | .inr y => altKE (t :: l) (q :: ps) y K
  | _, _, _, _ => none
def altDecE (e : Ex) (A : Wt) : (res : List Sh) → List (Ex × Own) → Option (altDen res)
  | [s], [p] => if p.1 = e then s.fit p.2 A else none
  | s :: t :: l, p :: q :: ps => match (if p.1 = e then s.fit p.2 A else none) with
    | some x => some (.inl x)
    | none => (altDecE e A (t :: l) (q :: ps)).map .inr
  | _, _ => none
def lpAt : List Lp → Nat → Option Lp
  | [], _ => none
  | L :: Ls, k => if L.k = k then some L else lpAt Ls k
def loopK (Ls : List Lp) (k : Nat) (A : Wt) (K : Ex → Wt → Option β) : Option β := match lpAt Ls k with
  | some L => match L.head.fit L.own A with
    | some x => (L.F x).bind fun y => altKE L.res L.exs y K
    | none => none
  | none => none
variable (E : Env) (T : List Ctr)
noncomputable def runCodeW (Ls : List Lp) (h : Hint) : Code → Nat → Wt → (Ex → Wt → Option β) → Option β
  | .skip, _, A, K => K .normal A
  | .seq a b, k, A, K => runCodeW Ls h a k A fun e A => match e with
    | .normal => runCodeW Ls h b k A K
    | e => K e A
  | .cond c a b, k, A, K => match A.ev c with
    | .c (.v (.bool t)) => match c with
      | .tmp s => brA t (runCodeW Ls h a k (A.fix s true) K) (runCodeW Ls h b k (A.fix s false) K)
      | _ => brA t (runCodeW Ls h a k A K) (runCodeW Ls h b k A K)
    | _ => none
  | .block id b, _, A, K => runCodeW Ls h b id A fun e A => match e with
    | .exit j => if j = id then K .normal A else K (.exit j) A
    | e => K e A
  | .exit id, _, A, K => K (.exit id) A
  | .ret, _, A, K => K .ret A
  | .loop b, k, A, K => loopK Ls k A K
  | .region _ ops d, _, A, K => match d with
    | true => drawW E T h ops A (K .normal)
    | false => runOpsW E T h ops ops.toList A (K .normal)
  | _, _, _, _ => none
/-- one round of a loop -/
noncomputable def stepW (Ls : List Lp) (h : Hint) (b : Code) (k : Nat) (head : Sh) (back : Own) (exs : List (Ex × Own)) (res : List Sh) (x : head.den) : Option (head.den ⊕ altDen res) :=
  runCodeW (β := head.den ⊕ altDen res) E T Ls h b k (head.mk' x) fun e A => match e with
    | .normal => (head.fit back A).map .inl
    | e => (altDecE e A res exs).map .inr
def loopsOf : Code → Nat → List (Nat × Code)
  | .seq a b, k => loopsOf a k ++ loopsOf b k
  | .cond _ a b, k => loopsOf a k ++ loopsOf b k
  | .block id b, _ => loopsOf b id
  | .loop b, k => (k, b) :: loopsOf b k
  | _, _ => []
def LoopsOk (Ls : List Lp) (h : Hint) (l : List (Nat × Code)) : Prop := ∀ p ∈ l, ∀ L, lpAt Ls p.1 = some L → ∀ x, L.F x = loopC (stepW E T Ls h p.2 p.1 L.head L.back L.exs L.res) x
noncomputable def resultsK (P : Program) (A : Wt) : List ResultVar → (List TW → Option β) → Option β
  | [], K => K []
  | .tmp t :: l, K => resultsK P A l fun rs => K (A.get t :: rs)
  | .cell a t :: l, K => match A.get a with
    | .c x => if P.cellsOf t = 0 then none else A.at (P.cellsOf t) x fun cs => (match cellsTW P t cs with
      | some y => resultsK P A l fun rs => K (y :: rs)
      | none => none)
    | _ => none
/-- what a function's body tells -/
noncomputable def runBodyW (Ls : List Lp) (h : Hint) (f : FuncId) (results : List ResultVar) (c : Code) (own : Own) (S : Wt) (res : List Sh) : Option (altDen res) :=
  runCodeW (β := altDen res) E T Ls h c 0 S fun e A => match e with
    | .exit _ => none
    | _ =>
      let A := ownify own A
      resultsK E.P A results fun rs =>
        let tvs := rs ++ (if E.mode f = 1 ∨ E.mode f = 2 then [A.get 0] else [])
        if tvs.all noBoxi && nodup (selObsW A tvs) && nodup (selBoxesW tvs) && rs.length == E.nres f then altDec res (packW A (selObsW A tvs) (selBoxesW tvs) tvs) else none
end

section
variable {E : Env} {T : List Ctr} {γ0 : Gh} {w0 : World} {n : Nat} {pr : List Nat} {pv : Nat → Value} {h : Hint} {Ls : List Lp} {A : Wt} {a : Act} {w : World}
theorem fit_inv {s : Sh} {own : Own} {x : s.den} (hI : InvP γ0 w0 n pr pv A.enc a w) (hf : s.fit own A = some x) : InvP γ0 w0 n pr pv (s.mk' x).enc a w := by
  refine ⟨?_, hI.2⟩
  obtain ⟨⟨γ, hR, hH⟩, hd, hs⟩ := hI.1
  obtain ⟨γ1, h1, h2⟩ := ownify_rel own hR
  have hI1 : Inv γ0 w0 n (ownify own A).enc a w := ⟨⟨γ1, h1, h2 _ _ hH⟩, hd, hs⟩
  have hI2 := hI1.canon s.live
  rw [← canonW_enc] at hI2
  obtain ⟨⟨γ2, h3, h4⟩, _, _⟩ := hI2
  exact ⟨⟨γ2, s.dec_rel h3 hf, h4⟩, hd, hs⟩
theorem altDecE_inv {e : Ex} (hI : InvP γ0 w0 n pr pv A.enc a w) : ∀ {res : List Sh} {exs : List (Ex × Own)} {z : altDen res}, altDecE e A res exs = some z → ∃ B : Wt, (∀ (β : Type) (K : Ex → Wt → Option β), altKE res exs z K = K e B) ∧ InvP γ0 w0 n pr pv B.enc a w
  | [s], [p], z, hz => by
    simp only [altDecE] at hz
    split at hz
    · rename_i he
      exact ⟨s.mk' z, fun β K => by simp only [altKE, he], fit_inv hI hz⟩
    · cases hz
  | s :: t :: l, p :: q :: ps, z, hz => by
    simp only [altDecE] at hz
    split at hz
    · rename_i x hx
      cases hz
      split at hx
      · rename_i he
        exact ⟨s.mk' x, fun β K => by simp only [altKE, he], fit_inv hI hx⟩
      · cases hx
    · simp only [Option.map_eq_some_iff] at hz
      obtain ⟨y, hy, rfl⟩ := hz
      obtain ⟨B, h1, h2⟩ := altDecE_inv hI (res := t :: l) (exs := q :: ps) hy
      exact ⟨B, fun β K => by simp only [altKE]; exact h1 β K, h2⟩
  | [], _, z, hz => by simp [altDecE] at hz
  | [s], [], z, hz => by simp [altDecE] at hz
  | [s], _ :: _ :: _, z, hz => by simp [altDecE] at hz
  | s :: t :: l, [], z, hz => by simp [altDecE] at hz
  | s :: t :: l, [_], z, hz => by simp [altDecE] at hz
theorem loopK_some {β : Type} {r : β} {k : Nat} {K : Ex → Wt → Option β} (hr : loopK Ls k A K = some r) : ∃ L, lpAt Ls k = some L ∧ ∃ x y, L.head.fit L.own A = some x ∧ L.F x = some y ∧ altKE L.res L.exs y K = some r := by
  unfold loopK at hr
  split at hr
  · rename_i L hL
    split at hr
    · rename_i x hx
      rw [Option.bind_eq_some_iff] at hr
      obtain ⟨y, h1, h2⟩ := hr
      exact ⟨L, hL, x, y, hx, h1, h2⟩
    · cases hr
  · cases hr

theorem runCodeW_wp (hm : E.P.follows .mixedOrders = true) (hT : ∀ c ∈ T, c.Ok E) (hPk : PkOk E γ0 w0) : ∀ (c : Code) (β : Type) (r : β) (k : Nat) (A : Wt) (a : Act) (w : World) (K : Ex → Wt → Option β) (Q : Exit → Act → World → Prop),
    runCodeW E T Ls h c k A K = some r → codeOk n pr c = true → LoopsOk E T Ls h (loopsOf c k) → InvP γ0 w0 n pr pv A.enc a w →
      (∀ e A' a' w', K e A' = some r → InvP γ0 w0 n pr pv A'.enc a' w' → Q (exOf e) a' w') → c.wp E.P Q a w
  | .skip, β, r, k, A, a, w, K, Q, hr, hok, hL, hI, hQ => by
    simp only [runCodeW] at hr
    exact wp_skip (hQ _ _ _ _ hr hI)
  | .seq x y, β, r, k, A, a, w, K, Q, hr, hok, hL, hI, hQ => by
    simp only [codeOk, Bool.and_eq_true] at hok
    simp only [runCodeW] at hr
    have hL1 : LoopsOk E T Ls h (loopsOf x k) := fun p hp => hL p (List.mem_append_left _ hp)
    have hL2 : LoopsOk E T Ls h (loopsOf y k) := fun p hp => hL p (List.mem_append_right _ hp)
    refine wp_seq (runCodeW_wp hm hT hPk x β r k A a w _ _ hr hok.1 hL1 hI fun e A' a' w' hK hI' => ?_)
    cases e with
    | normal => exact runCodeW_wp hm hT hPk y β r k A' a' w' K Q hK hok.2 hL2 hI' hQ
    | exit id => exact hQ _ _ _ _ hK hI'
    | ret => exact hQ _ _ _ _ hK hI'
  | .cond c x y, β, r, k, A, a, w, K, Q, hr, hok, hL, hI, hQ => by
    simp only [codeOk, Bool.and_eq_true] at hok
    simp only [runCodeW] at hr
    have hL1 : LoopsOk E T Ls h (loopsOf x k) := fun p hp => hL p (List.mem_append_left _ hp)
    have hL2 : LoopsOk E T Ls h (loopsOf y k) := fun p hp => hL p (List.mem_append_right _ hp)
    split at hr
    · rename_i t hev
      obtain ⟨γ, hR, hH⟩ := hI.1.ex
      have hc : a.eval c = .bool t := ev_c hR (ev_c_enc hev)
      refine wp_cond hc ?_
      split at hr
      · rename_i s
        rcases br_some hr with ⟨rfl, hr2⟩ | ⟨rfl, hr2⟩
        · exact runCodeW_wp hm hT hPk x β r k _ a w K Q hr2 hok.1 hL1 ⟨fix_inv hI.1 hev, hI.2⟩ hQ
        · exact runCodeW_wp hm hT hPk y β r k _ a w K Q hr2 hok.2 hL2 ⟨fix_inv hI.1 hev, hI.2⟩ hQ
      · rcases br_some hr with ⟨rfl, hr2⟩ | ⟨rfl, hr2⟩
        · exact runCodeW_wp hm hT hPk x β r k _ a w K Q hr2 hok.1 hL1 hI hQ
        · exact runCodeW_wp hm hT hPk y β r k _ a w K Q hr2 hok.2 hL2 hI hQ
    · cases hr
  | .block id b, β, r, k, A, a, w, K, Q, hr, hok, hL, hI, hQ => by
    simp only [codeOk] at hok
    simp only [runCodeW] at hr
    refine wp_block (runCodeW_wp hm hT hPk b β r id A a w _ _ hr hok hL hI fun e A' a' w' hK hI' => ?_)
    cases e with
    | normal => exact hQ _ _ _ _ hK hI'
    | ret => exact hQ _ _ _ _ hK hI'
    | exit j =>
      simp only [exOf, Exit.inBlock]
      dsimp only at hK
      split at hK
      · rename_i e; rw [if_pos e]; exact hQ _ _ _ _ hK hI'
      · rename_i e; rw [if_neg e]; exact hQ _ _ _ _ hK hI'
  | .exit id, β, r, k, A, a, w, K, Q, hr, hok, hL, hI, hQ => by
    simp only [runCodeW] at hr
    exact wp_exit (hQ _ _ _ _ hr hI)
  | .ret, β, r, k, A, a, w, K, Q, hr, hok, hL, hI, hQ => by
    simp only [runCodeW] at hr
    exact wp_ret (hQ _ _ _ _ hr hI)
  | .loop b, β, r, k, A, a, w, K, Q, hr, hok, hL, hI, hQ => by
    simp only [codeOk] at hok
    simp only [runCodeW] at hr
    obtain ⟨L, hLk, x, y, hx, hF, hK⟩ := loopK_some hr
    have hLb : LoopsOk E T Ls h (loopsOf b k) := fun p hp => hL p (List.mem_cons_of_mem _ hp)
    rw [hL (k, b) (by simp [loopsOf]) L hLk] at hF
    obtain ⟨N, hN⟩ := loopC_iff.1 hF
    refine wp_loop_n (fun j a w => ∃ x, InvP γ0 w0 n pr pv (L.head.mk' x).enc a w ∧ loopN (stepW E T Ls h b k L.head L.back L.exs L.res) j x = some y) ⟨x, fit_inv hI hx, hN⟩ (fun a w => ?_) (fun j a w => ?_)
    · rintro ⟨x, _, h1⟩; cases h1
    · rintro ⟨x, hI1, h1⟩
      simp only [loopN] at h1
      cases hs : stepW E T Ls h b k L.head L.back L.exs L.res x with
      | none => rw [hs] at h1; cases h1
      | some s =>
        rw [hs] at h1
        refine runCodeW_wp hm hT hPk b _ s k _ a w _ _ hs hok hLb hI1 fun e A' a' w' hK' hI' => ?_
        have out : ∀ e', (altDecE e' A' L.res L.exs).map Sum.inr = some s → e' ≠ .normal → Exit.then (fun a w => ∃ x, InvP γ0 w0 n pr pv (L.head.mk' x).enc a w ∧ loopN (stepW E T Ls h b k L.head L.back L.exs L.res) j x = some y) Q (exOf e') a' w' := fun e' he hne => by
          simp only [Option.map_eq_some_iff] at he
          obtain ⟨z, hz, rfl⟩ := he
          dsimp only at h1
          cases h1
          obtain ⟨B, k1, k2⟩ := altDecE_inv hI' hz
          rw [k1] at hK
          have := hQ e' B a' w' hK k2
          cases e' with
          | normal => exact absurd rfl hne
          | exit id => exact this
          | ret => exact this
        cases e with
        | normal =>
          simp only [Option.map_eq_some_iff] at hK'
          obtain ⟨x', hx', rfl⟩ := hK'
          exact ⟨x', fit_inv hI' hx', h1⟩
        | exit id => exact out _ hK' (by intro e; cases e)
        | ret => exact out _ hK' (by intro e; cases e)
  | .region id ops d, β, r, k, A, a, w, K, Q, hr, hok, hL, hI, hQ => by
    have hops : OpsOk n pr ops := fun o ho t ht => by
      simp only [codeOk, Array.all_eq_true_iff_forall_mem] at hok
      have := hok o ho
      rw [ht] at this
      simpa using this
    simp only [runCodeW] at hr
    cases d with
    | false =>
      refine wp_region ?_
      rw [List.range_eq_range']
      exact runOpsW_wp hT hPk hops (fun A' a' w' hk hi => hQ .normal A' a' w' hk hi) 0 ops.size A a w (by omega) (by simpa using hr) hI
    | true =>
      have hr : drawW E T h ops A (K .normal) = some r := hr
      unfold drawW at hr
      split at hr
      · rename_i hsel
        have down : Down ops (Array.replicate ops.size false) := fun j oj hj hl e he hb => by
          have hlt := (Array.getElem?_eq_some_iff.1 hj).1
          simp [hlt] at hl
        refine wp_region_any hm ((runDrawW_any (Q := Q .normal) hT hPk hsel hops (fun A' a' w' hk hi => hQ .normal A' a' w' hk hi) (ops.size + ops.size) ops.size ops.size _ (Array.replicate ops.size false) [] (A.forget (ops.toList.filterMap allocSlot)) [] a _ (Nat.le_refl _) hr ?_ down
          (by simp) (by simp) (fun k _ => by simp) (fun m hm => (List.not_mem_nil hm).elim) (fun m hm => (List.not_mem_nil hm).elim) (fun p hp => (List.not_mem_nil hp).elim) (fun p hp => (List.not_mem_nil hp).elim) ?_).wpAny)
        · refine (InvP.forget (B := A) ?_).toD
          obtain ⟨⟨⟨γ, hR, hH⟩, hdf, hsz⟩, hpv⟩ := hI
          refine ⟨⟨⟨γ, ⟨hR.tm, hR.bx, hR.ob, hR.zt, hR.lt⟩, ⟨hH.size, hH.os, hH.tape, hH.output, hH.block, hH.z⟩⟩, hdf, hsz⟩, hpv⟩
        · have := List.countP_le_length (p := fun k => !(Array.replicate ops.size false).getD k true) (l := List.range ops.size)
          simpa [left] using this
      · cases hr
  | .rangeFunc _ _ _ _, β, r, k, A, a, w, K, Q, hr, hok, hL, hI, hQ => by simp [runCodeW] at hr
  | .goto _, β, r, k, A, a, w, K, Q, hr, hok, hL, hI, hQ => by simp [runCodeW] at hr
  | .label _, β, r, k, A, a, w, K, Q, hr, hok, hL, hI, hQ => by simp [runCodeW] at hr
  | .scope _, β, r, k, A, a, w, K, Q, hr, hok, hL, hI, hQ => by simp [runCodeW] at hr
  | .refuse _, β, r, k, A, a, w, K, Q, hr, hok, hL, hI, hQ => by simp [runCodeW] at hr
theorem resultsK_enc {P : Program} {A : Wt} {β : Type} {r : β} : ∀ {l : List ResultVar} {K : List TW → Option β}, resultsK P A l K = some r → ∃ rs, resultsOf P A.enc l = some (rs.map TW.enc) ∧ K rs = some r
  | [], K, hr => ⟨[], rfl, hr⟩
  | .tmp t :: l, K, hr => by
    simp only [resultsK] at hr
    obtain ⟨rs, h1, h2⟩ := resultsK_enc hr
    exact ⟨_, by simp only [resultsOf, h1, ← A.get_enc]; rfl, h2⟩
  | .cell c t :: l, K, hr => by
    simp only [resultsK] at hr
    split at hr
    · rename_i x hx
      split at hr
      · cases hr
      · rename_i hne
        obtain ⟨cs, h1, h2⟩ := at_enc hr
        split at h2
        · rename_i y hy
          obtain ⟨rs, h3, h4⟩ := resultsK_enc h2
          refine ⟨_, ?_, h4⟩
          have : cellsTV P t (cs.map AW.enc) = some y.enc := by
            unfold cellsTW at hy
            unfold cellsTV
            split at hy
            · cases hy
            · rename_i d hd
              rw [hd]
              dsimp only
              split at hy
              · rename_i ha; rw [if_pos ha]; cases hy; rfl
              · rename_i ha
                rw [if_neg ha]
                split at hy
                · cases hy; rfl
                · cases hy
          have hg : A.enc.get c = .c x.enc := by rw [← A.get_enc, hx]; rfl
          simp only [resultsOf, hg, if_neg hne, h1, this, h3]
          rfl
        · cases h2
    · cases hr
end
end Go.Tree
namespace Go.Tree
set_option linter.unusedVariables false
set_option linter.unusedSimpArgs false
set_option linter.constructorNameAsVariable false
set_option maxHeartbeats 200000

/- how a function is laid before fn_ok -/
def bodyOf (fn : Func) : Code := match fn.body with | some c => c | none => .skip
theorem bodyOf_some {fn : Func} (h : fn.body.isSome = true) : fn.body = some (bodyOf fn) := by
  unfold bodyOf
  cases hb : fn.body with
  | none => rw [hb] at h; cases h
  | some c => rfl
theorem T_nil {E : Env} : ∀ c ∈ ([] : List Ctr), c.Ok E := fun c hc => by cases hc
theorem T_cons {E : Env} {c : Ctr} {T : List Ctr} (h : c.Ok E) (hT : ∀ c ∈ T, c.Ok E) : ∀ x ∈ c :: T, x.Ok E := fun x hx => by
  rcases List.mem_cons.1 hx with rfl | hx
  · exact h
  · exact hT x hx
theorem loopC_congr {X Z : Type} {s t : X → Option (X ⊕ Z)} (h : ∀ x, s x = t x) (x : X) : loopC s x = loopC t x := by
  have : s = t := funext h
  rw [this]
def loopAt (c : Code) (n : Nat) : Code := ((loopsOf c 0).getD n (0, .skip)).2
/-- the loops from number n on -/
def LoopsFrom (E : Env) (T : List Ctr) (Ls : List Lp) (h : Hint) (c : Code) : List Nat → Nat → Prop
  | [], _ => True
  | k :: ks, n => (∀ L, lpAt Ls k = some L → ∀ x, L.F x = loopC (stepW E T Ls h (loopAt c n) k L.head L.back L.exs L.res) x) ∧ LoopsFrom E T Ls h c ks (n + 1)
theorem loop_one {E : Env} {T : List Ctr} {Ls : List Lp} {h : Hint} {b : Code} {k : Nat} {own head back exs res} {step : head.den → Option (head.den ⊕ altDen res)}
    (hL : lpAt Ls k = some ⟨k, own, head, back, exs, res, loopC step⟩) (hs : ∀ x, step x = stepW E T Ls h b k head back exs res x) :
    ∀ L, lpAt Ls k = some L → ∀ x, L.F x = loopC (stepW E T Ls h b k L.head L.back L.exs L.res) x := fun L hL' x => by
  rw [hL] at hL'
  cases hL'
  exact loopC_congr hs x
theorem loops_of {E : Env} {T : List Ctr} {Ls : List Lp} {h : Hint} {c : Code} {ks : List Nat} (hk : (loopsOf c 0).map (·.1) = ks) (hl : LoopsFrom E T Ls h c ks 0) : LoopsOk E T Ls h (loopsOf c 0) := by
  have gen : ∀ (ks : List Nat) (n : Nat) (l : List (Nat × Code)), l = (loopsOf c 0).drop n → l.map (·.1) = ks → LoopsFrom E T Ls h c ks n → LoopsOk E T Ls h l := fun ks => by
    induction ks with
    | nil =>
      intro n l _ hk _ p hp
      have : l = [] := by simpa using hk
      subst this; cases hp
    | cons k ks ih =>
      intro n l hl hk hf p hp
      cases l with
      | nil => cases hp
      | cons q l =>
        simp only [List.map_cons, List.cons.injEq] at hk
        have hn : n < (loopsOf c 0).length := by
          have := congrArg List.length hl
          simp at this
          omega
        rw [List.drop_eq_getElem_cons hn] at hl
        simp only [List.cons.injEq] at hl
        rcases List.mem_cons.1 hp with rfl | hp
        · have : p.2 = loopAt c n := by
            unfold loopAt
            rw [List.getD_eq_getElem?_getD, List.getElem?_eq_getElem hn, ← hl.1]; rfl
          rw [this, hk.1]
          exact hf.1
        · exact ih (n + 1) l hl.2 hk.2 hf.2 p hp
  exact gen ks 0 _ rfl hk hl

section
variable {E : Env} {T : List Ctr}
theorem fn_ok (hm : E.P.follows .mixedOrders = true) (hT : ∀ c ∈ T, c.Ok E) {f : FuncId} {fn : Func} {c : Code} {arg : Sh} {res : List Sh} {own : Own} {F : arg.den → Option (altDen res)} {h : Hint} {Ls : List Lp}
    (hf : E.P.funcs[f]? = some fn) (hb : fn.body = some c) (hok : codeOk fn.ntmps (protectedSlots (E.mode f)) c = true) (hL : LoopsOk E T Ls h (loopsOf c 0))
    (hF : ∀ x, F x = runBodyW E T Ls h f fn.results.toList c own (arg.mk' x) res) : Ctr.Ok E ⟨f, arg, res, F, none⟩ := by
  intro x y hxy γ0 vs w _ hPk hR
  simp only at hxy hR ⊢
  rw [hF] at hxy
  have hget : ∀ t, (vs.toArray ++ Array.replicate (fn.ntmps - vs.toArray.size) undef).getD t undef = vs.toArray.getD t undef := fun t => by
    simp only [Array.getD_eq_getD_getElem?, Array.getElem?_append]
    split
    · rfl
    · rename_i hlt
      rw [Array.getElem?_eq_none (Nat.le_of_not_lt hlt)]
      simp only [Array.getElem?_replicate]
      split <;> rfl
  unfold runBodyW at hxy
  refine calls_of_wp hf hb (runCodeW_wp (Ls := Ls) (h := h) (n := (vs.toArray ++ Array.replicate (fn.ntmps - vs.toArray.size) undef).size) (pr := protectedSlots (E.mode f)) (pv := fun t => vs.toArray.getD t undef) (γ0 := γ0) (w0 := w)
    hm hT hPk c _ y 0 (arg.mk' x) _ w _ _ hxy (codeOk.mono (by simp; omega) c hok) hL ⟨⟨⟨γ0, ⟨fun t z hz => ?_, hR.bx, hR.ob, hR.zt, hR.lt⟩, Hist.refl γ0 w⟩, rfl, rfl⟩, fun t ht => hget t⟩ fun e A' a' w' hK hI => ?_)
  · show TVrep γ0 w z ((vs.toArray ++ Array.replicate (fn.ntmps - vs.toArray.size) undef).getD t undef)
    rw [hget]
    exact hR.tm t z hz
  · have hK' : (resultsK E.P (ownify own A') fn.results.toList fun rs =>
        let tvs := rs ++ (if E.mode f = 1 ∨ E.mode f = 2 then [(ownify own A').get 0] else [])
        if tvs.all noBoxi && nodup (selObsW (ownify own A') tvs) && nodup (selBoxesW tvs) && rs.length == E.nres f then altDec res (packW (ownify own A') (selObsW (ownify own A') tvs) (selBoxesW tvs) tvs) else none) = some y := by
      cases e with
      | exit id => cases hK
      | normal => exact hK
      | ret => exact hK
    have core : a'.defers = [] ∧ ∃ v, (results fn a'.tmps).run E.P w' = .ok v w' ∧
        ∃ vals γ', Ending.returned v = .returned (resVal vals) ∧ vals.length = E.nres f ∧ Rel γ' (altMk res y).enc (vals ++ back (E.mode f) vs).toArray w' ∧ Hist γ0 w γ' w' := by
      refine ⟨hI.1.df, ?_⟩
      obtain ⟨γ', hRA', hHA'⟩ := hI.1.ex
      obtain ⟨γ, hRA, hH2⟩ := ownify_rel own hRA'
      have hHA := hH2 _ _ hHA'
      generalize ownify own A' = A at hK' hRA
      obtain ⟨rs, hrs, hK2⟩ := resultsK_enc hK'
      dsimp only at hK2
      generalize hbk : (if E.mode f = 1 ∨ E.mode f = 2 then [A.get 0] else []) = bk at hK2
      split at hK2
      · rename_i hcond
        simp only [Bool.and_eq_true, beq_iff_eq] at hcond
        obtain ⟨⟨⟨hnb, _⟩, _⟩, hlen⟩ := hcond
        obtain ⟨vals, hrun, hF1⟩ := results_run hRA hrs
        have hF2 : F2 (fun x y => TVrep γ w' x y) ((rs ++ bk).map TW.enc) (vals ++ back (E.mode f) vs) := by
          rw [List.map_append]
          refine hF1.append ?_
          rw [← hbk]
          unfold back
          split
          · rename_i hm
            refine .cons ?_ .nil
            have h1 := hRA.eval (d := a'.defers) (.tmp 0)
            have h2 := hI.2 0 (by unfold protectedSlots; rw [if_pos hm]; simp)
            have h3 : a'.tmps.getD 0 undef = vs.getD 0 undef := by rw [h2]; simp
            rw [← h3, A.get_enc]
            exact h1
          · exact .nil
        obtain ⟨γ1, k1, k2, k3, _, _⟩ := Rel.exported (sel := selObs A.enc ((rs ++ bk).map TW.enc)) (bsel := selBoxes ((rs ++ bk).map TW.enc))
          (LO := (shared A.enc (selBoxes ((rs ++ bk).map TW.enc)) ((rs ++ bk).map TW.enc)).flatMap (lentAV A.enc))
          (LB := (shared A.enc (selBoxes ((rs ++ bk).map TW.enc)) ((rs ++ bk).map TW.enc)).flatMap AV.bxs) hRA hF2 fun v hyp => by
            have hm : v ∈ shared A.enc (selBoxes ((rs ++ bk).map TW.enc)) ((rs ++ bk).map TW.enc) := by
              unfold shared
              rw [List.mem_append, List.mem_flatMap, List.mem_flatMap]
              rcases hyp with ⟨x, hx, hvx⟩ | ⟨b, hb, l, hl, hvl⟩
              · exact .inl ⟨x, hx, by rw [all_avs]; exact hvx⟩
              · exact .inr ⟨b, hb, by rw [hl]; exact hvl⟩
            exact ⟨fun o ho => List.mem_flatMap.2 ⟨v, hm, ho⟩, fun b hb => List.mem_flatMap.2 ⟨v, hm, hb⟩⟩
        have k1' : Rel γ1 (altMk res y).enc (vals ++ back (E.mode f) vs).toArray w' := by
          refine altDec_rel ?_ hK2
          refine Rel.le ?_ (packW_le A _ _ _)
          rw [← selObsW_enc hnb, ← selBoxesW_enc hnb]
          exact k1
        have tgn : ∀ b, γ1.tg b ≠ none → γ.tg b ≠ none := fun b hb => by
          rcases k2 b hb with ⟨o, _, h | ⟨i, h⟩⟩ | ⟨x, _, h⟩ <;> rw [h] <;> simp
        refine ⟨_, hrun, vals, γ1, rfl, ?_, k1', hHA.size, hHA.os, hHA.tape, hHA.output, fun b hb ht => ⟨(hHA.block b hb ht).1, ?_⟩, fun b hb hz => ?_⟩
        · rw [← hF1.length, List.length_map]; exact hlen
        · exact Classical.byContradiction fun h => tgn b h (hHA.block b hb ht).2
        · have fin : γ.tg b ≠ none → γ0.z b ∨ γ0.tg b ≠ none := fun h => .inr fun e => h (hHA.block b hb e).2
          rcases k3 b hz with h | ⟨o, _, _, h⟩ | ⟨x, _, _, h⟩
          · exact hHA.z b hb h
          · exact fin (by rcases h with h | ⟨i, h⟩ <;> rw [h] <;> simp)
          · exact fin (by rw [h]; simp)
      · cases hK2
    cases e with
    | normal => exact core
    | ret => exact core
    | exit id => cases hK
end
end Go.Tree
