/- Part 4 of the tree calculus: symbolic execution of the model's code over typed lists, proved sound. No condition. -/
import Derived.Test.YtfgeijlcmepdlaaK3
import Derived.Laws.Sem
namespace Go.Tree
set_option linter.unusedVariables false
set_option linter.unusedSimpArgs false
set_option linter.constructorNameAsVariable false

section
variable {γ γ1 γ' : Gh} {A R : St} {a : Act} {w w' : World}

theorem give_rep {m : Mode} {tvs : List TV} {vs : List Value} (hR : Rel γ A a.tmps w) (hv : F2 (fun x y => TVrep γ w x y) tvs vs) :
    ∃ γ1, Rel γ1 (A.give m tvs) vs.toArray w ∧ (∀ b, γ1.tg b ≠ none → (∃ o ∈ selObs A (handed m tvs), γ.inOb o b) ∨ ∃ x ∈ selBoxes (handed m tvs), γ.tg b = some (.bx x)) ∧
      (∀ b, γ1.z b → γ.z b ∨ (∃ o ∈ (shared A (selBoxes (handed m tvs)) tvs).flatMap (lentAV A), o ∉ selObs A (handed m tvs) ∧ γ.inOb o b) ∨
        ∃ x ∈ (shared A (selBoxes (handed m tvs)) tvs).flatMap AV.bxs, x ∉ selBoxes (handed m tvs) ∧ γ.tg b = some (.bx x)) := by
  obtain ⟨γ1, h1, h2, h3, _, _⟩ := Rel.exported (sel := selObs A (handed m tvs)) (bsel := selBoxes (handed m tvs)) (LO := (shared A (selBoxes (handed m tvs)) tvs).flatMap (lentAV A)) (LB := (shared A (selBoxes (handed m tvs)) tvs).flatMap AV.bxs) hR hv fun v hyp => by
    have hm : v ∈ shared A (selBoxes (handed m tvs)) tvs := by
      unfold shared
      rw [List.mem_append, List.mem_flatMap, List.mem_flatMap]
      rcases hyp with ⟨x, hx, hvx⟩ | ⟨b, hb, l, hl, hvl⟩
      · exact .inl ⟨x, hx, by rw [all_avs]; exact hvx⟩
      · exact .inr ⟨b, hb, by rw [hl]; exact hvl⟩
    exact ⟨fun o ho => List.mem_flatMap.2 ⟨v, hm, ho⟩, fun b hb => List.mem_flatMap.2 ⟨v, hm, hb⟩⟩
  exact ⟨γ1, h1, h2, h3⟩

theorem take_rep {γ0 : Gh} {w0 : World} {m : Mode} {tvs : List TV} {vs vals : List Value} {dst : Option Nat} {loose : Bool} {nres : Nat} {A' : St}
    (hA : Rel γ A a.tmps w) (h0 : Hist γ0 w0 γ w) (hv : F2 (fun x y => TVrep γ w x y) tvs vs) (hlen : vals.length = nres)
    (g1 : ∀ b, γ1.tg b ≠ none → (∃ o ∈ selObs A (handed m tvs), γ.inOb o b) ∨ ∃ x ∈ selBoxes (handed m tvs), γ.tg b = some (.bx x))
    (g2 : ∀ b, γ1.z b → γ.z b ∨ (∃ o ∈ (shared A (selBoxes (handed m tvs)) tvs).flatMap (lentAV A), o ∉ selObs A (handed m tvs) ∧ γ.inOb o b) ∨
      ∃ x ∈ (shared A (selBoxes (handed m tvs)) tvs).flatMap AV.bxs, x ∉ selBoxes (handed m tvs) ∧ γ.tg b = some (.bx x))
    (hR : Rel γ' R (vals ++ back m vs).toArray w') (hH : Hist γ1 w γ' w') (ht : A.take dst m loose tvs nres R = some A') :
    ∃ A1 x γ2, A' = A1.dst dst x ∧ Rel γ2 A1 a.tmps w' ∧ Hist γ0 w0 γ2 w' ∧ TVrep γ2 w' x (resVal vals) := by
  unfold St.take at ht
  dsimp only at ht
  generalize hR1 : (if loose = true then R.map looseAV else R) = R1 at ht
  have hR : Rel γ' R1 (vals ++ back m vs).toArray w' := by
    rw [← hR1]
    split
    · exact hR.map (forgets_killIf _)
    · exact hR
  generalize hprs : prsOf m tvs (look nres R1.tm) = prs at ht
  generalize hbprs : bprsOf m tvs (look nres R1.tm) = bprs at ht
  generalize hsel : selObs A (handed m tvs) = sel at ht g1 g2
  generalize hbsel : selBoxes (handed m tvs) = bsel at ht g1 g2
  generalize hf : (fun n => (look n prs).getD (n + nm (dst.getD 99999) 0)) = f at ht
  generalize hg : (fun n => (look n bprs).getD (n + (nm (dst.getD 99999) 0 + 1000000))) = g at ht
  generalize hns : R1.ob.map (·.1) = ns at ht
  generalize hbns : R1.bx.map (·.1) = bns at ht
  split at ht
  · rename_i hc
    cases ht
    simp only [Bool.and_eq_true] at hc
    obtain ⟨⟨⟨hcl, hnm⟩, hnd⟩, hbnd⟩ := hc
    have hfi := fun a b ha hb e => nodup_inj (f := f) hnd (a := a) (b := b) ha hb e
    have hgi := fun a b ha hb e => nodup_inj (f := g) hbnd (a := a) (b := b) ha hb e
    have oin : ∀ p ∈ R1.ob, p.1 ∈ ns := fun p hp => by rw [← hns]; exact List.mem_map.2 ⟨p, hp, rfl⟩
    have bin : ∀ p ∈ R1.bx, p.1 ∈ bns := fun p hp => by rw [← hbns]; exact List.mem_map.2 ⟨p, hp, rfl⟩
    obtain ⟨γ2, r1, r2, r3, r4, r5⟩ := hR.renInv ns bns (f := f) (g := g) hfi hgi (fun v hv => (named_avs hnm hv).1) oin (fun v hv => (named_avs hnm hv).2) bin
    have hH2 : Hist γ1 w γ2 w' := ⟨hH.size, hH.os, hH.tape, hH.output, fun b hb h => ⟨(hH.block b hb h).1, r2 b (hH.block b hb h).2⟩, fun b hb hz => by rw [r3] at hz; exact hH.z b hb hz⟩
    -- what is handed back
    have first : ∀ y, look nres R1.tm = some y → ∀ x tl, tvs = x :: tl → (m = 1 ∨ m = 2) → ∃ v0, TVrep γ w x v0 ∧ TVrep γ' w' y v0 := fun y hy x tl hx hm => by
      subst hx
      cases vs with
      | nil => cases hv
      | cons v0 vs' =>
        cases hv with
        | cons h1 h2 =>
        have h3 := hR.tm nres y hy
        refine ⟨v0, h1, ?_⟩
        have e : ((vals ++ back m (v0 :: vs')).toArray).getD nres undef = v0 := by
          unfold back
          rw [if_pos hm]
          simp [← hlen]
        rw [e] at h3
        exact h3
    have prs_ok : ∀ n o, (n, o) ∈ prs → γ'.hd n = γ.hd o := fun n o h => by
      rw [← hprs] at h
      unfold prsOf at h
      split at h
      · rename_i x tl y hy _
        obtain ⟨v0, h1, h2⟩ := first _ (by assumption) x tl rfl (.inr rfl)
        exact backPairs_rep h1 h2 h
      · cases h
    have bprs_ok : ∀ n b, (n, b) ∈ bprs → γ'.bb n = γ.bb b := fun n b h => by
      rw [← hbprs] at h
      unfold bprsOf at h
      split at h
      · rename_i x tl y hy _
        obtain ⟨v0, h1, h2⟩ := first _ (by assumption) x tl rfl (.inl rfl)
        exact backBoxes_rep h1 h2 h
      · cases h
    have bk_ok : ∀ o ∈ ns.filterMap (fun n => look n prs), o ∈ ns.map f ∧ γ2.hd o = γ.hd o := fun o ho => by
      obtain ⟨n, hn, e⟩ := List.mem_filterMap.1 ho
      have hfn : f n = o := by rw [← hf]; simp [e]
      refine ⟨List.mem_map.2 ⟨n, hn, hfn⟩, ?_⟩
      rw [← hfn, r4 n hn, hfn]
      exact prs_ok n o (mem_of_look e)
    have bbk_ok : ∀ b ∈ bns.filterMap (fun n => look n bprs), γ2.bb b = γ.bb b := fun o ho => by
      obtain ⟨n, hn, e⟩ := List.mem_filterMap.1 ho
      have hgn : g n = o := by rw [← hg]; simp [e]
      rw [← hgn, r5 n hn, hgn]
      exact bprs_ok n o (mem_of_look e)
    generalize hbk : ns.filterMap (fun n => look n prs) = bk at bk_ok
    generalize hbbk : bns.filterMap (fun n => look n bprs) = bbk at bbk_ok
    generalize hlent : ((shared A bsel tvs).flatMap (lentAV A)).filter (fun o => !sel.contains o) = lent
    have lent_no : ∀ o ∈ lent, o ∉ sel := fun o ho => by rw [← hlent] at ho; simpa using (List.mem_filter.1 ho).2
    -- what is lent is given up
    have hfr : ∃ γf, Rel γf (if R1.closed = true then A else A.freezes lent) a.tmps w ∧ Hist γ0 w0 γf w ∧ γf.hd = γ.hd ∧ γf.bb = γ.bb ∧ (∀ b, γf.tg b ≠ none → γf.tg b = γ.tg b) ∧
        (∀ b, γ1.tg b ≠ none → γf.tg b ≠ none) ∧ (R1.closed = false → ∀ b, γ1.z b → γf.z b) := by
      by_cases hcc : R1.closed = true
      · rw [if_pos hcc]
        refine ⟨γ, hA, h0, rfl, rfl, fun _ _ => rfl, fun b hb => ?_, fun h => by rw [hcc] at h; cases h⟩
        rcases g1 b hb with ⟨o, _, h | ⟨i, h⟩⟩ | ⟨x, _, h⟩ <;> rw [h] <;> simp
      · rw [if_neg hcc]
        have hcb : ∀ x ∈ (shared A bsel tvs).flatMap AV.bxs, x ∈ bsel := fun x hx => by
          have : ((shared A bsel tvs).flatMap AV.bxs).all bsel.contains = true := by
            rcases Bool.or_eq_true _ _ ▸ hcl with h | h
            · exact absurd h hcc
            · exact h
          simpa using List.all_eq_true.1 this x hx
        obtain ⟨γf, f1, f2, _, _, _, f3, f4, f5⟩ := hA.freezes lent
        refine ⟨γf, f1, ⟨h0.size, h0.os, h0.tape, h0.output, fun b hb h => ⟨(h0.block b hb h).1, ?_⟩, fun b hb hz => ?_⟩, f2, f3, fun b hb => ?_, fun b hb => ?_, fun _ b hz => (f4 b).2 ?_⟩
        · rcases f5 b with ⟨e, _⟩ | ⟨e, _⟩
          · exact e.trans (h0.block b hb h).2
          · exact e
        · rcases (f4 b).1 hz with hz | ⟨o, _, hb'⟩
          · exact h0.z b hb hz
          · refine .inr fun e => ?_
            have := (h0.block b hb e).2
            rcases hb' with hb' | ⟨i, hb'⟩ <;> rw [this] at hb' <;> cases hb'
        · rcases f5 b with ⟨e, _⟩ | ⟨e, _⟩
          · exact e
          · exact absurd e hb
        · rcases f5 b with ⟨e, _⟩ | ⟨e, o, ho, h⟩
          · rw [e]
            rcases g1 b hb with ⟨o, _, h | ⟨i, h⟩⟩ | ⟨x, _, h⟩ <;> rw [h] <;> simp
          · exfalso
            rcases g1 b hb with ⟨o', ho', h'⟩ | ⟨x, _, h'⟩
            · exact lent_no o ho (inOb_uniq h h' ▸ ho')
            · rcases h with h | ⟨i, h⟩ <;> rw [h'] at h <;> cases h
        · rcases g2 b hz with hz | ⟨o, ho, hs, hb⟩ | ⟨x, hx, hs, _⟩
          · exact .inl hz
          · exact .inr ⟨o, by rw [← hlent]; exact List.mem_filter.2 ⟨ho, by simpa using hs⟩, hb⟩
          · exact absurd (hcb x hx) hs
    obtain ⟨γf, f1, f2, f3, f4, f5, f6, f7⟩ := hfr
    have finOb : ∀ {o b}, γf.inOb o b → γ.inOb o b := fun {o b} h => by
      rcases h with h | ⟨i, h⟩
      · exact .inl ((f5 b (by rw [h]; simp)).symm.trans h)
      · exact .inr ⟨i, (f5 b (by rw [h]; simp)).symm.trans h⟩
    have free : ∀ o, o ∉ sel → ∀ b, γf.inOb o b → γ1.tg b = none := fun o ho b hb => Classical.byContradiction fun h => by
      rcases g1 b h with ⟨o', ho', h'⟩ | ⟨x, _, h'⟩
      · exact ho (inOb_uniq (finOb hb) h' ▸ ho')
      · rcases finOb hb with h | ⟨i, h⟩ <;> rw [h'] at h <;> cases h
    have noz : ∀ b, b < w.heap.size → γf.tg b ≠ none → γ1.tg b = none → ¬ (R1.closed = false ∧ γ2.z b) := fun b hlt hb h1 ⟨hn, hz⟩ => by
      rw [r3] at hz
      rcases hH.z b hlt hz with h | h
      · exact hb (f1.zt b (f7 hn b h))
      · exact h h1
    have hgone := fun {v : AV} (hv : v ∈ (St.reduce (if R1.closed = true then A else A.freezes lent) (sel ++ ns.map f) bk (bsel ++ bns.map g) bbk).avs) => reduce_avs hv
    obtain ⟨γm, k1, k2, k3⟩ := (f1.reduce (sel ++ ns.map f) bk (bsel ++ bns.map g) bbk).merge (NS := ns.map f) (BNS := bns.map g) (nc := R1.closed = false) r1 hH2 f6 (fun hn b hz => .inl (f7 hn b hz))
      (fun v hv => by
        have hv' := hgone hv
        simp only [gone, Bool.or_eq_false_iff] at hv'
        have plain : v.obs.any (sel ++ ns.map f).contains = false → (∀ o ∈ v.obs, o ∉ ns.map f ∧ ∀ b, γf.inOb o b → γ1.tg b = none) := fun h o ho => by
          have : o ∉ sel ++ ns.map f := fun hm => by
            have : v.obs.any (sel ++ ns.map f).contains = true := List.any_eq_true.2 ⟨o, ho, List.contains_iff_mem.2 hm⟩
            rw [this] at h; cases h
          simp only [List.mem_append, not_or] at this
          exact ⟨this.2, free o this.1⟩
        cases v with
        | own o =>
          have h := hv'.1
          simp only [Bool.and_eq_false_iff] at h
          rcases h with h | h
          · exact .inr (plain (by simp only [AV.obs, List.any_cons, List.any_nil, Bool.or_false]; exact h))
          · have : o ∈ bk := by simpa using h
            obtain ⟨q1, q2⟩ := bk_ok o this
            exact .inl ⟨o, rfl, q1, by rw [f3]; exact q2⟩
        | _ => exact .inr (plain hv'.1))
      (fun v hv b hb hm => by
        have hv' := hgone hv
        simp only [gone, Bool.or_eq_false_iff] at hv'
        have : b ∈ bbk := Classical.byContradiction fun hne => by
          have : v.bxs.any (fun b => (bsel ++ bns.map g).contains b && !bbk.contains b) = true := List.any_eq_true.2 ⟨b, hb, (by simp only [Bool.and_eq_true, Bool.not_eq_true']; exact ⟨by rw [List.contains_iff_mem]; exact List.mem_append_right _ hm, by rw [List.contains_eq_mem, decide_eq_false_iff_not]; exact hne⟩ : ((bsel ++ bns.map g).contains b && !bbk.contains b) = true)⟩
          rw [this] at hv'
          cases hv'.2
        rw [f4]
        exact bbk_ok b this)
      (fun o l hl => by
        obtain ⟨h1, h2⟩ := reduce_ob hl
        simp only [List.mem_append, not_or] at h1
        refine ⟨h1.2, fun b hb => ?_⟩
        have ht : γf.tg b ≠ none := by rcases hb with hb | ⟨i, hb⟩ <;> rw [hb] <;> simp
        exact ⟨free o h1.1 b hb, noz b (f1.lt b (.inr ht)) ht (free o h1.1 b hb)⟩)
      (fun b l hl => by
        obtain ⟨h1, l', h2⟩ := reduce_bx hl
        simp only [List.mem_append, not_or] at h1
        refine ⟨h1.2, fun hb => ?_⟩
        have ht : γf.tg (γf.bb b) ≠ none := by rw [hb]; simp
        have e := f5 _ ht
        have h3 : γ1.tg (γf.bb b) = none := Classical.byContradiction fun h => by
          rw [hb] at e
          rcases g1 _ h with ⟨o', ho', h'⟩ | ⟨x, hx, h'⟩
          · rcases h' with h' | ⟨i, h'⟩ <;> rw [h'] at e <;> cases e
          · rw [h'] at e
            cases e
            exact h1.1 hx
        exact ⟨h3, noz _ (f1.lt _ (.inr ht)) ht h3⟩)
      (fun hn v hv => by
        obtain ⟨u, hu, rfl⟩ := ren_avs hv
        exact ren_closed (closed_avs (by simpa using hn) hu))
      (fun v hv => by
        obtain ⟨u, hu, rfl⟩ := ren_avs hv
        obtain ⟨q1, q2⟩ := named_avs hnm hu
        rw [(ren_obs u).1, (ren_obs u).2]
        exact ⟨fun o ho => by obtain ⟨n, hn, rfl⟩ := List.mem_map.1 ho; exact List.mem_map.2 ⟨n, q1 n hn, rfl⟩, fun b hb => by obtain ⟨n, hn, rfl⟩ := List.mem_map.1 hb; exact List.mem_map.2 ⟨n, q2 n hn, rfl⟩⟩)
      (fun o l hl => by
        have := mem_of_look hl
        simp only [St.ren, List.mem_map] at this
        obtain ⟨p, hp, e⟩ := this
        cases e
        exact List.mem_map.2 ⟨p.1, oin p hp, rfl⟩)
      (fun b l hl => by
        have := mem_of_look hl
        simp only [St.ren, List.mem_map] at this
        obtain ⟨p, hp, e⟩ := this
        cases e
        exact List.mem_map.2 ⟨p.1, bin p hp, rfl⟩)
    refine ⟨_, _, γm, rfl, k1, k3 γ0 w0 f2, ?_⟩
    rw [← hlen]
    refine res_rep (F2.range fun i v hi => ?_)
    cases hl : look i (St.ren f g R1).tm with
    | none => trivial
    | some x =>
      have h1 := k2 i x hl
      have hlt : i < vals.length := (List.getElem?_eq_some_iff.1 hi).1
      have : ((vals ++ back m vs).toArray).getD i undef = v := by
        simp [List.getElem?_append_left hlt, hi]
      rw [this] at h1
      exact h1
  · cases ht
end
end Go.Tree
namespace Go.Tree
set_option linter.unusedVariables false
set_option linter.unusedSimpArgs false
set_option linter.constructorNameAsVariable false

section
variable {E : Env} {call : FuncId → St → Option St} {γ0 : Gh} {w0 : World} {n : Nat} {A A' : St} {a : Act} {w : World} {o : Oper} {h : Hint}

theorem F2.evs {γ : Gh} {A : St} {a : Act} {w : World} (hR : Rel γ A a.tmps w) : ∀ xs : List Operand, F2 (fun x y => TVrep γ w x y) (xs.map A.ev) (xs.map a.eval)
  | [] => .nil
  | x :: l => .cons (by
      have := hR.eval (d := a.defers) x
      exact this) (F2.evs hR l)

theorem run_callFunc {P : Program} {f : FuncId} (hf : goF P f = true) (args : Array Value) (w : World) : (callFunc f args).run P w = .ok (.enter f args) w := by
  unfold goF at hf
  split at hf
  · rename_i fn hfn
    simp only [Bool.and_eq_true, Bool.not_eq_true'] at hf
    have n1 : ¬ fn.name = "runtime.NumGoroutine" := by simpa using hf.1
    have n2 : ¬ fn.body = none := fun e => by rw [e] at hf; simp at hf
    simp [callFunc, hfn, n1, n2]
  · cases hf

theorem callOp_ok (hcall : ∀ f S R, call f S = some R → Tells E.P f (E.mode f) (E.nres f) S R) {c : Call} {g : Operand} (hop : o.op = .call c) (hg : c.callee = .value g)
    (hc : callOp E call h A o g c.args.toList = some A') (hI : Inv γ0 w0 n A a w) (hd : ∀ t, o.dst = some t → t < n) :
    ∃ f args, (execOp a.eval o).run E.P w = .ok (.enter f args) w ∧ Calls E.P f args w fun e w' => ∃ v, e = .returned v ∧ Inv γ0 w0 n A' (a.put o.dst v) w' := by
  obtain ⟨γ, hR, hH⟩ := hI.ex
  unfold callOp at hc
  split at hc
  · rename_i f caps hev
    split at hc
    · cases hc
    · rename_i hgo
      have hgo : goF E.P f = true := by simpa using hgo
      dsimp only at hc
      split at hc
      · rename_i R hR'
        have hgv : AVrep γ w (.fnr f caps) (a.eval g) := ev_c hR hev
        obtain ⟨cvs, e1, hcv⟩ := hgv
        have hv : F2 (fun x y => TVrep γ w x y) (c.args.toList.map A.ev ++ caps.map fun c => TV.c (.rad [] c)) (c.args.toList.map a.eval ++ cvs) := by
          refine (F2.evs hR _).append ?_
          clear e1 hR' hc hev
          induction hcv with
          | nil => exact .nil
          | cons r _ ih =>
            refine .cons ?_ ih
            exact RadAt.move r fun b hb _ => ⟨rfl, .inl hb⟩
        obtain ⟨γ1, q1, q2, q3⟩ := give_rep (m := E.mode f) hR hv
        have hT := hcall f _ R hR' γ1 _ w q1
        refine ⟨f, (c.args.toList.map a.eval ++ cvs).toArray, ?_, hT.mono fun e w' => ?_⟩
        · have e2 : (#[] ++ c.args.map a.eval ++ cvs.toArray : Array Value) = (c.args.toList.map a.eval ++ cvs).toArray := by
            apply Array.ext'
            simp
          have : execOp a.eval o = callFunc f (c.args.toList.map a.eval ++ cvs).toArray := by
            rw [← e2]
            unfold execOp
            rw [hop]
            dsimp only
            unfold resolve
            rw [hg]
            dsimp only
            rw [e1]
            rfl
          rw [this]
          exact run_callFunc hgo _ w
        · rintro ⟨vals, γ', rfl, hlen, hRR, hHH⟩
          obtain ⟨A1, x, γ2, rfl, k1, k2, k3⟩ := take_rep hR hH hv hlen q2 q3 hRR hHH hc
          exact ⟨_, rfl, hI.finish hd ⟨γ2, k1, k2, k3⟩⟩
      · cases hc
  · cases hc

theorem opStep_wp (hcall : ∀ f S R, call f S = some R → Tells E.P f (E.mode f) (E.nres f) S R) (hs : opStep E call h A o = some A') (hI : Inv γ0 w0 n A a w) (hd : ∀ t, o.dst = some t → t < n)
    {K : Act → World → Prop} {Q : Exit → Act → World → Prop} (hK : ∀ v w', Inv γ0 w0 n A' (a.put o.dst v) w' → K (a.put o.dst v) w') : o.wp E.P a w K Q := by
  have viaA : aop E.P h A o = some A' → o.wp E.P a w K Q := fun hop => by
    obtain ⟨r, w', v, h1, h2, h3⟩ := aop_sound hop hI hd
    unfold Oper.wp
    rw [h1]
    rcases h2 with rfl | ⟨rfl, rfl⟩
    · exact hK _ _ h3
    · exact hK _ _ h3
  unfold opStep at hs
  split at hs
  · rename_i c hop
    split at hs
    · rename_i g hg
      obtain ⟨f, args, h1, h2⟩ := callOp_ok hcall hop hg hs hI hd
      unfold Oper.wp
      rw [h1]
      refine h2.mono fun e w' he => ?_
      obtain ⟨v, rfl, hI'⟩ := he
      exact hK _ _ hI'
    · exact viaA hs
  · exact viaA hs

theorem wants_ok {ops : Array Oper} {b : Bool} (hw : wants A ops o = some b) (hI : Inv γ0 w0 n A a w) : Region.wanted o (yielded ops a.tmps) = b := by
  obtain ⟨γ, hR, _⟩ := hI.ex
  unfold wants at hw
  unfold Region.wanted
  split at hw
  · rename_i hg; rw [hg]; cases hw; rfl
  · rename_i j want hg
    rw [hg]
    dsimp only
    unfold yielded
    split at hw
    · rename_i t ht
      rw [ht]
      have hv := hR.eval (d := a.defers) (.tmp t)
      simp only [St.ev, Act.eval] at hv
      split at hw
      · rename_i x hx
        rw [hx] at hv
        have hv : a.tmps.getD t undef = .bool x := hv
        cases hw
        have : a.tmps[t]? = some (.bool x) := by
          cases hq : a.tmps[t]? with
          | none => simp [hq, undef] at hv
          | some u => simp [hq] at hv; rw [hv]
        simp [this]
      · rename_i x hx
        rw [hx] at hv
        have hv : a.tmps.getD t undef = .tuple x := hv
        cases hw
        cases hq : a.tmps[t]? with
        | none => simp [hq]
        | some u => simp [hq] at hv; simp [hq, hv]
      · cases hw
    · rename_i ht
      rw [ht]
      cases hw
      simp

/-- the relation, and slots that keep their values -/
def InvP (γ0 : Gh) (w0 : World) (n : Nat) (pr : List Nat) (pv : Nat → Value) (A : St) (a : Act) (w : World) : Prop := Inv γ0 w0 n A a w ∧ ∀ t ∈ pr, a.tmps.getD t undef = pv t
theorem put_getD {a : Act} {d : Option Nat} {v : Value} {t : Nat} (h : d ≠ some t) : (a.put d v).tmps.getD t undef = a.tmps.getD t undef := by
  cases d with
  | none => rfl
  | some s =>
    have : s ≠ t := fun e => h (by rw [e])
    simp [Act.put, Array.getElem?_setIfInBounds_ne this]
def OpsOk (n : Nat) (pr : List Nat) (ops : Array Oper) : Prop := ∀ o ∈ ops, ∀ t, o.dst = some t → t < n ∧ t ∉ pr
theorem OpsOk.keep {n : Nat} {pr : List Nat} {ops : Array Oper} {pv : Nat → Value} (h : OpsOk n pr ops) {o : Oper} (ho : o ∈ ops) {a : Act} {v : Value} (hp : ∀ t ∈ pr, a.tmps.getD t undef = pv t) : ∀ t ∈ pr, (a.put o.dst v).tmps.getD t undef = pv t := fun t ht => by
  rw [put_getD]
  · exact hp t ht
  · exact fun e => (h o ho t e).2 ht

theorem runOps_wp (hcall : ∀ f S R, call f S = some R → Tells E.P f (E.mode f) (E.nres f) S R) {ops : Array Oper} {pr : List Nat} {pv : Nat → Value} (hd : OpsOk n pr ops) {Q : Exit → Act → World → Prop} :
    ∀ (k m : Nat) (A : St) (a : Act) (w : World), ops.size = k + m → runOps E call h ops (ops.toList.drop k) A = some A' → InvP γ0 w0 n pr pv A a w → (∀ a' w', InvP γ0 w0 n pr pv A' a' w' → Q .normal a' w') →
      wpOps E.P ops Q (List.range' k m) a w
  | k, 0, A, a, w, hk, hr, hI, hQ => by
    have : ops.toList.drop k = [] := by simp; omega
    rw [this] at hr
    simp only [runOps] at hr
    cases hr
    exact hQ _ _ hI
  | k, m + 1, A, a, w, hk, hr, ⟨hI, hp⟩, hQ => by
    have hlt : k < ops.size := by omega
    have e1 : ops.toList.drop k = ops[k] :: ops.toList.drop (k + 1) := by
      rw [List.drop_eq_getElem_cons (by simpa using hlt)]
      simp
    rw [e1] at hr
    simp only [runOps] at hr
    have hmem : ops[k] ∈ ops := Array.getElem_mem hlt
    have e2 : ops[k]? = some ops[k] := Array.getElem?_eq_getElem hlt
    have hdk : ∀ t, ops[k].dst = some t → t < n := fun t ht => (hd _ hmem t ht).1
    simp only [List.range'_succ, wpOps, e2]
    split at hr
    · rename_i hw
      rw [wants_ok hw hI]
      simp only [if_true]
      split at hr
      · rename_i A1 hs
        exact .inl (opStep_wp hcall hs hI hdk fun v w' hI' => runOps_wp hcall hd (k + 1) m A1 _ w' (by omega) hr ⟨hI', hd.keep hmem hp⟩ hQ)
      · cases hr
    · rename_i hw
      rw [wants_ok hw hI]
      simp only [Bool.false_eq_true, if_false]
      refine runOps_wp hcall hd (k + 1) m _ _ w (by omega) hr ⟨?_, hd.keep hmem hp⟩ hQ
      obtain ⟨γ, hR, hH⟩ := hI.ex
      exact hI.finish hdk ⟨γ, hR, hH, rfl⟩
    · cases hr
end
end Go.Tree
namespace Go.Tree
set_option linter.unusedVariables false
set_option linter.unusedSimpArgs false
set_option linter.constructorNameAsVariable false

theorem mem_dedup {n : Nat} : ∀ {l : List Nat}, n ∈ dedup l ↔ n ∈ l
  | [] => Iff.rfl
  | a :: l => by
    have ih := mem_dedup (n := n) (l := l)
    simp only [dedup]
    split
    · rename_i h
      have h : a ∈ dedup l := by simpa using h
      rw [ih, List.mem_cons]
      constructor
      · exact .inr
      · rintro (rfl | h')
        · exact mem_dedup.1 h
        · exact h'
    · rw [List.mem_cons, List.mem_cons, ih]
theorem mem_dedup2 {n : Nat} {l : List Nat} : n ∈ (dedup l.reverse).reverse ↔ n ∈ l := by rw [List.mem_reverse, mem_dedup, List.mem_reverse]

section
variable {γ γ0 : Gh} {A : St} {a : Act} {w w0 : World} {n : Nat}
theorem Rel.keepLive (hR : Rel γ A a.tmps w) (live : List Nat) : Rel γ (keepLive live A) a.tmps w where
  tm t x hx := hR.tm t x (look_pick hx).2
  bx b l hl := by
    have hl : look b (mapBx (killIf fun a => !a.bxs.all (canonB live A).contains) (pick A.bx (canonB live A))) = some l := hl
    rw [look_mapBx, Option.map_eq_some_iff] at hl
    obtain ⟨l0, h1, rfl⟩ := hl
    obtain ⟨cs, e, q1, q2, q3⟩ := hR.bx b l0 (look_pick h1).2
    exact ⟨cs, e, q1, q2, q3.map fun v y _ hy => hy.forget (forgets_killIf _)⟩
  ob o l hl := hR.ob o l hl
  zt := hR.zt
  lt := hR.lt
theorem Inv.canon (hI : Inv γ0 w0 n A a w) (live : List Nat) : Inv γ0 w0 n (canon live A) a w := by
  obtain ⟨γ, hR, hH⟩ := hI.ex
  have hK := hR.keepLive live
  have mo : ∀ v ∈ (Go.Tree.keepLive live A).avs, ∀ o ∈ v.obs, o ∈ canonO (Go.Tree.keepLive live A) := fun v hv o ho => by
    unfold canonO
    rw [mem_dedup2, List.mem_append, List.mem_flatMap, List.mem_flatMap]
    simp only [St.avs, List.mem_append, List.mem_flatMap] at hv
    rcases hv with ⟨p, hp, hv⟩ | ⟨p, hp, hv⟩
    · exact .inl ⟨p, hp, List.mem_flatMap.2 ⟨v, by rw [all_avs]; exact hv, ho⟩⟩
    · exact .inr ⟨p, hp, List.mem_flatMap.2 ⟨v, hv, ho⟩⟩
  have mb : ∀ v ∈ (Go.Tree.keepLive live A).avs, ∀ b ∈ v.bxs, b ∈ canonB live A := fun v hv b hb => by
    simp only [St.avs, List.mem_append, List.mem_flatMap] at hv
    rcases hv with ⟨p, hp, hv⟩ | ⟨p, hp, hv⟩
    · unfold canonB
      rw [mem_dedup2, List.mem_append]
      refine .inl (List.mem_flatMap.2 ⟨p, hp, List.mem_flatMap.2 ⟨v, by rw [all_avs]; exact hv, hb⟩⟩)
    · simp only [Go.Tree.keepLive, List.mem_map] at hp
      obtain ⟨q, hq, rfl⟩ := hp
      simp only [List.mem_map] at hv
      obtain ⟨u, hu, rfl⟩ := hv
      have hk := killIf_not (p := fun a => !a.bxs.all (canonB live A).contains) (b := u) (by simp [AV.bxs])
      simp only [Bool.not_eq_false', List.all_eq_true] at hk
      simpa using hk b hb
  · obtain ⟨γ', k1, k2, k3, _, _⟩ := Rel.renPos (A := { Go.Tree.keepLive live A with ob := pick (Go.Tree.keepLive live A).ob (canonO (Go.Tree.keepLive live A)) }) ⟨hK.tm, hK.bx, fun o l hl => hK.ob o l (look_pick hl).2, hK.zt, hK.lt⟩ (canonO (Go.Tree.keepLive live A)) (canonB live A) mo (fun p hp => (mem_pick hp).1) mb (fun p hp => by
      simp only [Go.Tree.keepLive, List.mem_map] at hp
      obtain ⟨q, hq, rfl⟩ := hp
      exact (mem_pick hq).1)
    refine ⟨⟨γ', ?_, ⟨hH.size, hH.os, hH.tape, hH.output, fun b hb h => ⟨(hH.block b hb h).1, k2 b (hH.block b hb h).2⟩, fun b hb hz => by rw [k3] at hz; exact hH.z b hb hz⟩⟩, hI.df, hI.sz⟩
    exact k1
end

theorem wp_loop_n {P : Program} {c : Code} {Q : Exit → Act → World → Prop} {a : Act} {w : World} (I : Nat → Act → World → Prop) {j : Nat} (h0 : I j a w) (hz : ∀ a w, ¬ I 0 a w)
    (round : ∀ j a w, I (j + 1) a w → c.wp P (Exit.then (I j) Q) a w) : (Code.loop c).wp P Q a w := by
  intro b k cs
  have key : ∀ n a w, I n a w → ∃ e a' w', Q e a' w' ∧ Arrives P (lone (b.at a (.code c :: .inLoop c :: k)) cs w) b k cs e a' w' := by
    intro n
    induction n with
    | zero => intro a w h; exact absurd h (hz a w)
    | succ n ih =>
      intro a w hI
      obtain ⟨e, a₁, w₁, hq, harr⟩ := round n a w hI b (.inLoop c :: k) cs
      cases e with
      | normal =>
        obtain ⟨e₂, a₂, w₂, hq₂, harr₂⟩ := ih a₁ w₁ hq
        exact ⟨e₂, a₂, w₂, hq₂, .of_steps (Steps.trans harr (.one step_inLoop)) harr₂⟩
      | exit id => exact ⟨_, a₁, w₁, hq, .pass (x := .inLoop c) rfl (fun _ _ => .inl (by simp)) harr⟩
      | goto l => exact ⟨_, a₁, w₁, hq, .pass (x := .inLoop c) rfl (fun _ _ => .inl (by simp)) harr⟩
      | ret => exact ⟨_, a₁, w₁, hq, .pass (x := .inLoop c) rfl (fun _ _ => .inl (by simp)) harr⟩
      | panic ch => exact ⟨_, a₁, w₁, hq, .pass (x := .inLoop c) rfl (fun _ _ => .inl (by simp)) harr⟩
      | outgrown => exact ⟨_, a₁, w₁, hq, .pass (x := .inLoop c) rfl (fun _ _ => .inl (by simp)) harr⟩
  obtain ⟨e, a', w', hq, harr⟩ := key _ a w h0
  exact ⟨e, a', w', hq, .of_steps (.one step_loop) harr⟩
end Go.Tree
namespace Go.Tree
set_option linter.unusedVariables false
set_option linter.unusedSimpArgs false
set_option linter.constructorNameAsVariable false

def exOf : Ex → Exit
  | .normal => .normal | .exit id => .exit id | .ret => .ret

/-- a region whose order is drawn -/
def DrawOk (E : Env) (call : FuncId → St → Option St) (draw : Hint → Array Oper → St → Option St) : Prop :=
  ∀ (h : Hint) (ops : Array Oper) (A A' : St) (γ0 : Gh) (w0 : World) (n : Nat) (pr : List Nat) (pv : Nat → Value) (a : Act) (w : World) (id : Nat) (Q : Exit → Act → World → Prop),
    draw h ops A = some A' → OpsOk n pr ops → InvP γ0 w0 n pr pv A a w → (∀ a' w', InvP γ0 w0 n pr pv A' a' w' → Q .normal a' w') → (Code.region id ops true).wp E.P Q a w

section
variable {E : Env} {call : FuncId → St → Option St} {draw : Hint → Array Oper → St → Option St} {γ0 : Gh} {w0 : World} {n : Nat} {pr : List Nat} {pv : Nat → Value} {h : Hint} {N : Nat}

theorem runCode_wp (hcall : ∀ f S R, call f S = some R → Tells E.P f (E.mode f) (E.nres f) S R) (hdraw : DrawOk E call draw) :
    ∀ (c : Code) (k : Nat) (A A' : St) (ex : Ex) (a : Act) (w : World) (Q : Exit → Act → World → Prop), runCode E call (iterN N) draw h c k A = some (ex, A') → codeOk n pr c = true → InvP γ0 w0 n pr pv A a w →
      (∀ a' w', InvP γ0 w0 n pr pv A' a' w' → Q (exOf ex) a' w') → c.wp E.P Q a w
  | .skip, k, A, A', ex, a, w, Q, hr, hok, hI, hQ => by
    simp only [runCode] at hr
    cases hr
    exact wp_skip (hQ _ _ hI)
  | .seq x y, k, A, A', ex, a, w, Q, hr, hok, hI, hQ => by
    simp only [codeOk, Bool.and_eq_true] at hok
    simp only [runCode] at hr
    refine wp_seq ?_
    split at hr
    · rename_i A1 h1
      exact runCode_wp hcall hdraw x k A A1 .normal a w _ h1 hok.1 hI fun a' w' hI' => runCode_wp hcall hdraw y k A1 A' ex a' w' Q hr hok.2 hI' hQ
    · rename_i hne
      refine runCode_wp hcall hdraw x k A A' ex a w _ hr hok.1 hI fun a' w' hI' => ?_
      have := hQ a' w' hI'
      cases ex with
      | normal => exact absurd hr (hne A')
      | exit id => exact this
      | ret => exact this
  | .cond c x y, k, A, A', ex, a, w, Q, hr, hok, hI, hQ => by
    simp only [codeOk, Bool.and_eq_true] at hok
    simp only [runCode] at hr
    split at hr
    · rename_i t hev
      obtain ⟨γ, hR, hH⟩ := hI.1.ex
      have hc : a.eval c = .bool t := ev_c hR hev
      refine wp_cond hc ?_
      cases t
      · exact runCode_wp hcall hdraw y k A A' ex a w Q hr hok.2 hI hQ
      · exact runCode_wp hcall hdraw x k A A' ex a w Q hr hok.1 hI hQ
    · cases hr
  | .block id b, k, A, A', ex, a, w, Q, hr, hok, hI, hQ => by
    simp only [codeOk] at hok
    simp only [runCode] at hr
    refine wp_block ?_
    split at hr
    · rename_i j A1 h1
      refine runCode_wp hcall hdraw b id A A1 (.exit j) a w _ h1 hok hI fun a' w' hI' => ?_
      simp only [exOf, Exit.inBlock]
      split at hr
      · rename_i e; cases hr; rw [if_pos e]; exact hQ _ _ hI'
      · rename_i e; cases hr; rw [if_neg e]; exact hQ _ _ hI'
    · rename_i hne
      refine runCode_wp hcall hdraw b id A A' ex a w _ hr hok hI fun a' w' hI' => ?_
      have := hQ a' w' hI'
      cases ex with
      | normal => exact this
      | exit j => exact absurd hr (hne j A')
      | ret => exact this
  | .exit id, k, A, A', ex, a, w, Q, hr, hok, hI, hQ => by
    simp only [runCode] at hr
    cases hr
    exact wp_exit (hQ _ _ hI)
  | .ret, k, A, A', ex, a, w, Q, hr, hok, hI, hQ => by
    simp only [runCode] at hr
    cases hr
    exact wp_ret (hQ _ _ hI)
  | .loop b, k, A, A', ex, a, w, Q, hr, hok, hI, hQ => by
    simp only [codeOk] at hok
    simp only [runCode] at hr
    refine wp_loop_n (fun j a w => ∃ A1, InvP γ0 w0 n pr pv A1 a w ∧ iterN j (fun A => runCode E call (iterN N) draw h b k (canon (h.live k) A)) A1 = some (ex, A')) ⟨A, hI, hr⟩ (fun a w => ?_) (fun j a w => ?_)
    · rintro ⟨A1, _, h1⟩
      simp [iterN] at h1
    · rintro ⟨A1, hI1, h1⟩
      simp only [iterN] at h1
      have hI2 : InvP γ0 w0 n pr pv (canon (h.live k) A1) a w := ⟨hI1.1.canon _, hI1.2⟩
      split at h1
      · rename_i A2 h2
        exact runCode_wp hcall hdraw b k _ A2 .normal a w _ h2 hok hI2 fun a' w' hI' => ⟨A2, hI', h1⟩
      · rename_i hne
        refine runCode_wp hcall hdraw b k _ A' ex a w _ h1 hok hI2 fun a' w' hI' => ?_
        have := hQ a' w' hI'
        cases ex with
        | normal => exact absurd h1 (hne A')
        | exit id => exact this
        | ret => exact this
  | .region id ops d, k, A, A', ex, a, w, Q, hr, hok, hI, hQ => by
    have hops : OpsOk n pr ops := fun o ho t ht => by
      simp only [codeOk, Array.all_eq_true_iff_forall_mem] at hok
      have := hok o ho
      rw [ht] at this
      simpa using this
    simp only [runCode] at hr
    split at hr
    · rename_i A1 h1
      cases hr
      cases d with
      | false =>
        simp only [Bool.false_eq_true, if_false] at h1
        refine wp_region ?_
        rw [List.range_eq_range']
        exact runOps_wp hcall hops 0 ops.size A a w (by omega) (by simpa using h1) hI hQ
      | true =>
        simp only [if_true] at h1
        exact hdraw h ops A _ γ0 w0 n pr pv a w id Q h1 hops hI hQ
    · cases hr
  | .rangeFunc _ _ _ _, k, A, A', ex, a, w, Q, hr, hok, hI, hQ => by simp [runCode] at hr
  | .goto _, k, A, A', ex, a, w, Q, hr, hok, hI, hQ => by simp [runCode] at hr
  | .label _, k, A, A', ex, a, w, Q, hr, hok, hI, hQ => by simp [runCode] at hr
  | .scope _, k, A, A', ex, a, w, Q, hr, hok, hI, hQ => by simp [runCode] at hr
  | .refuse _, k, A, A', ex, a, w, Q, hr, hok, hI, hQ => by simp [runCode] at hr
end
end Go.Tree
namespace Go.Tree
set_option linter.unusedVariables false
set_option linter.unusedSimpArgs false
set_option linter.constructorNameAsVariable false

section
variable {P : Program} {γ : Gh} {A : St} {a : Act} {w : World}
def resM (tmps : Array Value) : ResultVar → Sem Value
  | .tmp t => pure (tmps.getD t undef)
  | .cell a t => do loadVar t (← asAddr (tmps.getD a undef))
theorem resM_run (hR : Rel γ A a.tmps w) : ∀ {l : List ResultVar} {rs : List TV}, resultsOf P A l = some rs → ∃ vals, (l.mapM (resM a.tmps)).run P w = .ok vals w ∧ F2 (fun x y => TVrep γ w x y) rs vals
  | [], rs, h => by
    simp only [resultsOf] at h
    cases h
    exact ⟨[], by simp, .nil⟩
  | r :: l, rs, h => by
    simp only [resultsOf] at h
    split at h
    · rename_i x rs' h1 h2
      cases h
      obtain ⟨vals, e, hv⟩ := resM_run hR h2
      have : ∃ v, (resM a.tmps r).run P w = .ok v w ∧ TVrep γ w x v := by
        cases r with
        | tmp t =>
          simp only [Option.some.injEq] at h1
          subst h1
          have h3 := hR.eval (d := a.defers) (.tmp t)
          exact ⟨a.tmps.getD t undef, by simp [resM], h3⟩
        | cell b t =>
          dsimp only at h1
          split at h1
          · rename_i y hy
            split at h1
            · cases h1
            · rename_i hne
              split at h1
              · rename_i cs hcs
                have hv0 := hR.eval (d := a.defers) (.tmp b)
                simp only [St.ev, Act.eval, hy] at hv0
                obtain ⟨blk, off, us, h3, h4, h5, h6⟩ := at_rep hR hv0 hcs
                obtain ⟨u, h7, h8⟩ := run_loadVar h5 h4 hne h6 h1
                exact ⟨u, by simp [resM, h3, asAddr, h7], h8⟩
              · cases h1
          · cases h1
      obtain ⟨v, e1, hx⟩ := this
      exact ⟨v :: vals, by simp [List.mapM_cons, e1, e], .cons hx hv⟩
    · cases h
theorem results_run {fn : Func} {rs : List TV} (hR : Rel γ A a.tmps w) (h : resultsOf P A fn.results.toList = some rs) :
    ∃ vals, (results fn a.tmps).run P w = .ok (resVal vals) w ∧ F2 (fun x y => TVrep γ w x y) rs vals := by
  obtain ⟨vals, e, hv⟩ := resM_run hR h
  refine ⟨vals, ?_, hv⟩
  have e1 : results fn a.tmps = (do
      let vs ← fn.results.mapM (resM a.tmps)
      pure (if h : vs.size = 1 then vs[0] else .tuple vs)) := by
    unfold results
    congr 1
  rw [e1, Array.mapM_eq_mapM_toList]
  simp only [Sem.run_bind, Sem.run_map, e, Result.andThen_ok]
  have : (if h : vals.toArray.size = 1 then vals.toArray[0] else Value.tuple vals.toArray) = resVal vals := by
    cases vals with
    | nil => rfl
    | cons v l => cases l with
      | nil => rfl
      | cons u l => rfl
  simp only [List.size_toArray, List.getElem_toArray] at this
  simp [this]
end

theorem codeOk.mono {n m : Nat} {pr : List Nat} (h : n ≤ m) : ∀ c : Code, codeOk n pr c = true → codeOk m pr c = true
  | .seq a b, hc => by simp only [codeOk, Bool.and_eq_true] at *; exact ⟨codeOk.mono h a hc.1, codeOk.mono h b hc.2⟩
  | .cond _ a b, hc => by simp only [codeOk, Bool.and_eq_true] at *; exact ⟨codeOk.mono h a hc.1, codeOk.mono h b hc.2⟩
  | .block _ b, hc => by simp only [codeOk] at *; exact codeOk.mono h b hc
  | .loop b, hc => by simp only [codeOk] at *; exact codeOk.mono h b hc
  | .region _ ops _, hc => by
    simp only [codeOk, Array.all_eq_true_iff_forall_mem] at *
    intro o ho
    have := hc o ho
    split at this
    · rename_i t ht
      simp only [ht, Bool.and_eq_true, decide_eq_true_eq] at *
      exact ⟨Nat.lt_of_lt_of_le this.1 h, this.2⟩
    · rename_i ht; simp [ht]
  | .skip, _ => rfl
  | .rangeFunc _ _ _ _, _ => rfl
  | .exit _, _ => rfl
  | .scope _, _ => rfl
  | .label _, _ => rfl
  | .goto _, _ => rfl
  | .ret, _ => rfl
  | .refuse _, _ => rfl

section
variable {E : Env} {call : FuncId → St → Option St} {draw : Hint → Array Oper → St → Option St} {N : Nat}
theorem runBody_tells (hcall : ∀ f S R, call f S = some R → Tells E.P f (E.mode f) (E.nres f) S R) (hdraw : DrawOk E call draw) {f : FuncId} {fn : Func} {c : Code} {S R : St}
    (hf : E.P.funcs[f]? = some fn) (hb : fn.body = some c) (hr : runBody E call (iterN N) draw f fn c S = some R) : Tells E.P f (E.mode f) (E.nres f) S R := by
  intro γ0 vs w hR
  unfold runBody at hr
  split at hr
  · cases hr
  · rename_i hok
    have hok : codeOk fn.ntmps (protectedSlots (E.mode f)) c = true := by simpa using hok
    have hget : ∀ t, (vs.toArray ++ Array.replicate (fn.ntmps - vs.toArray.size) undef).getD t undef = vs.toArray.getD t undef := fun t => by
      simp only [Array.getD_eq_getD_getElem?, Array.getElem?_append]
      split
      · rfl
      · rename_i hlt
        rw [Array.getElem?_eq_none (Nat.le_of_not_lt hlt)]
        simp only [Array.getElem?_replicate]
        split <;> rfl
    have fin : ∀ ex A, runCode E call (iterN N) draw (E.hint f) c 0 S = some (ex, A) → (ex = .normal ∨ ex = .ret) →
        (match resultsOf E.P A fn.results.toList with
        | some rs =>
          let back := if E.mode f = 1 ∨ E.mode f = 2 then [A.get 0] else []
          let tvs := rs ++ back
          if nodup (selObs A tvs) && nodup (selBoxes tvs) && rs.length == E.nres f then some (A.pack (selObs A tvs) (selBoxes tvs) tvs) else none
        | none => none) = some R → Calls E.P f vs.toArray w fun e w' =>
          ∃ vals γ', e = .returned (resVal vals) ∧ vals.length = E.nres f ∧ Rel γ' R (vals ++ back (E.mode f) vs).toArray w' ∧ Hist γ0 w γ' w' := fun ex A hc hex hres => by
      refine calls_of_wp hf hb (runCode_wp hcall hdraw (n := (vs.toArray ++ Array.replicate (fn.ntmps - vs.toArray.size) undef).size) (pr := protectedSlots (E.mode f)) (pv := fun t => vs.toArray.getD t undef) (γ0 := γ0) (w0 := w)
        c 0 S A ex _ w _ hc (codeOk.mono (by simp; omega) c hok) ⟨⟨⟨γ0, ⟨fun t x hx => ?_, hR.bx, hR.ob, hR.zt, hR.lt⟩, Hist.refl γ0 w⟩, rfl, rfl⟩, fun t ht => hget t⟩ fun a' w' hI => ?_)
      · show TVrep γ0 w x ((vs.toArray ++ Array.replicate (fn.ntmps - vs.toArray.size) undef).getD t undef)
        rw [hget]
        exact hR.tm t x hx
      · have core : a'.defers = [] ∧ ∃ v, (results fn a'.tmps).run E.P w' = .ok v w' ∧
            ∃ vals γ', Ending.returned v = .returned (resVal vals) ∧ vals.length = E.nres f ∧ Rel γ' R (vals ++ back (E.mode f) vs).toArray w' ∧ Hist γ0 w γ' w' := by
          refine ⟨hI.1.df, ?_⟩
          obtain ⟨γ, hRA, hHA⟩ := hI.1.ex
          split at hres
          · rename_i rs hrs
            dsimp only at hres
            generalize hbk : (if E.mode f = 1 ∨ E.mode f = 2 then [A.get 0] else []) = bk at hres
            split at hres
            · rename_i hcond
              cases hres
              simp only [Bool.and_eq_true, beq_iff_eq] at hcond
              obtain ⟨vals, hrun, hF⟩ := results_run hRA hrs
              have hF2 : F2 (fun x y => TVrep γ w' x y) (rs ++ bk) (vals ++ back (E.mode f) vs) := by
                refine hF.append ?_
                rw [← hbk]
                unfold back
                split
                · rename_i hm
                  refine .cons ?_ .nil
                  have h1 := hRA.eval (d := a'.defers) (.tmp 0)
                  have h2 := hI.2 0 (by unfold protectedSlots; rw [if_pos hm]; simp)
                  have h3 : a'.tmps.getD 0 undef = vs.getD 0 undef := by rw [h2]; simp
                  rw [← h3]
                  exact h1
                · exact .nil
              obtain ⟨γ1, k1, k2, k3, _, _⟩ := Rel.exported (sel := selObs A (rs ++ bk)) (bsel := selBoxes (rs ++ bk))
                (LO := (shared A (selBoxes (rs ++ bk)) (rs ++ bk)).flatMap (lentAV A))
                (LB := (shared A (selBoxes (rs ++ bk)) (rs ++ bk)).flatMap AV.bxs) hRA hF2 fun v hyp => by
                  have hm : v ∈ shared A (selBoxes (rs ++ bk)) (rs ++ bk) := by
                    unfold shared
                    rw [List.mem_append, List.mem_flatMap, List.mem_flatMap]
                    rcases hyp with ⟨x, hx, hvx⟩ | ⟨b, hb, l, hl, hvl⟩
                    · exact .inl ⟨x, hx, by rw [all_avs]; exact hvx⟩
                    · exact .inr ⟨b, hb, by rw [hl]; exact hvl⟩
                  exact ⟨fun o ho => List.mem_flatMap.2 ⟨v, hm, ho⟩, fun b hb => List.mem_flatMap.2 ⟨v, hm, hb⟩⟩
              have tgn : ∀ b, γ1.tg b ≠ none → γ.tg b ≠ none := fun b hb => by
                rcases k2 b hb with ⟨o, _, h | ⟨i, h⟩⟩ | ⟨x, _, h⟩ <;> rw [h] <;> simp
              refine ⟨_, hrun, vals, γ1, rfl, ?_, k1, hHA.size, hHA.os, hHA.tape, hHA.output, fun b hb ht => ⟨(hHA.block b hb ht).1, ?_⟩, fun b hb hz => ?_⟩
              · rw [← hF.length]; exact hcond.2
              · exact Classical.byContradiction fun h => tgn b h (hHA.block b hb ht).2
              · have fin : γ.tg b ≠ none → γ0.z b ∨ γ0.tg b ≠ none := fun h => .inr fun e => h (hHA.block b hb e).2
                rcases k3 b hz with h | ⟨o, _, _, h⟩ | ⟨x, _, _, h⟩
                · exact hHA.z b hb h
                · exact fin (by rcases h with h | ⟨i, h⟩ <;> rw [h] <;> simp)
                · exact fin (by rw [h]; simp)
            · cases hres
          · cases hres
        rcases hex with rfl | rfl
        · exact core
        · exact core
    split at hr
    · cases hr
    · rename_i ex A hne hc
      refine fin ex A hc ?_ hr
      cases ex with
      | normal => exact .inl rfl
      | exit id => exact absurd rfl (hne id)
      | ret => exact .inr rfl
    · cases hr
end
end Go.Tree
namespace Go.Tree
set_option linter.unusedVariables false
set_option linter.unusedSimpArgs false
set_option linter.constructorNameAsVariable false

section
variable {P : Program} {ops : Array Oper}

/-- operation i runs and K holds behind it -/
def opDoes (P : Program) (ops : Array Oper) (i : Nat) (K : Act → World → Prop) (a : Act) (w : World) : Prop :=
  ∃ o, ops[i]? = some o ∧
   ((Region.wanted o (yielded ops a.tmps) = false ∧ K (a.put o.dst undef) w) ∨
    (Region.wanted o (yielded ops a.tmps) = true ∧
      ((∃ r w' v, (execOp a.eval o).run P w = .ok r w' ∧ (r = .value v ∨ r = .skip ∧ v = undef) ∧ K (a.put o.dst v) w') ∨
       ∃ f args, (execOp a.eval o).run P w = .ok (.enter f args) w ∧ Calls P f args w fun e w' => ∃ v, e = .returned v ∧ K (a.put o.dst v) w')))
theorem opDoes.mono {i : Nat} {K K' : Act → World → Prop} {a : Act} {w : World} (h : opDoes P ops i K a w) (hk : ∀ a w, K a w → K' a w) : opDoes P ops i K' a w := by
  obtain ⟨o, ho, h⟩ := h
  refine ⟨o, ho, h.imp (fun h => ⟨h.1, hk _ _ h.2⟩) fun h => ⟨h.1, h.2.imp ?_ ?_⟩⟩
  · rintro ⟨r, w', v, h1, h2, h3⟩; exact ⟨r, w', v, h1, h2, hk _ _ h3⟩
  · rintro ⟨f, args, h1, h2⟩; exact ⟨f, args, h1, h2.mono fun e w' ⟨v, he, h3⟩ => ⟨v, he, hk _ _ h3⟩⟩
theorem opDoes.wpOp {i : Nat} {K : Act → World → Prop} {a : Act} {w : World} {Q : Exit → Act → World → Prop} (h : opDoes P ops i K a w) : wpOp P ops Q i K a w := by
  obtain ⟨o, ho, h⟩ := h
  unfold Go.wpOp
  simp only [ho]
  rcases h with ⟨h1, h2⟩ | ⟨h1, h2⟩
  · simp only [h1, Bool.false_eq_true, if_false]; exact h2
  · simp only [h1, if_true]
    refine .inl ?_
    unfold Oper.wp
    rcases h2 with ⟨r, w', v, h3, h4, h5⟩ | ⟨f, args, h3, h4⟩
    · rw [h3]
      rcases h4 with rfl | ⟨rfl, rfl⟩
      · exact h5
      · exact h5
    · rw [h3]
      refine h4.mono fun e w' he => ?_
      obtain ⟨v, rfl, hk⟩ := he
      exact hk

def keeps (B : Nat → Prop) (w w' : World) : Prop := ∀ b, B b → w'.heap[b]? = w.heap[b]?
theorem keeps.refl {B : Nat → Prop} (w : World) : keeps B w w := fun _ _ => rfl
theorem keeps.trans {B : Nat → Prop} {w w' w'' : World} (h : keeps B w w') (h' : keeps B w' w'') : keeps B w w'' := fun b hb => (h' b hb).trans (h b hb)

/-- an operation that yields v while the blocks B stay as they are in w -/
def YieldsIn (P : Program) (ops : Array Oper) (o : Oper) (v : Value) (a : Act) (B : Nat → Prop) (w : World) : Prop :=
  (Region.wanted o (yielded ops a.tmps) = true ∧ ∀ w', keeps B w w' → (execOp a.eval o).run P w' = .ok (.value v) w') ∨ (Region.wanted o (yielded ops a.tmps) = false ∧ v = undef)
theorem YieldsIn.later {o : Oper} {v : Value} {a : Act} {B : Nat → Prop} {w w' : World} (h : YieldsIn P ops o v a B w) (hk : keeps B w w') : YieldsIn P ops o v a B w' :=
  h.imp (fun h => ⟨h.1, fun w'' hw => h.2 w'' (hk.trans hw)⟩) id

theorem opDoes_put {j : Nat} {oi oj : Oper} {v : Value} (hj : ops[j]? = some oj) (hap : oi.apart ops oj = true) (hsi : ∀ cs b, oi.op ≠ .select cs b) (hsj : ∀ cs b, oj.op ≠ .select cs b)
    {K : Act → World → Prop} {a : Act} {w : World} {B : Nat → Prop} (hy : YieldsIn P ops oi v a B w) (h : opDoes P ops j K (a.put oi.dst v) w) :
    opDoes P ops j (fun a' w' => YieldsIn P ops oi v a' B w ∧ K (a'.put oi.dst v) w') a w := by
  obtain ⟨h1, h2, h3⟩ := Oper.apart_spec hap
  have keep : ∀ u, YieldsIn P ops oi v (a.put oj.dst u) B w := fun u => by
    unfold YieldsIn at *
    rw [execOp_put oi hsi a oj.dst u h3, wanted_put oi a oj.dst u h3]
    exact hy
  have comm : ∀ u, (a.put oj.dst u).put oi.dst v = (a.put oi.dst v).put oj.dst u := fun u => (Act.put_comm a v u h2).symm
  obtain ⟨o, ho, h⟩ := h
  rw [hj] at ho
  cases ho
  rw [wanted_put oj a oi.dst v h1, execOp_put oj hsj a oi.dst v h1] at h
  refine ⟨oj, hj, h.imp (fun h => ⟨h.1, keep _, by rw [comm]; exact h.2⟩) fun h => ⟨h.1, h.2.imp ?_ ?_⟩⟩
  · rintro ⟨r, w', u, q1, q2, q3⟩; exact ⟨r, w', u, q1, q2, keep u, by rw [comm]; exact q3⟩
  · rintro ⟨f, args, q1, q2⟩; exact ⟨f, args, q1, q2.mono fun e w' ⟨u, he, q3⟩ => ⟨u, he, keep u, by rw [comm]; exact q3⟩⟩

/-- in any order the edges allow; operation i leaves the blocks K i alone -/
def anyK (P : Program) (ops : Array Oper) (Q : Act → World → Prop) (K : Nat → Nat → Prop) : Nat → Array Bool → Act → World → Prop
  | 0, listed, a, w => Region.ready .any ops listed = [] ∧ Q a w
  | fuel + 1, listed, a, w => (Region.ready .any ops listed = [] → Q a w) ∧
    ∀ i ∈ Region.ready .any ops listed, opDoes P ops i (fun a' w' => keeps (K i) w w' ∧ anyK P ops Q K fuel (listed.setIfInBounds i true) a' w') a w
theorem anyK.mono {Q : Act → World → Prop} {K K' : Nat → Nat → Prop} (hk : ∀ i b, K i b → K' i b) : ∀ {fuel : Nat} {listed : Array Bool} {a : Act} {w : World}, anyK P ops Q K' fuel listed a w → anyK P ops Q K fuel listed a w
  | 0, _, _, _, h => h
  | fuel + 1, _, _, _, h => ⟨h.1, fun i hi => (h.2 i hi).mono fun a w h => ⟨fun b hb => h.1 b (hk i b hb), anyK.mono hk h.2⟩⟩
theorem anyK.wpAny {Q : Exit → Act → World → Prop} {K : Nat → Nat → Prop} : ∀ {fuel : Nat} {listed : Array Bool} {a : Act} {w : World}, anyK P ops (Q .normal) K fuel listed a w → wpAny P .any ops Q fuel listed a w
  | 0, _, _, _, h => h
  | fuel + 1, _, _, _, h => ⟨h.1, fun i hi => (opDoes.mono (h.2 i hi) fun a w h => anyK.wpAny h.2).wpOp⟩

/-- does one of two operations bind the other -/
def tied (ops : Array Oper) (i j : Nat) : Bool := match ops[j]? with | some oj => oj.after.any fun e => Region.binds .any e && e.on == i | none => false

/-- An operation that is ready, that nothing disturbs, can be taken first. -/
theorem anyK_take {m : Nat} {om : Oper} {v : Value} (hm : ops[m]? = some om) (hsel : Region.noSelect ops = true) {Q : Act → World → Prop} {K K' : Nat → Nat → Prop} {B : Nat → Prop} (hK : ∀ i b, K i b → K' i b) :
    ∀ (fuel : Nat) (listed : Array Bool) (a : Act) (w : World),
      (∀ j oj, ops[j]? = some oj → j ≠ m → listed.getD j true = false → tied ops m j = false → om.apart ops oj = true ∧ ∀ b, B b → K' j b) →
      m ∈ Region.ready .any ops listed → YieldsIn P ops om v a B w → anyK P ops Q K' fuel (listed.setIfInBounds m true) (a.put om.dst v) w → anyK P ops Q K (fuel + 1) listed a w := by
  have self : ∀ (fuel : Nat) (listed : Array Bool) (a : Act) (w : World), YieldsIn P ops om v a B w → anyK P ops Q K' fuel (listed.setIfInBounds m true) (a.put om.dst v) w →
      opDoes P ops m (fun a' w' => keeps (K m) w w' ∧ anyK P ops Q K fuel (listed.setIfInBounds m true) a' w') a w := fun fuel listed a w hy H => by
    refine ⟨om, hm, ?_⟩
    rcases hy with ⟨h1, h2⟩ | ⟨h1, rfl⟩
    · exact .inr ⟨h1, .inl ⟨.value v, w, v, h2 w (.refl w), .inl rfl, .refl w, H.mono hK⟩⟩
    · exact .inl ⟨h1, .refl w, H.mono hK⟩
  intro fuel
  induction fuel with
  | zero =>
    intro listed a w _ hr hy H
    refine ⟨fun h => (by rw [h] at hr; cases hr), fun j hj => ?_⟩
    by_cases hji : j = m
    · subst hji; exact self 0 listed a w hy H
    · have := ready_mono hj hji
      rw [H.1] at this
      cases this
  | succ fuel ih =>
    intro listed a w hfree hr hy H
    refine ⟨fun h => (by rw [h] at hr; cases hr), fun j hj => ?_⟩
    by_cases hji : j = m
    · subst hji; exact self _ listed a w hy H
    · have h1 := H.2 j (ready_mono hj hji)
      obtain ⟨hjun, oj, hoj, hall⟩ := mem_ready.1 hj
      have hnot : tied ops m j = false := by
        unfold tied
        rw [hoj]
        dsimp only
        refine Bool.eq_false_iff.2 fun h => ?_
        obtain ⟨e, he, hb⟩ := Array.any_eq_true'.1 h
        simp only [Bool.and_eq_true, beq_iff_eq] at hb
        have h1 := hall e he hb.1
        have h0 := (mem_ready.1 hr).1
        rw [hb.2] at h1
        rcases Nat.lt_or_ge m listed.size with h' | h'
        · simp [h'] at h0 h1; rw [h0] at h1; cases h1
        · simp [Array.getElem?_eq_none h'] at h1
      obtain ⟨hap, hB⟩ := hfree j oj hoj hji hjun hnot
      have h2 := opDoes_put hoj hap (fun cs b => Region.noSelect_spec hsel m om cs b hm) (fun cs b => Region.noSelect_spec hsel j oj cs b hoj) hy h1
      refine h2.mono fun a' w' ⟨hy', hk, H'⟩ => ⟨fun b hb => hk b (hK j b hb), ?_⟩
      refine ih (listed.setIfInBounds j true) a' w' (fun k ok hk hki hun hno => ?_) (ready_mono hr (Ne.symm hji)) (hy'.later fun b hb => hk b (hB b hb)) ?_
      · refine hfree k ok hk hki ?_ hno
        by_cases hjk : j = k
        · subst hjk; exact hjun
        · rw [getD_set_ne true hjk] at hun; exact hun
      · rw [Array.setIfInBounds_comm _ _ hji]
        exact H'
end
end Go.Tree
namespace Go.Tree
set_option linter.unusedVariables false
set_option linter.unusedSimpArgs false
set_option linter.constructorNameAsVariable false
set_option maxHeartbeats 20000

/-- a computation that changes nothing and reads the blocks B alone -/
def StillB {α : Type} (B : Nat → Prop) (s : Sem α) : Prop := ∀ (P : Program) (w w' : World) (r : α) (w1 : World), keeps B w w' → s.run P w = .ok r w1 → w1 = w ∧ s.run P w' = .ok r w'
section
variable {α β : Type} {B : Nat → Prop}
theorem StillB.pure (x : α) : StillB B (Pure.pure x : Sem α) := fun P w w' r w1 _ h => by
  simp only [Sem.run_pure] at h ⊢
  cases h
  exact ⟨rfl, rfl⟩
theorem StillB.halt (h : Halt) : StillB B (.halt h : Sem α) := fun P w w' r w1 _ hr => by simp [Sem.run] at hr
theorem StillB.stuck (s : String) : StillB B (stuck s : Sem α) := StillB.halt _
theorem StillB.unsupported (u : Unsupported) : StillB B (unsupported u : Sem α) := StillB.halt _
theorem StillB.program : StillB B Go.program := fun P w w' r w1 _ h => by
  simp [Go.program, Sem.run] at h ⊢
  exact ⟨h.2.symm, h.1⟩
theorem StillB.bind {x : Sem α} {f : α → Sem β} (hx : StillB B x) (hf : ∀ a, StillB B (f a)) : StillB B (x >>= f) := fun P w w' r w1 hk h => by
  rw [Sem.run_bind] at h ⊢
  cases hr : x.run P w with
  | halt e w2 => rw [hr] at h; simp at h
  | ok a w2 =>
    rw [hr] at h
    obtain ⟨rfl, e⟩ := hx P w w' a w2 hk hr
    rw [e]
    exact hf a P _ w' r w1 hk h
theorem StillB.map {x : Sem α} {f : α → β} (hx : StillB B x) : StillB B (f <$> x) := fun P w w' r w1 hk h => by
  rw [Sem.run_map] at h ⊢
  cases hr : x.run P w with
  | halt e w2 => rw [hr] at h; simp at h
  | ok a w2 =>
    rw [hr] at h
    obtain ⟨rfl, e⟩ := hx P w w' a w2 hk hr
    rw [e]
    simp only [Result.andThen_ok] at h ⊢
    cases h
    exact ⟨rfl, rfl⟩
/-- a computation that comes to no value -/
def Never {α : Type} (s : Sem α) : Prop := ∀ (P : Program) (w : World) (r : α) (w1 : World), s.run P w ≠ .ok r w1
theorem Never.still {s : Sem α} (h : Never s) : StillB B s := fun P w w' r w1 _ hr => absurd hr (h P w r w1)
theorem Never.halt (h : Halt) : Never (.halt h : Sem α) := fun P w r w1 hr => by simp [Sem.run] at hr
theorem Never.bind {x : Sem α} {f : α → Sem β} (hf : ∀ a, Never (f a)) : Never (x >>= f) := fun P w r w1 h => by
  rw [Sem.run_bind] at h
  cases hr : x.run P w with
  | halt e w2 => rw [hr] at h; simp at h
  | ok a w2 => rw [hr] at h; exact hf a P w2 r w1 h
theorem Never.runtimePanic (e : RuntimeError) : Never (runtimePanic e : Sem α) := by
  unfold Go.runtimePanic
  refine Never.bind fun p => ?_
  cases e <;> first | exact Never.halt _ | exact Never.bind fun _ => Never.bind fun _ => Never.halt _
theorem Never.boundsPanic (k : IntKind) (x y : Int) (c : BoundsCode) : Never (boundsPanic k x y c : Sem α) := by
  unfold Go.boundsPanic
  dsimp only
  split
  · exact Never.bind fun p => Never.runtimePanic _
  · exact Never.bind fun p => Never.runtimePanic _
theorem StillB.runtimePanic (e : RuntimeError) : StillB B (runtimePanic e : Sem α) := (Never.runtimePanic e).still
theorem StillB.boundsPanic (k : IntKind) (x y : Int) (c : BoundsCode) : StillB B (boundsPanic k x y c : Sem α) := (Never.boundsPanic k x y c).still
theorem StillB.typeInfo (t : TypeId) : StillB B (typeInfo t) := by
  unfold Go.typeInfo
  refine .bind .program fun p => ?_
  split
  · exact .pure _
  · exact .stuck _
theorem StillB.underlying (t : TypeId) : StillB B (underlying t) := by
  unfold Go.underlying
  refine .bind .program fun p => ?_
  split
  · exact .pure _
  · exact .stuck _
theorem StillB.sizeOf (t : TypeId) : StillB B (Go.sizeOf t) := .bind (.typeInfo t) fun _ => .pure _
theorem StillB.zeroValue (t : TypeId) : StillB B (zeroValue t) := by
  unfold Go.zeroValue
  refine .bind (.typeInfo t) fun p => ?_
  split
  · exact .pure _
  · exact .unsupported _
theorem StillB.asIntOf (v : Value) : StillB B (asIntOf v) := by unfold Go.asIntOf; split <;> first | exact .pure _ | exact .unsupported _ | exact .stuck _
theorem StillB.asBool (v : Value) : StillB B (asBool v) := by unfold Go.asBool; split <;> first | exact .pure _ | exact .stuck _
theorem StillB.sureAddr (v : Value) : StillB B (Instr.sureAddr v) := by unfold Instr.sureAddr; split <;> first | exact .pure _ | exact .stuck _
theorem StillB.asAddr (v : Value) : StillB B (asAddr v) := by unfold Go.asAddr; split <;> first | exact .pure _ | exact .stuck _ | exact .runtimePanic _
theorem StillB.ite {c : Prop} [Decidable c] {x y : Sem α} (hx : StillB B x) (hy : StillB B y) : StillB B (if c then x else y) := by split <;> assumption
theorem StillB.sliceBound (x : Value) (y : Nat) (c : BoundsCode) : StillB B (Instr.sliceBound x y c) := by
  unfold Instr.sliceBound
  refine .bind (.asIntOf x) fun p => ?_
  obtain ⟨k, i⟩ := p
  exact .ite (.pure _) (.boundsPanic _ _ _ _)
theorem StillB.sliceBounds (s : Bool) (len cap : Nat) (lo hi mx : Option Value) : StillB B (Instr.sliceBounds s len cap lo hi mx) := by
  unfold Instr.sliceBounds
  cases mx <;> cases hi <;> cases lo <;> dsimp only <;> repeat' (first | exact StillB.pure _ | exact StillB.sliceBound _ _ _ | exact StillB.stuck _ | refine StillB.bind ?_ (fun _ => ?_))
theorem StillB.slice (t : TypeId) (x : Value) (lo hi mx : Option Value) : StillB B (Instr.slice t x lo hi mx) := by
  unfold Instr.slice
  refine .bind (.underlying t) fun d => ?_
  split
  · repeat' (first | exact StillB.pure _ | exact StillB.stuck _ | exact StillB.sliceBounds _ _ _ _ _ _ | refine StillB.bind ?_ (fun _ => ?_) | split)
  · exact .bind (.sliceBounds _ _ _ _ _ _) fun p => .bind (.sizeOf _) fun _ => .pure _
  · refine .bind (.asAddr _) fun a => .bind (.underlying _) fun d' => ?_
    split
    · exact .bind (.sliceBounds _ _ _ _ _ _) fun p => .bind (.sizeOf _) fun _ => .pure _
    · exact .stuck _
  · exact .stuck _
theorem StillB.sliceAt (t : TypeId) (x : Value) (lo hi mx : Option Value) : StillB B (Instr.sliceAt t x lo hi mx) := by
  unfold Instr.sliceAt
  refine .bind (.underlying t) fun d => ?_
  split
  · exact .bind (.sureAddr _) fun a => .bind (.sliceBounds _ _ _ _ _ _) fun p => .bind (.sizeOf _) fun _ => .pure _
  · exact .slice _ _ _ _ _
theorem StillB.indexAt (t : TypeId) (x i : Value) : StillB B (Instr.indexAt t x i) := by
  unfold Instr.indexAt
  refine .bind (.asIntOf i) fun p => .bind (.underlying t) fun d => ?_
  dsimp only
  split
  all_goals repeat' (first | exact StillB.pure _ | exact StillB.stuck _ | exact StillB.unsupported _ | exact StillB.boundsPanic _ _ _ _ | exact StillB.sureAddr _ | exact StillB.underlying _ | exact StillB.sizeOf _ | refine StillB.ite ?_ ?_ | refine StillB.bind ?_ (fun _ => ?_) | (split))
theorem StillB.extract (x : Value) (i : Nat) : StillB B (Instr.extract x i) := by
  unfold Instr.extract
  split
  · split
    · exact .pure _
    · exact .stuck _
  · exact .stuck _
theorem StillB.listMapM {f : α → Sem β} (hf : ∀ a, StillB B (f a)) : ∀ l : List α, StillB B (l.mapM f)
  | [] => by simpa using StillB.pure []
  | a :: l => by rw [List.mapM_cons]; exact .bind (hf a) fun _ => .bind (StillB.listMapM hf l) fun _ => .pure _
theorem StillB.build (t : TypeId) (ps : Array (Nat × Value)) : StillB B (Instr.build t ps) := by
  unfold Instr.build
  refine .bind (.zeroValue t) fun z => .bind (.underlying t) fun d => ?_
  split
  · refine .bind ?_ fun pl => ?_
    · rw [Array.mapM_eq_mapM_toList]
      exact .map (.listMapM (fun f => .bind (.sizeOf _) fun _ => .pure _) _)
    · split
      · exact .pure _
      · exact .stuck _
  · refine .bind (.sizeOf _) fun _ => ?_
    split
    · exact .pure _
    · exact .stuck _
  · exact .stuck _
end
end Go.Tree
namespace Go.Tree
set_option linter.unusedVariables false
set_option linter.unusedSimpArgs false
set_option linter.constructorNameAsVariable false
set_option maxHeartbeats 20000

/-- an operation that touches no memory, whatever its operands -/
def stillOp : Op → Bool
  | .move _ => true | .assign _ => true | .pick _ _ _ => true | .indexAddr _ _ _ => true | .slice _ _ _ _ _ => true | .extract _ _ => true | .build _ _ => true | .makeFunc _ _ _ => true
  | _ => false
theorem stillOp_still {B : Nat → Prop} {ρ : Operand → Value} {o : Oper} (h : stillOp o.op = true) : StillB B (execOp ρ o) := by
  unfold stillOp at h
  unfold execOp
  split at h
  · rename_i e; rw [e]; exact .pure _
  · rename_i e; rw [e]; exact .pure _
  · rename_i e; rw [e]; exact .bind (.asBool _) fun _ => .pure _
  · rename_i e; rw [e]; exact .bind (.indexAt _ _ _) fun _ => .pure _
  · rename_i e; rw [e]; exact .bind (.sliceAt _ _ _ _ _) fun _ => .pure _
  · rename_i e; rw [e]; exact .bind (.extract _ _) fun _ => .pure _
  · rename_i e; rw [e]; exact .bind (.build _ _) fun _ => .pure _
  · rename_i e; rw [e]; exact .bind (.pure _) fun _ => .pure _
  · cases h

section
variable {P : Program} {w : World}
theorem loadVar_keeps {t : TypeId} {blk off : Nat} {cs : List Value} {tv : TV} {γ : Gh} {l : List AV} (hlen : cs.length = P.cellsOf t) (hne : P.cellsOf t ≠ 0)
    (hl : Cells γ w l cs) (ht : cellsTV P t l = some tv) : ∃ v, TVrep γ w tv v ∧ ∀ w', (∀ j x, cs[j]? = some x → w'.cell? ⟨blk, off + j, none⟩ = some x) → (loadVar t ⟨blk, off, none⟩).run P w' = .ok v w' := by
  unfold cellsTV at ht
  cases hu : P.underlying t with
  | none => simp [hu] at ht
  | some d =>
    simp only [hu] at ht
    split at ht
    · rename_i ha
      cases ht
      refine ⟨.agg cs.toArray, ⟨cs, rfl, hl⟩, fun w' hc => ?_⟩
      have hlc := run_loadCells_list (P := P) w' ⟨blk, off, none⟩ cs (fun j v hj => by rw [addr_add]; exact hc j v hj)
      have : (isAgg t).run P w' = .ok true w' := by
        unfold isAggT at ha
        rw [hu] at ha
        simp only [isAgg, Sem.run_bind, run_underlying hu, Result.andThen_ok]; cases d <;> simp_all
      rw [hlen] at hlc
      simp [loadVar, this, run_sizeOf_cells hne, hlc]
    · rename_i ha
      split at ht
      · rename_i x
        cases ht
        have hl1 := hl.length
        cases cs with
        | nil => simp at hl1
        | cons u cs =>
          obtain rfl : cs = [] := by simpa using hl1.symm
          refine ⟨u, ?_, fun w' hc => ?_⟩
          · cases hl with
            | cons r _ => exact r.1
          · have hcu := hc 0 u rfl
            have : (isAgg t).run P w' = .ok false w' := by
              unfold isAggT at ha
              rw [hu] at ha
              simp only [isAgg, Sem.run_bind, run_underlying hu, Result.andThen_ok]
              cases d <;> simp_all
            simp at hcu
            simp [loadVar, this, hcu]
      · cases ht
end

section
variable {P : Program} {γ0 : Gh} {w0 : World} {n : Nat} {A : St} {a : Act} {w : World} {o : Oper}
/-- a load: what it yields, as long as the block that it reads stays -/
theorem load_keeps {t : TypeId} {x : Operand} {v : AV} {l : List AV} {tv : TV} (hop : o.op = .load t x) (hx : A.ev x = .c v) (hl : A.at (P.cellsOf t) v = some l) (ht : cellsTV P t l = some tv) (hne : P.cellsOf t ≠ 0)
    (hI : Inv γ0 w0 n A a w) (hd : ∀ t, o.dst = some t → t < n) : ∃ blk off u, a.eval x = .pointer (some ⟨blk, off, none⟩) ∧ (∀ w', w'.heap[blk]? = w.heap[blk]? → (execOp a.eval o).run P w' = .ok (.value u) w') ∧ Inv γ0 w0 n (A.dst o.dst tv) (a.put o.dst u) w := by
  obtain ⟨γ, hR, hH⟩ := hI.ex
  obtain ⟨blk, off, cs, h1, h2, h3, h4⟩ := at_rep hR (ev_c hR hx) hl
  obtain ⟨u, h6, h5⟩ := loadVar_keeps (blk := blk) (off := off) h2 hne h4 ht
  refine ⟨blk, off, u, h1, fun w' hk => ?_, hI.finish hd ⟨γ, hR, hH, h6⟩⟩
  have := h5 w' fun j x hj => by rw [cell_of_heap hk]; exact h3 j x hj
  simp [execOp, hop, h1, Instr.loadAt, Instr.sureAddr, this]
end
end Go.Tree
namespace Go.Tree
set_option linter.unusedVariables false
set_option linter.unusedSimpArgs false
set_option linter.constructorNameAsVariable false
set_option maxHeartbeats 40000

section
variable {P : Program} {γ0 : Gh} {w0 : World} {n : Nat} {A A' : St} {a : Act} {w : World} {o : Oper}
theorem plainOp_keeps (hI : Inv γ0 w0 n A a w) (hd : ∀ t, o.dst = some t → t < n) (h : plainOp P A o = some A') :
    ∃ u, (∀ w', (execOp a.eval o).run P w' = .ok (.value u) w') ∧ Inv γ0 w0 n A' (a.put o.dst u) w := by
  unfold plainOp at h
  split at h
  · rename_i hv
    simp only [Bool.and_eq_true] at hv
    split at h
    · rename_i v hp
      split at h
      · rename_i hf
        cases h
        obtain ⟨γ, hR, hH⟩ := hI.ex
        have hc : execOp (fun x => (tvVal (A.ev x)).getD undef) o = execOp a.eval o := by
          refine execOp_congr o (fun cs b e => by rw [e] at hv; simp [noSelect] at hv) fun x hx => ?_
          obtain ⟨u, hu⟩ := valsOf_mem hv.1 x (by simpa using hx)
          have := tvVal_rep (hR.eval (d := a.defers) x) hu
          simp only [hu, Option.getD_some]
          exact this.symm
        rw [hc] at hp
        exact ⟨v, fun w' => asPure_run P w' _ hp, hI.finish hd ⟨γ, hR, hH, valTV_rep hf⟩⟩
      · cases h
    · cases h
  · cases h

/-- an operation that touches no memory: what it yields, it yields in any world -/
theorem still_keeps (hI : Inv γ0 w0 n A a w) (hd : ∀ t, o.dst = some t → t < n) {h : Hint} (hs : stillOp o.op = true) (hop : aop P h A o = some A') :
    (∃ u, (∀ w', (execOp a.eval o).run P w' = .ok (.value u) w') ∧ Inv γ0 w0 n A' (a.put o.dst u) w) ∨ ∃ w', (execOp a.eval o).run P w = .ok .skip w' := by
  obtain ⟨r, w', v, h1, h2, h3⟩ := aop_sound hop hI hd
  rcases h2 with rfl | ⟨rfl, rfl⟩
  · obtain ⟨rfl, _⟩ := stillOp_still (B := fun _ => False) (ρ := a.eval) (o := o) hs P w w _ w' (.refl w) h1
    exact .inl ⟨v, fun w' => (stillOp_still (B := fun _ => False) (ρ := a.eval) (o := o) hs P _ w' _ _ (fun _ h => h.elim) h1).2, h3⟩
  · exact .inr ⟨w', h1⟩
end
end Go.Tree
namespace Go.Tree
set_option linter.unusedVariables false
set_option linter.constructorNameAsVariable false

/-- an operation that may be taken first -/
def takeable (P : Program) (A : St) (o : Oper) : Bool := match o.op with
  | .load _ _ => true | .fieldAddr _ _ _ => true | .nilCheck _ => true
  | .call c => (match c.callee with | .builtin .len => true | _ => false)
  | _ => stillOp o.op || (plainOp P A o).isSome
def addrSlot (o : Oper) : Option Nat := match o.op with | .load _ (.tmp t) => some t | _ => none
/-- no operation that is still to come writes slot t -/
def slotSafe (ops : Array Oper) (listed : Array Bool) (o : Oper) : Bool := match addrSlot o with
  | some t => (List.range ops.size).all fun k => listed.getD k true || (match ops[k]? with | some ok => ok.dst != some t | none => true)
  | none => match o.op with | .load _ _ => false | _ => true
/-- the operation leaves the block behind an address alone -/
def isNestT : TV → Bool
  | .c (.nest _ _) => true
  | _ => false
def safeBlock (E : Env) (h : Hint) (A : St) (o : Oper) (x : TV) : Bool := match x with
  | .c v => (A.at 1 v).isSome && (match o.op with
    | .call c => (match c.callee with
      | .value g => (match A.ev g with
        | .c (.fnr f caps) =>
          let hd := handed (E.mode f) (c.args.toList.map A.ev ++ caps.map fun c => TV.c (.rad [] c))
          !(v.obs.any (selObs A hd).contains) && !(v.bxs.any (selBoxes hd).contains) && !hd.any isNestT
        | _ => false)
      | _ => (aop E.P h (A.reduce v.obs [] v.bxs []) o).isSome)
    | _ => (aop E.P h (A.reduce v.obs [] v.bxs []) o).isSome)
  | _ => false

section
variable (E : Env) (call : FuncId → St → Option St)
def oneStep (h : Hint) (ops : Array Oper) (A : St) (i : Nat) : Option St := match ops[i]? with
  | some o => match wants A ops o with
    | some true => opStep E call h A o
    | some false => some (A.dst o.dst (.c (.v undef)))
    | none => none
  | none => none
def runDraw (h : Hint) (ops : Array Oper) : Nat → Array Bool → List (Nat × Nat) → St → Option St
  | 0, listed, _, A => if (Region.ready .any ops listed).isEmpty then some A else none
  | fuel + 1, listed, pend, A =>
    let rs := Region.ready .any ops listed
    match rs.find? (fun i => match ops[i]? with | some o => takeable E.P A o && Region.free .any ops listed i && slotSafe ops listed o | none => false) with
    | some i => match oneStep E call h ops A i with
      | some A1 => runDraw h ops fuel (listed.setIfInBounds i true) (match (ops[i]?).bind addrSlot with | some t => (i, t) :: pend | none => pend) A1
      | none => none
    | none => match rs with
      | [] => some A
      | [i] => if pend.all (fun p => tied ops p.1 i || (match ops[i]? with | some o => safeBlock E h A o (A.get p.2) | none => false)) then
          (match oneStep E call h ops A i with
          | some A1 => runDraw h ops fuel (listed.setIfInBounds i true) pend A1
          | none => none)
        else none
      | _ => none
def drawOf (h : Hint) (ops : Array Oper) (A : St) : Option St := if Region.noSelect ops then runDraw E call h ops ops.size (Array.replicate ops.size false) [] A else none
end
def runFunD (E : Env) (prim : FuncId → Option (St → Option St)) : Nat → FuncId → St → Option St
  | 0, _, _ => none
  | n + 1, f, S => match prim f with
    | some p => p S
    | none => match E.P.funcs[f]? with
      | some fn => match fn.body with
        | some c => runBody E (runFunD E prim n) (iterN n) (drawOf E (runFunD E prim n)) f fn c S
        | none => none
      | none => none
end Go.Tree
namespace Go.Tree
set_option linter.unusedVariables false

theorem runFunD_tells {E : Env} {prim : FuncId → Option (St → Option St)} (hprim : ∀ f p S R, prim f = some p → p S = some R → Tells E.P f (E.mode f) (E.nres f) S R)
    (hdraw : ∀ call, (∀ f S R, call f S = some R → Tells E.P f (E.mode f) (E.nres f) S R) → DrawOk E call (drawOf E call)) :
    ∀ (n : Nat) (f : FuncId) (S R : St), runFunD E prim n f S = some R → Tells E.P f (E.mode f) (E.nres f) S R
  | 0, f, S, R, h => by simp [runFunD] at h
  | n + 1, f, S, R, h => by
    have ih := runFunD_tells hprim hdraw n
    simp only [runFunD] at h
    split at h
    · rename_i p hp; exact hprim f p S R hp h
    · split at h
      · rename_i fn hf
        split at h
        · rename_i c hb; exact runBody_tells ih (hdraw _ ih) hf hb h
        · cases h
      · cases h
end Go.Tree
namespace Go.Tree
set_option linter.unusedVariables false
set_option linter.unusedSimpArgs false
set_option maxHeartbeats 100000

section
variable {P : Program} {γ0 : Gh} {w0 : World} {n : Nat} {A A' : St} {a : Act} {w : World} {o : Oper}
theorem any_world (hop : OpOk P γ0 w0 n o a w A') {u : Value} (hr : ∀ w', (execOp a.eval o).run P w' = .ok (.value u) w') :
    ∃ u, (∀ w', (execOp a.eval o).run P w' = .ok (.value u) w') ∧ Inv γ0 w0 n A' (a.put o.dst u) w := by
  obtain ⟨r, w1, v, h1, h2, h3⟩ := hop
  rw [hr w] at h1
  cases h1
  rcases h2 with h2 | ⟨h2, _⟩
  · cases h2; exact ⟨u, hr, h3⟩
  · cases h2
theorem field_keeps {h : Hint} {t : TypeId} {x : Operand} {f : Nat} (e : o.op = .fieldAddr t x f) (hop : aop P h A o = some A') (hI : Inv γ0 w0 n A a w) (hd : ∀ t, o.dst = some t → t < n) :
    ∃ u, (∀ w', (execOp a.eval o).run P w' = .ok (.value u) w') ∧ Inv γ0 w0 n A' (a.put o.dst u) w := by
  have hok := aop_sound hop hI hd
  obtain ⟨γ, hR, hH⟩ := hI.ex
  unfold aop at hop
  rw [e] at hop
  dsimp only at hop
  have : ∃ blk off k, a.eval x = .pointer (some ⟨blk, off, none⟩) ∧ fieldOf P t f = some k := by
    split at hop
    · rename_i b off k hx hf; exact ⟨_, _, k, ev_c hR hx, hf⟩
    · rename_i p i off k hx hf
      obtain ⟨blk, off', len, cap, h1, h2⟩ := ev_c hR hx
      exact ⟨_, _, k, h2, hf⟩
    · rename_i p i j off k hx hf
      obtain ⟨blk, off', len, cap, h1, h2⟩ := ev_c hR hx
      exact ⟨_, _, k, h2, hf⟩
    · rename_i s c k hx hf
      obtain ⟨blk, off', h1, _⟩ := ev_c hR hx
      exact ⟨_, _, k, h1, hf⟩
    · cases hop
  obtain ⟨blk, off, k, h1, hf⟩ := this
  exact any_world hok (u := .pointer (some ⟨blk, off + k, none⟩)) fun w' => by simp [execOp, e, h1, run_field hf]
theorem nilCheck_keeps {h : Hint} {x : Operand} (e : o.op = .nilCheck x) (hop : aop P h A o = some A') (hI : Inv γ0 w0 n A a w) (hd : ∀ t, o.dst = some t → t < n) :
    ∃ u, (∀ w', (execOp a.eval o).run P w' = .ok (.value u) w') ∧ Inv γ0 w0 n A' (a.put o.dst u) w := by
  have hok := aop_sound hop hI hd
  obtain ⟨γ, hR, hH⟩ := hI.ex
  unfold aop at hop
  rw [e] at hop
  dsimp only at hop
  have : ∃ q, a.eval x = .pointer (some q) := by
    split at hop
    · rename_i b f hx; exact ⟨_, ev_c hR hx⟩
    · rename_i s c hx
      obtain ⟨blk, off, h1, _⟩ := ev_c hR hx
      exact ⟨_, h1⟩
    · cases hop
  obtain ⟨q, hq⟩ := this
  exact any_world hok (u := .pointer (some q)) fun w' => by simp [execOp, e, hq]
end
end Go.Tree
namespace Go.Tree
set_option linter.unusedVariables false
set_option linter.unusedSimpArgs false
set_option maxHeartbeats 100000

section
variable {P : Program} {γ0 : Gh} {w0 : World} {n : Nat} {A A' : St} {a : Act} {w : World} {o : Oper}
theorem len_keeps {c : Call} (e : o.op = .call { callee := .builtin .len, args := c.args, argTypes := c.argTypes }) (hop : lenOp P A o c = some A') (hI : Inv γ0 w0 n A a w) (hd : ∀ t, o.dst = some t → t < n) :
    ∃ u, (∀ w', (execOp a.eval o).run P w' = .ok (.value u) w') ∧ Inv γ0 w0 n A' (a.put o.dst u) w := by
  have hok := lenOp_ok e hop hI hd
  unfold lenOp at hop
  split at hop
  · rename_i x t ha hts
    split at hop
    · exact plainOp_keeps hI hd hop
    · rename_i v hx
      split at hop
      · rename_i l hl ht
        obtain ⟨γ, hR, hH⟩ := hI.ex
        have h1 := hR.eval (d := a.defers) x
        rw [hx] at h1
        obtain ⟨_, b, cap, h2, _⟩ := data_rep hR h1 hl
        have hx : a.eval x = .slice b l.d.length cap := h2
        have ea : c.args = #[x] := by
          cases hc : c.args with
          | mk l => rw [hc] at ha; simp at ha; simp [ha]
        have et : c.argTypes = #[t] := by
          cases hc : c.argTypes with
          | mk l => rw [hc] at hts; simp at hts; simp [hts]
        refine any_world hok (u := .int .i64 l.d.length) fun w' => ?_
        simp [execOp, e, ea, et, resolve, invoke, builtin, hx, Builtin.len_, run_underlying (isSliceT_elim ht), goInt]
      · cases hop
    · cases hop
  · cases hop
end
end Go.Tree
namespace Go.Tree
set_option linter.unusedVariables false
set_option linter.unusedSimpArgs false
set_option maxHeartbeats 100000

theorem value_of {P : Program} {s : Sem Value} {w w1 : World} {r : Next} (h : (s >>= fun x => (pure (.value x) : Sem Next)).run P w = .ok r w1) : ∃ u, r = .value u := by
  rw [Sem.run_bind] at h
  cases hr : s.run P w with
  | halt e w2 => rw [hr] at h; simp at h
  | ok x w2 => rw [hr] at h; simp at h; exact ⟨x, h.1.symm⟩
theorem stillOp_value {P : Program} {ρ : Operand → Value} {o : Oper} {w w1 : World} {r : Next} (h : stillOp o.op = true) (hr : (execOp ρ o).run P w = .ok r w1) : ∃ u, r = .value u := by
  unfold stillOp at h
  unfold execOp at hr
  split at h
  · rename_i e; rw [e] at hr; simp at hr; exact ⟨_, hr.1.symm⟩
  · rename_i e; rw [e] at hr; simp at hr; exact ⟨_, hr.1.symm⟩
  · rename_i c x y e
    rw [e] at hr
    dsimp only at hr
    rw [Sem.run_bind] at hr
    cases hb : (asBool (ρ c)).run P w with
    | halt e w2 => rw [hb] at hr; simp at hr
    | ok b w2 => rw [hb] at hr; simp at hr; exact ⟨_, hr.1.symm⟩
  · rename_i e; rw [e] at hr; exact value_of hr
  · rename_i e; rw [e] at hr; exact value_of hr
  · rename_i e; rw [e] at hr; exact value_of hr
  · rename_i e; rw [e] at hr; exact value_of hr
  · rename_i e; rw [e] at hr; exact value_of hr
  · cases h
end Go.Tree
namespace Go.Tree
set_option linter.unusedVariables false
set_option linter.unusedSimpArgs false
set_option maxHeartbeats 100000

section
variable {P : Program} {γ0 : Gh} {w0 : World} {n : Nat} {A A' : St} {a : Act} {w : World} {o : Oper}
theorem takeable_keeps {h : Hint} (ht : takeable P A o = true) (hop : aop P h A o = some A') (hI : Inv γ0 w0 n A a w) (hd : ∀ t, o.dst = some t → t < n) :
    (∃ u, (∀ w', (execOp a.eval o).run P w' = .ok (.value u) w') ∧ Inv γ0 w0 n A' (a.put o.dst u) w) ∨
    ∃ t x blk off u, o.op = .load t x ∧ a.eval x = .pointer (some ⟨blk, off, none⟩) ∧ (∀ w', w'.heap[blk]? = w.heap[blk]? → (execOp a.eval o).run P w' = .ok (.value u) w') ∧ Inv γ0 w0 n A' (a.put o.dst u) w := by
  unfold takeable at ht
  split at ht
  · rename_i t x e
    unfold aop at hop
    rw [e] at hop
    dsimp only at hop
    split at hop
    · rename_i v hx
      split at hop
      · cases hop
      · rename_i hne
        split at hop
        · rename_i l hl
          split at hop
          · rename_i tv htv
            cases hop
            obtain ⟨blk, off, u, h1, h2, h3⟩ := load_keeps e hx hl htv hne hI hd
            exact .inr ⟨t, x, blk, off, u, e, h1, h2, h3⟩
          · cases hop
        · cases hop
    · cases hop
  · rename_i t x f e; exact .inl (field_keeps e hop hI hd)
  · rename_i x e; exact .inl (nilCheck_keeps e hop hI hd)
  · rename_i c e
    split at ht
    · rename_i hc
      refine .inl (len_keeps (c := c) (by rw [e]; cases c; simp_all) ?_ hI hd)
      unfold aop at hop
      rw [e] at hop
      dsimp only at hop
      rw [hc] at hop
      exact hop
    · cases ht
  · simp only [Bool.or_eq_true] at ht
    rcases ht with ht | ht
    · rcases still_keeps hI hd ht hop with h | ⟨w', h⟩
      · exact .inl h
      · obtain ⟨u, hu⟩ := stillOp_value ht h
        cases hu
    · obtain ⟨A1, h1⟩ := Option.isSome_iff_exists.1 ht
      obtain ⟨u, hu, _⟩ := plainOp_keeps hI hd h1
      exact .inl (any_world (aop_sound hop hI hd) hu)
end
end Go.Tree
namespace Go.Tree
set_option linter.unusedVariables false
set_option linter.unusedSimpArgs false
set_option linter.constructorNameAsVariable false
set_option maxHeartbeats 200000

section
variable {P : Program} {γ0 : Gh} {w0 : World} {n : Nat} {A A' : St} {a : Act} {w : World} {o : Oper}
/-- objects and variables that nothing speaks of any more: their blocks are outside -/
theorem Rel.sealed {γ : Gh} {tmps : Array Value} (hR : Rel γ A tmps w) (ks kb : List Nat) :
    ∃ γ1, Rel γ1 (A.reduce ks [] kb []) tmps w ∧ ∀ b, (γ.tg b = none ∨ (∃ o ∈ ks, γ.inOb o b) ∨ ∃ x ∈ kb, γ.tg b = some (.bx x)) → γ1.tg b = none := by
  let tg' : Nat → Option Tag := fun b => match γ.tg b with | some (.ob o) => if ks.contains o then none else some (.ob o) | some (.ne o i) => if ks.contains o then none else some (.ne o i) | some (.bx x) => if kb.contains x then none else some (.bx x) | none => none
  let γ1 : Gh := ⟨γ.hd, γ.sz, γ.nh, γ.ns, γ.bb, tg', γ.z⟩
  have out : ∀ b, (γ.tg b = none ∨ (∃ o ∈ ks, γ.inOb o b) ∨ ∃ x ∈ kb, γ.tg b = some (.bx x)) → tg' b = none := fun b h => by
    simp only [tg']
    rcases h with h | ⟨o, ho, h | ⟨i, h⟩⟩ | ⟨x, hx, h⟩
    · rw [h]
    · rw [h]; simp [ho]
    · rw [h]; simp [ho]
    · rw [h]; simp [hx]
  have keepO : ∀ o, o ∉ ks → ∀ b, γ.inOb o b → tg' b = γ.tg b := fun o ho b hb => by
    simp only [tg']
    rcases hb with h | ⟨i, h⟩ <;> rw [h] <;> simp [ho]
  have keepB : ∀ x, x ∉ kb → ∀ b, γ.tg b = some (.bx x) → tg' b = γ.tg b := fun x hx b h => by
    simp only [tg']
    rw [h]; simp [hx]
  have sub : ∀ b, tg' b ≠ none → γ.tg b ≠ none := fun b h e => h (out b (.inl e))
  refine ⟨γ1, ?_, out⟩
  have hr := hR.reduce ks [] kb []
  refine hr.move (fun v hv => ?_) (fun b l hl => ?_) (fun o l hl => ?_) (fun b hz => out b (.inl (hR.zt b hz))) fun b hb => hR.lt b (hb.imp id (sub b))
  · have hg := reduce_avs hv
    have ho : ∀ o ∈ v.obs, o ∉ ks := fun o ho hk => by
      unfold gone at hg
      simp only [Bool.or_eq_false_iff] at hg
      have h1 := hg.1
      split at h1
      · simp [AV.obs] at ho; subst ho; simp at h1; exact h1 hk
      · simp only [List.any_eq_false] at h1
        exact h1 o ho (by simpa using hk)
    refine ⟨fun b hb hlt => ⟨rfl, ?_⟩, fun b hz _ => ⟨rfl, hz⟩, fun o _ => ⟨rfl, rfl⟩, fun o i _ => ⟨rfl, rfl⟩, fun b _ => rfl⟩
    rcases hb with hz | ⟨o, hoo, hb⟩
    · exact .inl hz
    · have hk := keepO o (ho o (reads_obs hoo)) b hb
      exact .inr ⟨o, hoo, hb.imp (fun h => hk.trans h) fun ⟨i, h⟩ => ⟨i, hk.trans h⟩⟩
  · obtain ⟨h1, l', h2⟩ := reduce_bx hl
    obtain ⟨cs, e, _, h3, _⟩ := hR.bx b l' h2
    exact ⟨rfl, keepB b h1 _ h3, rfl⟩
  · obtain ⟨h1, h2⟩ := reduce_ob hl
    exact ⟨fun b hb _ => ⟨rfl, keepO o h1 b hb⟩, ⟨rfl, rfl⟩, fun i => ⟨rfl, rfl⟩⟩

/-- where an address points -/
theorem block_rep {γ : Gh} {x : AV} {y : Value} {m : Nat} {l : List AV} (hR : Rel γ A a.tmps w) (hx : AVrep γ w x y) (h : A.at m x = some l) (hm : m ≠ 0) :
    ∃ blk off, y = .pointer (some ⟨blk, off, none⟩) ∧ (γ.z blk ∨ (∃ o ∈ x.obs, γ.inOb o blk) ∨ ∃ b ∈ x.bxs, γ.tg blk = some (.bx b)) := by
  cases x with
  | box b off =>
    simp only [St.at] at h
    split at h
    · rename_i u hu
      obtain ⟨cs, e, _, h3, _⟩ := hR.bx b u hu
      exact ⟨_, _, hx, .inr (.inr ⟨b, by simp [AV.bxs], h3⟩)⟩
    · cases h
  | adr o i off =>
    simp only [St.at] at h
    split at h
    · rename_i u hu
      obtain ⟨blk, of, len, cap, h1, h2⟩ := hx
      obtain ⟨_, h3 | ⟨_, _, blk', of', cap', cs, e, h4, _, h5, _⟩⟩ := hR.ob o u hu
      · rw [h3.2] at h; simp at h
      · rw [h4] at h1
        cases h1
        exact ⟨_, _, h2, .inr (.inl ⟨o, by simp [AV.obs], .inl h5⟩)⟩
    · cases h
  | adn o i j off =>
    simp only [St.at] at h
    split at h
    · rename_i u hu
      split at h
      · rename_i n rows hrow
        obtain ⟨blk, of, len, cap, h1, h2⟩ := hx
        obtain ⟨hlen, h3 | ⟨_, _, blk', of', cap', cs, e, h4, _, h5, _, _, h6⟩⟩ := hR.ob o u hu
        · rw [h3.2] at hrow; simp at hrow
        · obtain ⟨v, _, _, _, _, hv⟩ := h6 i _ hrow 0 (.s n rows) rfl
          rcases hv with ⟨_, hv⟩ | ⟨_, _, blk2, of2, cap2, cs2, e2, hv, _, ht, _⟩
          · subst hv; simp at h
          · rw [hv] at h1
            cases h1
            exact ⟨_, _, h2, .inr (.inl ⟨o, by simp [AV.obs], .inr ⟨i, ht⟩⟩)⟩
      · cases h
    · cases h
  | rad s c =>
    obtain ⟨blk, off, h1, h2, _⟩ := hx
    have hc : c ≠ [] := by
      rintro rfl
      simp only [St.at, sub?, Option.map_eq_some_iff] at h
      obtain ⟨l', h, _⟩ := h
      split at h
      · rename_i hle; simp at hle; omega
      · cases h
    refine ⟨_, _, h1, ?_⟩
    rcases h2 hc with hz | ⟨o, ho, hb⟩
    · exact .inl hz
    · exact .inr (.inl ⟨o, by simpa [AV.obs] using ho, hb⟩)
  | unk => simp [St.at] at h
  | v x => simp [St.at] at h
  | nil => simp [St.at] at h
  | rd s l => simp [St.at] at h
  | own o => simp [St.at] at h
  | nest o i => simp [St.at] at h
  | fn f c => simp [St.at] at h
  | fnr f c => simp [St.at] at h

/-- an operation that also runs with an object or a variable struck out leaves its block alone -/
theorem aop_keeps {h : Hint} {v : AV} {b off t : Nat} (hI : Inv γ0 w0 n A a w) (hd : ∀ t, o.dst = some t → t < n) (hg : A.get t = .c v) (hp : a.tmps.getD t undef = .pointer (some ⟨b, off, none⟩))
    (hat : (A.at 1 v).isSome = true) (hred : (aop P h (A.reduce v.obs [] v.bxs []) o).isSome = true) {r : Next} {w' : World} (hrun : (execOp a.eval o).run P w = .ok r w') : w'.heap[b]? = w.heap[b]? := by
  obtain ⟨γ, hR, hH⟩ := hI.ex
  obtain ⟨l, hl⟩ := Option.isSome_iff_exists.1 hat
  obtain ⟨A2, hA2⟩ := Option.isSome_iff_exists.1 hred
  have hv : AVrep γ w v (a.tmps.getD t undef) := by
    have := hR.eval (d := a.defers) (.tmp t)
    simp only [St.ev, Act.eval] at this
    rw [hg] at this
    exact this
  obtain ⟨blk, off', h1, h2⟩ := block_rep hR hv hl (by decide)
  rw [hp] at h1
  cases h1
  obtain ⟨γ1, hR1, h3⟩ := hR.sealed (v.obs) (v.bxs)
  have hI1 : Inv γ1 w n (A.reduce v.obs [] v.bxs []) a w := ⟨⟨γ1, hR1, Hist.refl γ1 w⟩, hI.df, hI.sz⟩
  obtain ⟨r2, w2, u, k1, _, k2⟩ := aop_sound hA2 hI1 hd
  rw [hrun] at k1
  cases k1
  obtain ⟨γ2, _, hH2⟩ := k2.ex
  have hlt : b < w.heap.size := by
    rcases h2 with h2 | ⟨o, _, h2 | ⟨i, h2⟩⟩ | ⟨x, _, h2⟩
    · exact hR.lt b (.inl h2)
    · exact hR.lt b (.inr (by rw [h2]; simp))
    · exact hR.lt b (.inr (by rw [h2]; simp))
    · exact hR.lt b (.inr (by rw [h2]; simp))
  refine (hH2.block b hlt (h3 b ?_)).1
  rcases h2 with h2 | h2 | h2
  · exact .inl (hR.zt b h2)
  · exact .inr (.inl h2)
  · exact .inr (.inr h2)
end
end Go.Tree
namespace Go.Tree
set_option linter.unusedVariables false
set_option linter.unusedSimpArgs false
set_option linter.constructorNameAsVariable false
set_option maxHeartbeats 200000

section
variable {E : Env} {call : FuncId → St → Option St} {γ0 : Gh} {w0 : World} {n : Nat} {A A' : St} {a : Act} {w : World} {o : Oper} {h : Hint}

/-- where slot t points, its block stays under the operation -/
def safeAt (E : Env) (h : Hint) (A : St) (o : Oper) (a : Act) (b : Nat) : Prop := ∃ t off, a.tmps.getD t undef = .pointer (some ⟨b, off, none⟩) ∧ safeBlock E h A o (A.get t) = true

theorem callOp_keeps (hcall : ∀ f S R, call f S = some R → Tells E.P f (E.mode f) (E.nres f) S R) {c : Call} {g : Operand} (hop : o.op = .call c) (hg : c.callee = .value g)
    (hc : callOp E call h A o g c.args.toList = some A') (hI : Inv γ0 w0 n A a w) (hd : ∀ t, o.dst = some t → t < n) :
    ∃ f args, (execOp a.eval o).run E.P w = .ok (.enter f args) w ∧ Calls E.P f args w fun e w' => ∃ v, e = .returned v ∧ Inv γ0 w0 n A' (a.put o.dst v) w' ∧ ∀ b, safeAt E h A o a b → w'.heap[b]? = w.heap[b]? := by
  obtain ⟨γ, hR, hH⟩ := hI.ex
  unfold callOp at hc
  split at hc
  · rename_i f caps hev
    split at hc
    · cases hc
    · rename_i hgo
      have hgo : goF E.P f = true := by simpa using hgo
      dsimp only at hc
      split at hc
      · rename_i R hR'
        have hgv : AVrep γ w (.fnr f caps) (a.eval g) := ev_c hR hev
        obtain ⟨cvs, e1, hcv⟩ := hgv
        have hv : F2 (fun x y => TVrep γ w x y) (c.args.toList.map A.ev ++ caps.map fun c => TV.c (.rad [] c)) (c.args.toList.map a.eval ++ cvs) := by
          refine (F2.evs hR _).append ?_
          clear e1 hR' hc hev
          induction hcv with
          | nil => exact .nil
          | cons r _ ih =>
            refine .cons ?_ ih
            exact RadAt.move r fun b hb _ => ⟨rfl, .inl hb⟩
        obtain ⟨γ1, q1, q2, q3⟩ := give_rep (m := E.mode f) hR hv
        have hT := hcall f _ R hR' γ1 _ w q1
        refine ⟨f, (c.args.toList.map a.eval ++ cvs).toArray, ?_, hT.mono fun e w' => ?_⟩
        · have e2 : (#[] ++ c.args.map a.eval ++ cvs.toArray : Array Value) = (c.args.toList.map a.eval ++ cvs).toArray := by
            apply Array.ext'
            simp
          have : execOp a.eval o = callFunc f (c.args.toList.map a.eval ++ cvs).toArray := by
            rw [← e2]
            unfold execOp
            rw [hop]
            dsimp only
            unfold resolve
            rw [hg]
            dsimp only
            rw [e1]
            rfl
          rw [this]
          exact run_callFunc hgo _ w
        · rintro ⟨vals, γ', rfl, hlen, hRR, hHH⟩
          obtain ⟨A1, x, γ2, rfl, k1, k2, k3⟩ := take_rep hR hH hv hlen q2 q3 hRR hHH hc
          refine ⟨_, rfl, hI.finish hd ⟨γ2, k1, k2, k3⟩, fun b hb => ?_⟩
          obtain ⟨t, off, hp, hs⟩ := hb
          unfold safeBlock at hs
          split at hs
          · rename_i v hgt
            simp only [Bool.and_eq_true] at hs
            obtain ⟨hat, hs⟩ := hs
            rw [hop] at hs
            dsimp only at hs
            rw [hg] at hs
            dsimp only at hs
            rw [hev] at hs
            simp only [Bool.and_eq_true, Bool.not_eq_true', List.any_eq_false, List.contains_iff_mem, decide_eq_true_eq] at hs
            obtain ⟨l, hl⟩ := Option.isSome_iff_exists.1 hat
            have hv : AVrep γ w v (a.tmps.getD t undef) := by
              have := hR.eval (d := a.defers) (.tmp t)
              simp only [St.ev, Act.eval] at this
              rw [hgt] at this
              exact this
            obtain ⟨blk, off', h1, h2⟩ := block_rep hR hv hl (by decide)
            rw [hp] at h1
            cases h1
            have hlt : b < w.heap.size := by
              rcases h2 with h2 | ⟨o, _, h2 | ⟨i, h2⟩⟩ | ⟨x, _, h2⟩
              · exact hR.lt b (.inl h2)
              · exact hR.lt b (.inr (by rw [h2]; simp))
              · exact hR.lt b (.inr (by rw [h2]; simp))
              · exact hR.lt b (.inr (by rw [h2]; simp))
            refine (hHH.block b hlt (Classical.byContradiction fun hne => ?_)).1
            rcases q2 b hne with ⟨o', ho', hb'⟩ | ⟨x', hx', hb'⟩
            · rcases h2 with h2 | ⟨o, ho, h2⟩ | ⟨x, _, h2⟩
              · have := hR.zt b h2
                rcases hb' with e | ⟨i, e⟩ <;> rw [this] at e <;> cases e
              · have := inOb_uniq h2 hb'
                subst this
                exact hs.1.1 o ho ho'
              · rcases hb' with e | ⟨i, e⟩ <;> rw [h2] at e <;> cases e
            · rcases h2 with h2 | ⟨o, ho, h2 | ⟨i, h2⟩⟩ | ⟨x, hx, h2⟩
              · rw [hR.zt b h2] at hb'; cases hb'
              · rw [h2] at hb'; cases hb'
              · rw [h2] at hb'; cases hb'
              · rw [h2] at hb'
                cases hb'
                exact hs.1.2 _ hx hx'
          · cases hs
      · cases hc
  · cases hc

theorem opStep_does (hcall : ∀ f S R, call f S = some R → Tells E.P f (E.mode f) (E.nres f) S R) (hs : opStep E call h A o = some A') (hI : Inv γ0 w0 n A a w) (hd : ∀ t, o.dst = some t → t < n) :
    (∃ r w' v, (execOp a.eval o).run E.P w = .ok r w' ∧ (r = .value v ∨ r = .skip ∧ v = undef) ∧ Inv γ0 w0 n A' (a.put o.dst v) w' ∧ ∀ b, safeAt E h A o a b → w'.heap[b]? = w.heap[b]?) ∨
    ∃ f args, (execOp a.eval o).run E.P w = .ok (.enter f args) w ∧ Calls E.P f args w fun e w' => ∃ v, e = .returned v ∧ Inv γ0 w0 n A' (a.put o.dst v) w' ∧ ∀ b, safeAt E h A o a b → w'.heap[b]? = w.heap[b]? := by
  have viaA : (∀ c g, o.op = .call c → c.callee ≠ .value g) → aop E.P h A o = some A' → ∃ r w' v, (execOp a.eval o).run E.P w = .ok r w' ∧ (r = .value v ∨ r = .skip ∧ v = undef) ∧ Inv γ0 w0 n A' (a.put o.dst v) w' ∧ ∀ b, safeAt E h A o a b → w'.heap[b]? = w.heap[b]? := fun hne hop => by
    obtain ⟨r, w', v, h1, h2, h3⟩ := aop_sound hop hI hd
    refine ⟨r, w', v, h1, h2, h3, fun b hb => ?_⟩
    obtain ⟨t, off, hp, hsb⟩ := hb
    unfold safeBlock at hsb
    split at hsb
    · rename_i x hx
      simp only [Bool.and_eq_true] at hsb
      refine aop_keeps (h := h) hI hd hx hp hsb.1 ?_ h1
      have h4 := hsb.2
      split at h4
      · rename_i c e
        split at h4
        · rename_i g e'; exact absurd e' (hne c g e)
        · exact h4
      · exact h4
    · cases hsb
  unfold opStep at hs
  split at hs
  · rename_i c hop
    split at hs
    · rename_i g hg
      exact .inr (callOp_keeps hcall hop hg hs hI hd)
    · rename_i hne
      exact .inl (viaA (fun c' g e => by rw [hop] at e; cases e; exact hne g) hs)
  · rename_i hne
    exact .inl (viaA (fun c' g e => absurd e (hne c')) hs)

/-- the blocks that operation i has to leave alone -/
def Kof (ops : Array Oper) (pend : List (Nat × Nat)) (a : Act) : Nat → Nat → Prop := fun i b => ∃ p ∈ pend, tied ops p.1 i = false ∧ ∃ off, a.tmps.getD p.2 undef = .pointer (some ⟨b, off, none⟩)

theorem getD_set_self (l : Array Bool) (i : Nat) : (l.setIfInBounds i true).getD i true = true := by
  simp only [Array.getD_eq_getD_getElem?, Array.getElem?_setIfInBounds, if_true]
  split <;> rfl

theorem runDraw_any (hcall : ∀ f S R, call f S = some R → Tells E.P f (E.mode f) (E.nres f) S R) {ops : Array Oper} (hsel : Region.noSelect ops = true) {pr : List Nat} {pv : Nat → Value} (hd : OpsOk n pr ops)
    {Q : Act → World → Prop} (hQ : ∀ a' w', InvP γ0 w0 n pr pv A' a' w' → Q a' w') :
    ∀ (fuel : Nat) (listed : Array Bool) (pend : List (Nat × Nat)) (A : St) (a : Act) (w : World), runDraw E call h ops fuel listed pend A = some A' → InvP γ0 w0 n pr pv A a w →
      (∀ p ∈ pend, ∀ k ok, listed.getD k true = false → ops[k]? = some ok → ok.dst ≠ some p.2) → anyK E.P ops Q (Kof ops pend a) fuel listed a w
  | 0, listed, pend, A, a, w, hr, hI, hp => by
    simp only [runDraw] at hr
    split at hr
    · rename_i he
      cases hr
      exact ⟨by simpa using he, hQ _ _ hI⟩
    · cases hr
  | fuel + 1, listed, pend, A, a, w, hr, hI, hp => by
    simp only [runDraw] at hr
    -- behind operation i: what has to be known of the slots
    have later : ∀ i oi, ops[i]? = some oi → listed.getD i true = false → ∀ v, ∀ j b, Kof ops pend (a.put oi.dst v) j b ↔ Kof ops pend a j b := fun i oi hi hun v j b => by
      unfold Kof
      constructor
      · rintro ⟨p, h1, h2, off, h3⟩
        rw [put_getD (hp p h1 i oi hun hi)] at h3
        exact ⟨p, h1, h2, off, h3⟩
      · rintro ⟨p, h1, h2, off, h3⟩
        exact ⟨p, h1, h2, off, by rw [put_getD (hp p h1 i oi hun hi)]; exact h3⟩
    have unl : ∀ i k, (listed.setIfInBounds i true).getD k true = false → listed.getD k true = false := fun i k hk => by
      by_cases e : i = k
      · subst e; rw [getD_set_self] at hk; cases hk
      · rwa [getD_set_ne true e] at hk
    split at hr
    · -- an operation that is taken first
      rename_i i hf
      have hmem := List.mem_of_find?_eq_some hf
      have hcond := List.find?_some hf
      obtain ⟨hun, oi, hoi, hall⟩ := mem_ready.1 hmem
      rw [hoi] at hcond
      simp only [Bool.and_eq_true] at hcond
      obtain ⟨⟨htake, hfree⟩, hslot⟩ := hcond
      have hmo : oi ∈ ops := by
        obtain ⟨hlt, e⟩ := Array.getElem?_eq_some_iff.1 hoi
        exact e ▸ Array.getElem_mem hlt
      have hdi : ∀ t, oi.dst = some t → t < n := fun t ht => (hd _ hmo t ht).1
      unfold oneStep at hr
      simp only [hoi] at hr
      have slots : ∀ t, addrSlot oi = some t → ∀ k ok, listed.getD k true = false → ops[k]? = some ok → ok.dst ≠ some t := fun t ht k ok hk hok => by
        unfold slotSafe at hslot
        rw [ht] at hslot
        simp only [List.all_eq_true, List.mem_range] at hslot
        have := hslot k (Array.getElem?_eq_some_iff.1 hok).1
        rw [hk, hok] at this
        simpa using this
      have pend' : ∀ p ∈ (match (some oi).bind addrSlot with | some t => (i, t) :: pend | none => pend), ∀ k ok, (listed.setIfInBounds i true).getD k true = false → ops[k]? = some ok → ok.dst ≠ some p.2 := fun p hpm k ok hk hok => by
        have hk := unl i k hk
        cases hs : addrSlot oi with
        | none => simp only [Option.bind_some, hs] at hpm; exact hp p hpm k ok hk hok
        | some t =>
          simp only [Option.bind_some, hs, List.mem_cons] at hpm
          rcases hpm with rfl | hpm
          · exact slots t hs k ok hk hok
          · exact hp p hpm k ok hk hok
      have supK : ∀ v j b, Kof ops pend a j b → Kof ops (match (some oi).bind addrSlot with | some t => (i, t) :: pend | none => pend) (a.put oi.dst v) j b := fun v j b hb => by
        have hb := (later i oi hoi hun v j b).2 hb
        cases hs : addrSlot oi with
        | none => simp only [Option.bind_some, hs]; exact hb
        | some t =>
          obtain ⟨p, h1, h2⟩ := hb
          simp only [Option.bind_some, hs]
          exact ⟨p, List.mem_cons_of_mem _ h1, h2⟩
      have freeOf : ∀ j oj, ops[j]? = some oj → j ≠ i → listed.getD j true = false → tied ops i j = false → oi.apart ops oj = true := fun j oj hj hne hunj hno => by
        refine Region.free_spec hoi hfree j oj hj hne hunj fun e he hb heq => ?_
        unfold tied at hno
        rw [hj] at hno
        have := (Array.any_eq_false.1 hno)
        obtain ⟨q, hq, e1⟩ := Array.mem_iff_getElem.1 he
        have := this q hq
        rw [e1] at this
        simp [hb, heq] at this
      generalize hw : wants A ops oi = wv at hr
      cases wv with
      | none => simp at hr
      | some b =>
        cases b with
        | false =>
          simp only at hr
          have hwf := wants_ok hw hI.1
          refine anyK_take hoi hsel (B := fun _ => False) (v := undef) (supK undef) fuel listed a w (fun j oj hj hne hunj hno => ⟨freeOf j oj hj hne hunj hno, fun b hb => hb.elim⟩) hmem (.inr ⟨hwf, rfl⟩) ?_
          refine runDraw_any hcall hsel hd hQ fuel _ _ _ _ w hr ⟨?_, hd.keep hmo hI.2⟩ pend'
          obtain ⟨γ, hR, hH⟩ := hI.1.ex
          exact hI.1.finish hdi ⟨γ, hR, hH, rfl⟩
        | true =>
          simp only at hr
          have hwt := wants_ok hw hI.1
          split at hr
          · rename_i A1 hs
            simp only [Option.bind_some] at hr
            have hs : opStep E call h A oi = some A1 := hs
            have haop : aop E.P h A oi = some A1 := by
              unfold opStep at hs
              split at hs
              · rename_i c e
                split at hs
                · rename_i g e'
                  unfold takeable at htake
                  rw [e] at htake
                  dsimp only at htake
                  rw [e'] at htake
                  cases htake
                · exact hs
              · exact hs
            rcases takeable_keeps htake haop hI.1 hdi with ⟨u, h1, h2⟩ | ⟨t, x, blk, off, u, e, h1, h2, h3⟩
            · refine anyK_take hoi hsel (B := fun _ => False) (v := u) (supK u) fuel listed a w (fun j oj hj hne hunj hno => ⟨freeOf j oj hj hne hunj hno, fun b hb => hb.elim⟩) hmem (.inl ⟨hwt, fun w' _ => h1 w'⟩) ?_
              exact runDraw_any hcall hsel hd hQ fuel _ _ _ _ w hr ⟨h2, hd.keep hmo hI.2⟩ pend'
            · have hs2 : ∃ t, addrSlot oi = some t ∧ x = .tmp t := by
                unfold slotSafe at hslot
                cases hs : addrSlot oi with
                | none => rw [hs] at hslot; rw [e] at hslot; cases hslot
                | some t =>
                  refine ⟨t, rfl, ?_⟩
                  unfold addrSlot at hs
                  rw [e] at hs
                  cases x <;> simp_all
              obtain ⟨s, hs, rfl⟩ := hs2
              refine anyK_take hoi hsel (B := fun b => b = blk) (v := u) (supK u) fuel listed a w (fun j oj hj hne hunj hno => ⟨freeOf j oj hj hne hunj hno, fun b hb => ?_⟩) hmem (.inl ⟨hwt, fun w' hk => h2 w' (hk blk rfl)⟩) ?_
              · subst hb
                simp only [Option.bind_some, hs]
                refine ⟨(i, s), List.mem_cons_self, hno, off, ?_⟩
                rw [put_getD (slots s hs i oi hun hoi)]
                exact h1
              · exact runDraw_any hcall hsel hd hQ fuel _ _ _ _ w hr ⟨h3, hd.keep hmo hI.2⟩ pend'
          · cases hr
    · -- the one that is ready
      split at hr
      · rename_i hrs
        cases hr
        exact ⟨fun _ => hQ _ _ hI, fun i hi => by rw [hrs] at hi; cases hi⟩
      · rename_i i hrs
        have hmem : i ∈ Region.ready .any ops listed := by rw [hrs]; simp
        obtain ⟨hun, oi, hoi, hall⟩ := mem_ready.1 hmem
        have hmo : oi ∈ ops := by
          obtain ⟨hlt, e⟩ := Array.getElem?_eq_some_iff.1 hoi
          exact e ▸ Array.getElem_mem hlt
        have hdi : ∀ t, oi.dst = some t → t < n := fun t ht => (hd _ hmo t ht).1
        simp only [hoi] at hr
        split at hr
        · rename_i hsafe
          refine ⟨fun h0 => (by rw [hrs] at h0; cases h0), fun j hj => ?_⟩
          rw [hrs] at hj
          obtain rfl : j = i := by simpa using hj
          simp only [List.all_eq_true, Bool.or_eq_true] at hsafe
          have safe : ∀ b, Kof ops pend a j b → safeAt E h A oi a b := fun b ⟨p, hpm, ht, off, hb⟩ => by
            rcases hsafe p hpm with h1 | h1
            · rw [ht] at h1; cases h1
            · exact ⟨p.2, off, hb, h1⟩
          have pend' : ∀ p ∈ pend, ∀ k ok, (listed.setIfInBounds j true).getD k true = false → ops[k]? = some ok → ok.dst ≠ some p.2 := fun p hpm k ok hk hok => hp p hpm k ok (unl j k hk) hok
          unfold oneStep at hr
          simp only [hoi] at hr
          refine ⟨oi, hoi, ?_⟩
          generalize hw : wants A ops oi = wv at hr
          cases wv with
          | none => simp at hr
          | some b =>
            have hwb := wants_ok hw hI.1
            cases b with
            | false =>
              simp only at hr
              refine .inl ⟨hwb, .refl w, (runDraw_any hcall hsel hd hQ fuel _ _ _ _ w hr ⟨?_, hd.keep hmo hI.2⟩ pend').mono fun i b hb => (later j oi hoi hun undef i b).2 hb⟩
              obtain ⟨γ, hR, hH⟩ := hI.1.ex
              exact hI.1.finish hdi ⟨γ, hR, hH, rfl⟩
            | true =>
              simp only at hr
              split at hr
              · rename_i A1 hs
                refine .inr ⟨hwb, ?_⟩
                rcases opStep_does hcall hs hI.1 hdi with ⟨r, w', v, h1, h2, h3, h4⟩ | ⟨f, args, h1, h2⟩
                · exact .inl ⟨r, w', v, h1, h2, fun b hb => h4 b (safe b hb), (runDraw_any hcall hsel hd hQ fuel _ _ _ _ w' hr ⟨h3, hd.keep hmo hI.2⟩ pend').mono fun i b hb => (later j oi hoi hun v i b).2 hb⟩
                · exact .inr ⟨f, args, h1, h2.mono fun e w' ⟨v, he, h3, h4⟩ => ⟨v, he, fun b hb => h4 b (safe b hb), (runDraw_any hcall hsel hd hQ fuel _ _ _ _ w' hr ⟨h3, hd.keep hmo hI.2⟩ pend').mono fun i b hb => (later j oi hoi hun v i b).2 hb⟩⟩
              · cases hr
        · cases hr
      · cases hr

theorem drawOf_ok (hm : E.P.follows .mixedOrders = true) (hcall : ∀ f S R, call f S = some R → Tells E.P f (E.mode f) (E.nres f) S R) : DrawOk E call (drawOf E call) := by
  intro h ops A A' γ0 w0 n pr pv a w id Q hr hd hI hQ
  unfold drawOf at hr
  split at hr
  · rename_i hsel
    refine wp_region_any hm ((runDraw_any (Q := Q .normal) hcall hsel hd hQ ops.size _ [] A a _ hr ?_ (fun p hp => by cases hp)).wpAny)
    obtain ⟨⟨⟨γ, hR, hH⟩, hdf, hsz⟩, hpv⟩ := hI
    refine ⟨⟨⟨γ, ⟨hR.tm, hR.bx, hR.ob, hR.zt, hR.lt⟩, ⟨hH.size, hH.os, hH.tape, hH.output, hH.block, hH.z⟩⟩, hdf, hsz⟩, hpv⟩
  · cases hr
end
end Go.Tree
namespace Go.Tree
theorem runFunD_ok {E : Env} (hm : E.P.follows .mixedOrders = true) {prim : FuncId → Option (St → Option St)} (hprim : ∀ f p S R, prim f = some p → p S = some R → Tells E.P f (E.mode f) (E.nres f) S R) :
    ∀ (n : Nat) (f : FuncId) (S R : St), runFunD E prim n f S = some R → Tells E.P f (E.mode f) (E.nres f) S R :=
  runFunD_tells hprim fun _ hc => drawOf_ok hm hc
/-- a function whose callees' contracts are known -/
theorem body_ok {E : Env} (hm : E.P.follows .mixedOrders = true) {call : FuncId → St → Option St} (hcall : ∀ f S R, call f S = some R → Tells E.P f (E.mode f) (E.nres f) S R) {f : FuncId} {fn : Func} {c : Code} {S R : St} {N : Nat}
    (hf : E.P.funcs[f]? = some fn) (hb : fn.body = some c) (hr : runBody E call (iterN N) (drawOf E call) f fn c S = some R) : Tells E.P f (E.mode f) (E.nres f) S R :=
  runBody_tells hcall (drawOf_ok hm hcall) hf hb hr
end Go.Tree
