/- Part 2 of the tree calculus: symbolic execution of the model's code over typed lists, proved sound. No condition. -/
import Derived.Test.YtfgeijlcmepdlaaK1
namespace Go.Tree
set_option linter.unusedVariables false
set_option linter.unusedSimpArgs false
set_option linter.constructorNameAsVariable false

theorem lower1_eq : ∀ {l : List C} {r : Row}, lower1 l = some r → l = r.map .v
  | [], r, h => by simp [lower1] at h; subst h; rfl
  | .v x :: l, r, h => by
    simp only [lower1, Option.map_eq_some_iff] at h
    obtain ⟨r', h, rfl⟩ := h
    rw [lower1_eq h]; rfl
  | .s _ _ :: l, r, h => by simp [lower1] at h
  | .x :: l, r, h => by simp [lower1] at h
theorem lower_eq : ∀ {l : List (List C)} {r : List Row}, lower l = some r → l = lift r
  | [], r, h => by simp [lower] at h; subst h; rfl
  | x :: l, r, h => by
    simp only [lower] at h
    split at h
    · rename_i a b h1 h2
      cases h
      rw [lower1_eq h1, lower_eq h2]; rfl
    · cases h

section
variable {γ γ' : Gh} {w w' : World}
theorem NeAt.re {p i m k n : Nat} {rows : List Row} (h : NeAt γ w p i n rows) (hn : γ'.nh m k = γ.nh p i ∧ γ'.ns m k = γ.ns p i)
    (hb : ∀ b, γ.tg b = some (.ne p i) → b < w.heap.size → w'.heap[b]? = w.heap[b]? ∧ γ'.tg b = some (.ne m k)) : NeAt γ' w' m k n rows := by
  obtain ⟨h1, h⟩ := h
  refine ⟨h1, ?_⟩
  rcases h with ⟨h2, h3⟩ | ⟨h2, h3, blk, off, cap, cs, e, h4, h5, h6, h7, h8, h9⟩
  · exact .inl ⟨h2.imp fun ad h => ⟨hn.1.trans h.1, h.2⟩, h3⟩
  · obtain ⟨e1, e2⟩ := hb blk h6 (heap_lt h7)
    exact .inr ⟨h2, hn.2.trans h3, blk, off, cap, cs, e, hn.1.trans h4, h5, e2, e1.trans h7, h8, h9⟩
theorem COwn.re {p sz i m k : Nat} {c : C} {u : Value} (h : COwn γ w p sz i c u) (hn : γ'.nh m k = γ.nh p i ∧ γ'.ns m k = γ.ns p i)
    (hb : ∀ b, γ.tg b = some (.ne p i) → b < w.heap.size → w'.heap[b]? = w.heap[b]? ∧ γ'.tg b = some (.ne m k)) : COwn γ' w' m sz k c u := by
  cases c with
  | v x => exact h
  | x => exact h
  | s n rows => exact ⟨h.1, h.2.1.trans hn.1.symm, h.2.2.re hn hb⟩
/-- an object of plain rows, as an element of another one -/
theorem ObAt.toNe {q m k : Nat} {l : Sl} {rows : List Row} (h : ObAt γ w q l) (hl : lower l.d = some rows) (hn : γ'.nh m k = γ.hd q ∧ γ'.ns m k = γ.sz q)
    (hb : ∀ b, γ.tg b = some (.ob q) → b < w.heap.size → w'.heap[b]? = w.heap[b]? ∧ γ'.tg b = some (.ne m k)) : NeAt γ' w' m k l.sz rows := by
  have e := lower_eq hl
  have len : l.d.length = rows.length := by rw [e, lift_len]
  obtain ⟨h1, h⟩ := h
  refine ⟨fun r hr => ?_, ?_⟩
  · have := h1 (r.map .v) (by rw [e]; exact List.mem_map.2 ⟨r, hr, rfl⟩)
    simpa using this
  · rcases h with ⟨h2, h3⟩ | ⟨h2, h3, blk, off, cap, cs, e', h4, h5, h6, h7, h8, h9⟩
    · exact .inl ⟨h2.imp fun ad h => ⟨hn.1.trans h.1, h.2⟩, by rw [h3] at len; simpa using len.symm⟩
    · obtain ⟨e1, e2⟩ := hb blk h6 (heap_lt h7)
      refine .inr ⟨h2, hn.2.trans h3, blk, off, cap, cs, e', by rw [hn.1, h4, len], by omega, e2, e1.trans h7, h8, fun k' r hk j x hj => ?_⟩
      obtain ⟨u, hu, hx⟩ := h9 k' (r.map .v) (by rw [e]; simp [lift, hk]) j (.v x) (by simp [hj])
      rw [hx.1] at hu
      exact ⟨hu, hx.2⟩
theorem NeAt.toOb {p i m n : Nat} {rows : List Row} (h : NeAt γ w p i n rows) (hn : γ'.hd m = γ.nh p i ∧ γ'.sz m = γ.ns p i)
    (hb : ∀ b, γ.tg b = some (.ne p i) → b < w.heap.size → w'.heap[b]? = w.heap[b]? ∧ γ'.tg b = some (.ob m)) : ObAt γ' w' m ⟨n, lift rows⟩ := by
  obtain ⟨h1, h⟩ := h
  refine ⟨fun r hr => ?_, ?_⟩
  · simp only [lift, List.mem_map] at hr
    obtain ⟨r', hr', rfl⟩ := hr
    simpa using h1 r' hr'
  · rcases h with ⟨h2, h3⟩ | ⟨h2, h3, blk, off, cap, cs, e, h4, h5, h6, h7, h8, h9⟩
    · exact .inl ⟨h2.imp fun ad h => ⟨hn.1.trans h.1, h.2⟩, by simp [lift, h3]⟩
    · obtain ⟨e1, e2⟩ := hb blk h6 (heap_lt h7)
      refine .inr ⟨h2, hn.2.trans h3, blk, off, cap, cs, e, by rw [hn.1, h4]; simp [lift], by simpa [lift] using h5, e2, e1.trans h7, h8, fun k r hk j x hj => ?_⟩
      simp only [lift, List.getElem?_map, Option.map_eq_some_iff] at hk
      obtain ⟨r', hk, rfl⟩ := hk
      simp only [List.getElem?_map, Option.map_eq_some_iff] at hj
      obtain ⟨x', hj, rfl⟩ := hj
      obtain ⟨c1, c2⟩ := h9 k r' hk j x' hj
      exact ⟨x', c1, rfl, c2⟩
end

theorem newOb_eq (A : St) (m : Nat) (l : Sl) : A.newOb m l = { A.kill m with ob := (m, l) :: (A.kill m).ob } := rfl
theorem inOb_uniq {γ : Gh} {o p b : Nat} (h1 : γ.inOb o b) (h2 : γ.inOb p b) : o = p := by
  rcases h1 with h1 | ⟨i, h1⟩ <;> rcases h2 with h2 | ⟨j, h2⟩ <;> rw [h1] at h2 <;> simp at h2 <;> first | exact h2 | exact h2.1

/-- what belonged to the objects of X belongs to m -/
def retag (γ : Gh) (X : Nat → Prop) [DecidablePred X] (f : Nat → Nat → Nat) (m : Nat) (B : Option Nat) : Nat → Option Tag := fun b =>
  if some b = B then some (.ob m) else match γ.tg b with
    | some (.ob o) => if X o then some (.ob m) else some (.ob o)
    | some (.ne o i) => if X o then some (.ne m (f o i)) else some (.ne o i)
    | t => t
theorem retag_other {γ : Gh} {X : Nat → Prop} [DecidablePred X] {f m B b} (hB : some b ≠ B) (h : ∀ o, X o → ¬ γ.inOb o b) : retag γ X f m B b = γ.tg b := by
  unfold retag
  rw [if_neg hB]
  cases ht : γ.tg b with
  | none => rfl
  | some t =>
    cases t with
    | bx _ => rfl
    | ob o => dsimp only; rw [if_neg fun hX => h o hX (.inl ht)]
    | ne o i => dsimp only; rw [if_neg fun hX => h o hX (.inr ⟨i, ht⟩)]
theorem retag_ne {γ : Gh} {X : Nat → Prop} [DecidablePred X] {f m B b o i} (hB : some b ≠ B) (ht : γ.tg b = some (.ne o i)) (hX : X o) : retag γ X f m B b = some (.ne m (f o i)) := by
  unfold retag
  rw [if_neg hB, ht]
  dsimp only
  rw [if_pos hX]
theorem retag_lt {γ : Gh} {X : Nat → Prop} [DecidablePred X] {f m B b} {s : Nat} (hB : ∀ b, B = some b → b < s) (h : ∀ b, γ.tg b ≠ none → b < s) (ht : retag γ X f m B b ≠ none) : b < s := by
  unfold retag at ht
  split at ht
  · rename_i e; exact hB b e.symm
  · refine h b fun e => ?_
    rw [e] at ht
    exact ht rfl

section
variable {P : Program} {γ0 : Gh} {w0 : World} {n : Nat} {A : St} {a : Act} {w : World} {o : Oper}

/-- A new object m whose main block is B, made of what the objects of X held. -/
theorem Rel.remake {γ : Gh} {tmps : Array Value} {w w' : World} {m : Nat} {B : Option Nat} {l : Sl} {Y : Value} {NH : Nat → Value} {NS : Nat → Nat} (X : Nat → Prop) [DecidablePred X] (f : Nat → Nat → Nat) (h : Rel γ A tmps w)
    (hX : ∀ a ∈ A.avs, ∀ o, X o → o ∉ a.obs) (hXo : ∀ o, X o → look o A.ob = none)
    (same : ∀ b, b < w.heap.size → some b ≠ B → w'.heap[b]? = w.heap[b]?) (hB : ∀ b, B = some b → ((∃ o, X o ∧ γ.inOb o b) ∨ w.heap.size ≤ b) ∧ b < w'.heap.size) (size : w.heap.size ≤ w'.heap.size) (os : w'.os = w.os) (tape : w'.tape = w.tape) (output : w'.output = w.output)
    (hob : ∀ γ' : Gh, γ'.hd m = Y → γ'.sz m = l.sz → (∀ i, γ'.nh m i = NH i ∧ γ'.ns m i = NS i) → γ'.tg = retag γ X f m B → ObAt γ' w' m l) :
    ∃ γ', Rel γ' (A.newOb m l) tmps w' ∧ Hist γ w γ' w' ∧ γ'.hd m = Y := by
  let γ' : Gh := { γ with hd := upd γ.hd m Y, sz := upd γ.sz m l.sz, nh := fun o i => if o = m then NH i else γ.nh o i, ns := fun o i => if o = m then NS i else γ.ns o i, tg := retag γ X f m B }
  have blocks : ∀ b, b < w.heap.size → (∀ o, X o → ¬ γ.inOb o b) → w'.heap[b]? = w.heap[b]? ∧ γ'.tg b = γ.tg b := fun b hb hf => by
    have hne : some b ≠ B := fun e => by
      rcases (hB b e.symm).1 with ⟨o, ho, hi⟩ | hB
      · exact hf o ho hi
      · omega
    exact ⟨same b hb hne, retag_other hne hf⟩
  refine ⟨γ', ?_, Hist.renew X rfl blocks size os tape output, by simp [γ']⟩
  rw [newOb_eq]
  refine (h.kill m).renew X (fun a ha o ho => kill_obs_ne (fun a ha => hX a ha o ho) a ha) (fun o ho => by rw [kill_look_ne, hXo o ho]; simp) (fun a ha => kill_obs ha) kill_look
    (fun o ho => ⟨upd_ne _ _ ho, upd_ne _ _ ho, fun i => ⟨by simp [γ', ho], by simp [γ', ho]⟩⟩) rfl rfl blocks (fun b hb => ?_) size (hob γ' (by simp [γ']) (by simp [γ']) (fun i => by simp [γ']) rfl)
  exact retag_lt (fun b e => (hB b e).2) (fun b hb => Nat.lt_of_lt_of_le (h.lt b (.inr hb)) size) hb

theorem mem_rowlen {l : Sl} {sz : Nat} (h : ∀ r ∈ l.d, r.length = l.sz) (hs : l.sz = sz ∨ l.d.length = 0) : ∀ r ∈ l.d, r.length = sz := by
  rcases hs with e | e
  · rw [← e]; exact h
  · intro r hr; rw [List.length_eq_zero_iff.1 e] at hr; cases hr

theorem obs_own {A : St} {b : AV} (hb : b ∈ A.avs) {o : Nat} (ho : o ∈ b.obs) (h : ∀ a ∈ A.avs, o ∉ a.obs) : False := h b hb ho

/-- the run of an append, its operands known -/
theorem append_run {x y : Operand} {t : TypeId} {args : Array Operand} {ts : Array TypeId} {v : Value} {w' : World} (hop : o.op = .call { callee := .builtin .append, args := args, argTypes := ts }) (ha : args.toList = [x, y]) (hts : ts.toList = [t, t])
    (h : (Builtin.append_ #[t, t] o.type #[a.eval x, a.eval y]).run P w = .ok v w') : (execOp a.eval o).run P w = .ok (.value v) w' := by
  obtain rfl : args = #[x, y] := by cases args; simp_all
  obtain rfl : ts = #[t, t] := by cases ts; simp_all
  simp [execOp, hop, resolve, invoke, builtin, h]

theorem appendOwn_ok {p m : Nat} {t ty : TypeId} {b : AV} {A' : St} {γ : Gh} {tmps : Array Value} {S y : Value} (h : appendOwn P A m p t b = some A') (hR : Rel γ A tmps w) (hS : S = γ.hd p) (hy : AVrep γ w b y) (hdf : a.tmps = tmps) :
    ∃ v w' γ', (Builtin.append_ #[t, t] ty #[S, y]).run P w = .ok v w' ∧ Rel γ' A' tmps w' ∧ Hist γ w γ' w' ∧ γ'.hd m = v := by
  subst hS
  subst hdf
  unfold appendOwn at h
  split at h
  case h_2 => cases h
  rename_i l r hl hr
  split at h
  case isFalse => cases h
  rename_i hc
  obtain ⟨hlsz, hrsz, hsm, hT⟩ := hc
  obtain ⟨hu, ti, z, g1, g2, g3, g4, g5⟩ := goodT_elim hT
  have hlsz' : l.sz = elemSz P t ∨ l.d.length = 0 := by
    rcases hlsz with e | ⟨_, e⟩
    · exact .inl e
    · exact .inr e
  obtain ⟨hlrow, hlo⟩ := hR.ob p l hl
  have hdata := data_rep hR hy hr
  -- the old part
  have old : ∃ (ls cap : Nat) (olds : List Value), ls = l.d.length ∧ (((∃ ad, γ.hd p = .slice ad 0 0) ∧ ls = 0 ∧ cap = 0 ∧ olds = []) ∨ ∃ blk off cs e, γ.hd p = .slice (some ⟨blk, off, none⟩) ls cap ∧ ls ≤ cap ∧ w.heap[blk]? = some (.cells cs e (0, 0)) ∧ off + cap * elemSz P t ≤ cs.size ∧
      olds.length = ls * elemSz P t ∧ (∀ k u, olds[k]? = some u → cs[off + k]? = some u) ∧ γ.tg blk = some (.ob p)) ∧
      (∀ k row, l.d[k]? = some row → ∀ j x, row[j]? = some x → ∃ u, olds[k * elemSz P t + j]? = some u ∧ COwn γ w p (elemSz P t) k x u) := by
    rcases hlo with ⟨e1, e2⟩ | ⟨e1, e2, blk, off, cap, cs, e, e3, e4, e5, e6, e7, e8⟩
    · exact ⟨0, 0, [], by simp [e2], .inl ⟨e1.imp fun ad h => h.1, rfl, rfl, rfl⟩, fun k row hk => by rw [e2] at hk; simp at hk⟩
    · have hs : l.sz = elemSz P t := by
        rcases hlsz with e | ⟨e, _⟩
        · exact e
        · omega
      have hmul : l.d.length * elemSz P t ≤ cap * elemSz P t := Nat.mul_le_mul_right _ e4
      rw [hs] at e7 e8
      have hrd : ∀ k, k < l.d.length * elemSz P t → ((cs.toList.drop off).take (l.d.length * elemSz P t))[k]? = cs[off + k]? := fun k hk => by
        rw [List.getElem?_take, if_pos hk, List.getElem?_drop]; simp
      refine ⟨l.d.length, cap, (cs.toList.drop off).take (l.d.length * elemSz P t), rfl, .inr ⟨blk, off, cs, e, e3, e4, e6, e7, by simp; omega, fun k u hk => ?_, e5⟩, fun k row hk j x hj => ?_⟩
      · have hkl := (List.getElem?_eq_some_iff.1 hk).1
        simp at hkl
        rw [hrd k (by omega)] at hk
        exact hk
      · obtain ⟨u, hu', hx⟩ := e8 k row hk j x hj
        have hkl : k < l.d.length := (List.getElem?_eq_some_iff.1 hk).1
        have hjl : j < elemSz P t := by rw [← hs, ← hlrow row (List.mem_of_getElem? hk)]; exact (List.getElem?_eq_some_iff.1 hj).1
        have hlt : k * elemSz P t + j < l.d.length * elemSz P t := by
          have : (k + 1) * elemSz P t ≤ l.d.length * elemSz P t := Nat.mul_le_mul_right _ hkl
          rw [Nat.add_mul] at this; omega
        exact ⟨u, by rw [hrd _ hlt, ← Nat.add_assoc]; exact hu', hx⟩
  obtain ⟨ls, cap, olds, rfl, hold, holdc⟩ := old
  have hS' : ((∃ ad, γ.hd p = .slice ad 0 0) ∧ l.d.length = 0 ∧ cap = 0 ∧ olds = []) ∨ ∃ blk off cs e, γ.hd p = .slice (some ⟨blk, off, none⟩) l.d.length cap ∧ l.d.length ≤ cap ∧ w.heap[blk]? = some (.cells cs e (0, 0)) ∧ off + cap * elemSz P t ≤ cs.size ∧
      olds.length = l.d.length * elemSz P t ∧ ∀ k u, olds[k]? = some u → cs[off + k]? = some u := by
    rcases hold with e | ⟨blk, off, cs, e, q1, q2, q3, q4, q5, q6, q7⟩
    · exact .inl e
    · exact .inr ⟨blk, off, cs, e, q1, q2, q3, q4, q5, q6⟩
  by_cases hne : r.d = []
  · -- nothing is appended
    have hA' : A' = (A.kill p).newOb m ⟨elemSz P t, l.d ++ r.d⟩ := by
      rw [hne] at h ⊢
      simp only [lower] at h
      split at h
      · cases h
      · cases h; rfl
    subst hA'
    obtain ⟨_, d, c, hy1, _⟩ := hdata
    rw [hne] at hy1
    obtain ⟨ad, hhd⟩ : ∃ ad, γ.hd p = .slice ad l.d.length cap := by
      rcases hS' with ⟨e, e1, e2, _⟩ | ⟨blk, off, cs, e, q1, _⟩
      · obtain ⟨ad, e⟩ := e; exact ⟨ad, by rw [e, e1, e2]⟩
      · exact ⟨_, q1⟩
    have hle : l.d.length ≤ cap := by
      rcases hS' with ⟨e, e1, e2, _⟩ | ⟨blk, off, cs, e, q1, q2, _⟩ <;> omega
    have hrun := run_append_none (w := w) (ty := ty) (b := ad) (ls := l.d.length) (cap := cap) hT hy1 hle
    -- the same block
    obtain ⟨γ', k1, k2, k3⟩ := Rel.remake (A := A.kill p) (m := m) (B := none) (w' := w) (l := ⟨elemSz P t, l.d ++ r.d⟩) (Y := γ.hd p) (NH := γ.nh p) (NS := γ.ns p) (fun o => o = p) (fun _ i => i) (hR.kill p)
      (fun a ha o ho => by subst ho; exact kill_obs ha) (fun o ho => by subst ho; exact kill_look) (fun _ _ _ => rfl) (fun b e => by cases e) (Nat.le_refl _) rfl rfl rfl (fun γ' d1 d2 d3 d4 => by
        rw [hne, List.append_nil]
        refine ⟨mem_rowlen (l := l) hlrow hlsz', ?_⟩
        rcases hold with ⟨e, e1, _⟩ | ⟨blk, off, cs, e, q1, q2, q3, q4, q5, q6, q7⟩
        · exact .inl ⟨e.imp fun ad h => ⟨d1.trans h, fun h0 => absurd h0 (by simp; omega)⟩, List.length_eq_zero_iff.1 e1⟩
        · refine .inr ⟨by simp; omega, d2, blk, off, cap, cs, e, d1.trans q1, q2, by rw [d4]; unfold retag; rw [if_neg (by simp), q7]; simp, q3, q4, fun k row hk j x hj => ?_⟩
          obtain ⟨u, hu', hx⟩ := holdc k row hk j x hj
          refine ⟨u, by rw [Nat.add_assoc]; exact q6 _ u hu', hx.re (d3 k) fun b hb _ => ⟨rfl, ?_⟩⟩
          rw [d4]; exact retag_ne (by simp) hb rfl)
    exact ⟨γ.hd p, w, γ', by rw [hhd]; exact hrun, k1, k2, k3⟩
  · -- something is appended
    obtain ⟨blk2, off2, c2, news, y1, y2, y3, y4, y5, y6, y7⟩ := hdata.cells hne
    have hrs : r.sz = elemSz P t := by
      rcases hrsz with e | e
      · exact e
      · exact absurd (List.length_eq_zero_iff.1 e) hne
    rw [hrs] at y3 y6
    have hpos : 0 < r.d.length := List.length_pos_iff.2 hne
    obtain ⟨B, O, cap', cs', e', w', z1, z2, z3, z4, z5, z6, z7, z8, z9, z10, z11, z12⟩ := run_append_some (w := w) (ty := ty) (lr := r.d.length) (c2 := c2) hT hS' y3 y5 y7 hpos hsm
    rw [← y1] at z1
    have hBp : (γ.inOb p B ∧ B < w.heap.size) ∨ w.heap.size ≤ B := by
      rcases z12 with ⟨o', l', c', e, hc0⟩ | e
      · left
        rcases hold with ⟨e1, _⟩ | ⟨blk, off, cs, e2, q1, q2, q3, q4, q5, q6, q7⟩
        · obtain ⟨ad, e1⟩ := e1; rw [e1] at e; cases e; omega
        · rw [q1] at e; cases e; exact ⟨.inl q7, heap_lt q3⟩
      · exact .inr e
    have hBlt : B < w'.heap.size := heap_lt z3
    have hmulsz : (l.d.length + r.d.length) * elemSz P t = l.d.length * elemSz P t + r.d.length * elemSz P t := Nat.add_mul _ _ _
    -- the cells of the whole
    have whole : ∀ {γ' : Gh} (NH : Nat → Value), γ'.hd m = .slice (some ⟨B, O, none⟩) (l.d.length + r.d.length) cap' → γ'.sz m = elemSz P t → γ'.tg B = some (.ob m) →
        (∀ (k : Nat) (row : List C), l.d[k]? = some row → ∀ (j : Nat) (x : C), row[j]? = some x → ∀ u, COwn γ w p (elemSz P t) k x u → COwn γ' w' m (elemSz P t) k x u) →
        (∀ (k : Nat) (row : List C), r.d[k]? = some row → ∀ (j : Nat) (x : C), row[j]? = some x → ∀ u, news[k * elemSz P t + j]? = some u → CAt w (γ.inR (srcs b)) x u → COwn γ' w' m (elemSz P t) (l.d.length + k) x u) → ObAt γ' w' m ⟨elemSz P t, l.d ++ r.d⟩ := by
      intro γ' NH d1 d2 d3 hL hRr
      refine ⟨fun row hrow => ?_, .inr ⟨by simp; omega, d2, B, O, cap', cs', e', by rw [d1]; simp, by simpa using z2, d3, z3, z4, fun k row hk j x hj => ?_⟩⟩
      · rcases List.mem_append.1 hrow with hrow | hrow
        · exact mem_rowlen hlrow hlsz' row hrow
        · exact mem_rowlen hdata.1 hrsz row hrow
      · have hk' : (l.d ++ r.d)[k]? = some row := hk
        by_cases hkl : k < l.d.length
        · rw [List.getElem?_append_left hkl] at hk'
          obtain ⟨u, hu', hx⟩ := holdc k row hk' j x hj
          exact ⟨u, by rw [Nat.add_assoc]; exact z5 _ u hu', hL k row hk' j x hj u hx⟩
        · rw [List.getElem?_append_right (by omega)] at hk'
          obtain ⟨u, hu', hx⟩ := y6 _ row hk' j x hj
          refine ⟨u, ?_, ?_⟩
          · have := z6 _ u hu'
            have e : O + k * elemSz P t + j = O + l.d.length * elemSz P t + ((k - l.d.length) * elemSz P t + j) := by
              have : k * elemSz P t = l.d.length * elemSz P t + (k - l.d.length) * elemSz P t := by rw [← Nat.add_mul]; congr 1; omega
              omega
            rw [e]; exact this
          · have := hRr _ row hk' j x hj u hu' hx
            rwa [show l.d.length + (k - l.d.length) = k by omega] at this
    cases hlow : lower r.d with
    | some rows =>
      rw [hlow] at h
      simp only at h
      split at h
      · cases h
      · rename_i hsrc
        cases h
        obtain ⟨γ', k1, k2, k3⟩ := Rel.remake (A := A.kill p) (m := m) (B := some B) (w' := w') (l := ⟨elemSz P t, l.d ++ r.d⟩) (Y := .slice (some ⟨B, O, none⟩) (l.d.length + r.d.length) cap') (NH := γ.nh p) (NS := γ.ns p) (fun o => o = p) (fun _ i => i) (hR.kill p)
          (fun a ha o ho => by subst ho; exact kill_obs ha) (fun o ho => by subst ho; exact kill_look) (fun b hb hne' => z7 b hb (fun e => hne' (by rw [e])))
          (fun b e => by cases e; exact ⟨(by
            rcases hBp with h1 | h1
            · exact .inl ⟨p, rfl, h1.1⟩
            · exact .inr h1), hBlt⟩) z8 z9 z10 z11 (fun γ' d1 d2 d3 d4 => by
            refine whole (γ.nh p) d1 d2 (by rw [d4]; unfold retag; rw [if_pos rfl]) (fun k row hk j x hj u hx => hx.re (d3 k) fun b hb hlt => ?_) (fun k row hk j x hj u hu' hx => ?_)
            · have hbB : b ≠ B := fun e => by
                subst e
                rcases z12 with ⟨o', l', c', e, hc0⟩ | e
                · rcases hold with ⟨e1, _⟩ | ⟨blk, off, cs, e2, q1, q2, q3, q4, q5, q6, q7⟩
                  · obtain ⟨ad, e1⟩ := e1; rw [e1] at e; cases e; omega
                  · rw [q1] at e; cases e; rw [q7] at hb; cases hb
                · omega
              exact ⟨z7 b hlt hbB, by rw [d4]; exact retag_ne (fun e => hbB (by cases e; rfl)) hb rfl⟩
            · have : row ∈ r.d := List.mem_of_getElem? hk
              rw [lower_eq hlow] at this
              simp only [lift, List.mem_map] at this
              obtain ⟨row', _, rfl⟩ := this
              simp only [List.getElem?_map, Option.map_eq_some_iff] at hj
              obtain ⟨x', _, rfl⟩ := hj
              exact hx)
        exact ⟨_, w', γ', z1, k1, k2, k3⟩
    | none =>
      rw [hlow] at h
      simp only at h
      split at h
      case h_2 => cases h
      rename_i q
      split at h
      · cases h
      · rename_i hpq
        cases h
        obtain ⟨hrrow, hro⟩ := hR.ob q r hr
        rcases hro with ⟨_, e2⟩ | ⟨o1, o2, blk3, off3, cap3, cs3, e3, o3, o4, o5, o6, o7, o8⟩
        · exact absurd e2 hne
        · rw [hrs] at o8
          have hyq : y = γ.hd q := hy.1
          rw [hyq, o3] at y1
          obtain ⟨rfl, rfl⟩ : blk3 = blk2 ∧ off3 = off2 := by simp at y1; exact y1.1
          have hcq : ∀ k row, r.d[k]? = some row → ∀ j x, row[j]? = some x → ∀ u, news[k * elemSz P t + j]? = some u → COwn γ w q (elemSz P t) k x u := fun k row hk j x hj u hu' => by
            obtain ⟨u', hu2, hx⟩ := o8 k row hk j x hj
            have := y5 _ u hu'
            rw [cell_cells o6, ← Nat.add_assoc, hu2] at this
            cases this
            exact hx
          have hlook : ∀ o', o' = p ∨ o' = q → look o' ((A.kill q).kill p).ob = none := fun o' ho => by
            rcases ho with rfl | rfl
            · exact kill_look
            · rw [kill_look_ne]
              split
              · rfl
              · exact kill_look
          obtain ⟨γ', k1, k2, k3⟩ := Rel.remake (A := (A.kill q).kill p) (m := m) (B := some B) (w' := w') (l := ⟨elemSz P t, l.d ++ r.d⟩) (Y := .slice (some ⟨B, O, none⟩) (l.d.length + r.d.length) cap')
            (NH := fun i => if i < l.d.length then γ.nh p i else γ.nh q (i - l.d.length)) (NS := fun i => if i < l.d.length then γ.ns p i else γ.ns q (i - l.d.length)) (fun o => o = p ∨ o = q) (fun o i => if o = p then i else l.d.length + i) ((hR.kill q).kill p)
            (fun a ha o ho => by
              rcases ho with rfl | rfl
              · exact kill_obs ha
              · exact kill_obs_ne (fun a ha => kill_obs ha) a ha) hlook (fun b hb hne' => z7 b hb (fun e => hne' (by rw [e])))
            (fun b e => by cases e; exact ⟨(by
              rcases hBp with h1 | h1
              · exact .inl ⟨p, .inl rfl, h1.1⟩
              · exact .inr h1), hBlt⟩) z8 z9 z10 z11 (fun γ' d1 d2 d3 d4 => by
              have neB : ∀ {b o' i}, γ.tg b = some (.ne o' i) → b < w.heap.size → b ≠ B := fun {b o' i} hb hlt e => by
                subst e
                rcases z12 with ⟨o', l', c', e, hc0⟩ | e
                · rcases hold with ⟨e1, _⟩ | ⟨blk, off, cs, e2, q1, q2, q3, q4, q5, q6, q7⟩
                  · obtain ⟨ad, e1⟩ := e1; rw [e1] at e; cases e; omega
                  · rw [q1] at e; cases e; rw [q7] at hb; cases hb
                · omega
              refine whole (fun _ => undef) d1 d2 (by rw [d4]; unfold retag; rw [if_pos rfl]) (fun k row hk j x hj u hx => hx.re ?_ fun b hb hlt => ?_) (fun k row hk j x hj u hu' _ => (hcq k row hk j x hj u hu').re ?_ fun b hb hlt => ?_)
              · have hkl : k < l.d.length := (List.getElem?_eq_some_iff.1 hk).1
                have := d3 k
                simpa [hkl] using this
              · have hbB := neB hb hlt
                refine ⟨z7 b hlt hbB, ?_⟩
                rw [d4, retag_ne (fun e => hbB (by cases e; rfl)) hb (.inl rfl)]
                simp
              · have := d3 (l.d.length + k)
                have e : ¬ (l.d.length + k < l.d.length) := by omega
                simpa [e] using this
              · have hbB := neB hb hlt
                refine ⟨z7 b hlt hbB, ?_⟩
                rw [d4, retag_ne (fun e => hbB (by cases e; rfl)) hb (.inr rfl)]
                simp [Ne.symm hpq])
          exact ⟨_, w', γ', z1, k1, k2, k3⟩
end
end Go.Tree
namespace Go.Tree
set_option linter.unusedVariables false
set_option linter.unusedSimpArgs false
set_option linter.constructorNameAsVariable false
section
variable {P : Program} {γ0 : Gh} {w0 : World} {n : Nat} {A : St} {a : Act} {w : World} {o : Oper}

theorem appendNil_ok {m : Nat} {t ty : TypeId} {b : AV} {A' : St} {γ : Gh} {tmps : Array Value} {y : Value} (h : appendNil P A m t b = some A') (hR : Rel γ A tmps w) (hy : AVrep γ w b y) (hdf : a.tmps = tmps) :
    ∃ v w' γ', (Builtin.append_ #[t, t] ty #[.slice none 0 0, y]).run P w = .ok v w' ∧ Rel γ' A' tmps w' ∧ Hist γ w γ' w' ∧ γ'.hd m = v := by
  subst hdf
  unfold appendNil at h
  split at h
  case h_2 => cases h
  rename_i r hr
  split at h
  case isFalse => cases h
  rename_i hc
  obtain ⟨hrsz, hsm, hT⟩ := hc
  have hdata := data_rep hR hy hr
  split at h
  case h_2 => cases h
  rename_i rows hlow
  cases h
  by_cases hne : r.d = []
  · obtain ⟨_, d, c, hy1, _⟩ := hdata
    rw [hne] at hy1
    have hrun := run_append_none (w := w) (ty := ty) (b := none) (ls := 0) (cap := 0) hT hy1 (Nat.le_refl _)
    obtain ⟨γ', k1, k2, k3⟩ := Rel.remake (A := A) (m := m) (B := none) (w' := w) (l := ⟨elemSz P t, r.d⟩) (Y := .slice none 0 0) (NH := fun _ => undef) (NS := fun _ => 0) (fun o => False) (fun _ i => i) hR
      (fun a ha o ho => ho.elim) (fun o ho => ho.elim) (fun _ _ _ => rfl) (fun b e => by cases e) (Nat.le_refl _) rfl rfl rfl (fun γ' d1 d2 d3 d4 => by
        refine ⟨fun row hrow => ?_, .inl ⟨⟨none, d1, fun _ => rfl⟩, hne⟩⟩
        simp only [hne] at hrow; cases hrow)
    exact ⟨_, w, γ', hrun, k1, k2, k3⟩
  · obtain ⟨blk2, off2, c2, news, y1, y2, y3, y4, y5, y6, y7⟩ := hdata.cells hne
    have hrs : r.sz = elemSz P t := by
      rcases hrsz with e | e
      · exact e
      · exact absurd (List.length_eq_zero_iff.1 e) hne
    rw [hrs] at y3 y6 y4
    have hpos : 0 < r.d.length := List.length_pos_iff.2 hne
    obtain ⟨B, O, cap', cs', e', w', z1, z2, z3, z4, z5, z6, z7, z8, z9, z10, z11, z12⟩ := run_append_some (w := w) (ty := ty) (S := .slice none 0 0) (ls := 0) (cap := 0) (olds := []) (lr := r.d.length) (c2 := c2) hT (.inl ⟨⟨none, rfl⟩, rfl, rfl, rfl⟩) y3 y5 y7 hpos (by simpa using hsm)
    rw [← y1] at z1
    have hB : w.heap.size ≤ B := by
      rcases z12 with ⟨o', l', c', e, hc0⟩ | e
      · cases e
      · exact e
    obtain ⟨γ', k1, k2, k3⟩ := Rel.remake (A := A) (m := m) (B := some B) (w' := w') (l := ⟨elemSz P t, r.d⟩) (Y := .slice (some ⟨B, O, none⟩) (0 + r.d.length) cap') (NH := fun _ => undef) (NS := fun _ => 0) (fun o => False) (fun _ i => i) hR
      (fun a ha o ho => ho.elim) (fun o ho => ho.elim) (fun b hb hne' => z7 b hb (fun e => hne' (by rw [e]))) (fun b e => by cases e; exact ⟨.inr hB, heap_lt z3⟩) z8 z9 z10 z11 (fun γ' d1 d2 d3 d4 => by
        refine ⟨fun row hrow => mem_rowlen hdata.1 hrsz row hrow, .inr ⟨y4, d2, B, O, cap', cs', e', by rw [d1]; simp, by simpa using z2, by rw [d4]; unfold retag; rw [if_pos rfl], z3, z4, fun k row hk j x hj => ?_⟩⟩
        obtain ⟨u, hu', hx⟩ := y6 k row hk j x hj
        refine ⟨u, ?_, ?_⟩
        · have := z6 _ u hu'
          rw [Nat.zero_mul, Nat.add_zero, ← Nat.add_assoc] at this
          exact this
        · have : row ∈ r.d := List.mem_of_getElem? hk
          rw [lower_eq hlow] at this
          simp only [lift, List.mem_map] at this
          obtain ⟨row', _, rfl⟩ := this
          simp only [List.getElem?_map, Option.map_eq_some_iff] at hj
          obtain ⟨x', _, rfl⟩ := hj
          exact hx)
    exact ⟨_, w', γ', z1, k1, k2, k3⟩

theorem COwn.one {γ : Gh} {p sz i : Nat} {c : C} {u : Value} (h : COwn γ w p sz i c u) : u.oneCell' = true := by
  cases c with
  | v x => rw [h.1]; exact h.2
  | x => exact h
  | s m rows =>
    obtain ⟨_, e, h⟩ := h
    rw [e]
    rcases h.2 with ⟨⟨_, e1, _⟩, _⟩ | ⟨_, _, _, _, _, _, _, e1, _⟩ <;> rw [e1] <;> rfl

/-- An element's cells are turned; the others stay. -/
theorem ObAt.setElem {γ γ' : Gh} {w' : World} {p i : Nat} {b : Sl} {old row : List C} (h : ObAt γ w p b) (hi : b.d[i]? = some old) (hlen : row.length = old.length)
    (hh : γ'.hd p = γ.hd p ∧ γ'.sz p = γ.sz p) (hn : ∀ k, k ≠ i → γ'.nh p k = γ.nh p k ∧ γ'.ns p k = γ.ns p k) (hb : ∀ k, k ≠ i → ∀ x, γ.tg x = some (.ne p k) → x < w.heap.size → w'.heap[x]? = w.heap[x]? ∧ γ'.tg x = some (.ne p k))
    (hm : ∀ blk off cap cs e, 0 < b.sz → γ.hd p = .slice (some ⟨blk, off, none⟩) b.d.length cap → γ.tg blk = some (.ob p) → w.heap[blk]? = some (.cells cs e (0, 0)) → off + cap * b.sz ≤ cs.size → b.d.length ≤ cap →
      γ'.tg blk = some (.ob p) ∧ ∃ cs' : Array Value, w'.heap[blk]? = some (.cells cs' e (0, 0)) ∧ cs'.size = cs.size ∧ (∀ k, (k < off + i * b.sz ∨ off + i * b.sz + b.sz ≤ k) → cs'[k]? = cs[k]?) ∧
        ∀ j x, row[j]? = some x → (∀ c, old[j]? = some c → ∀ u, cs[off + i * b.sz + j]? = some u → COwn γ w p b.sz i c u → ∃ u', cs'[off + i * b.sz + j]? = some u' ∧ COwn γ' w' p b.sz i x u')) :
    ObAt γ' w' p ⟨b.sz, b.d.set i row⟩ := by
  obtain ⟨h1, h⟩ := h
  have hil : i < b.d.length := (List.getElem?_eq_some_iff.1 hi).1
  have hold : old.length = b.sz := h1 old (List.mem_of_getElem? hi)
  refine ⟨fun r hr => ?_, ?_⟩
  · rcases List.mem_or_eq_of_mem_set hr with hr | rfl
    · exact h1 r hr
    · exact hlen.trans hold
  · rcases h with ⟨_, h3⟩ | ⟨h2, h3, blk, off, cap, cs, e, h4, h5, h6, h7, h8, h9⟩
    · rw [h3] at hil; simp at hil
    · obtain ⟨t1, cs', t2, t3, t4, t5⟩ := hm blk off cap cs e h2 h4 h6 h7 h8 h5
      refine .inr ⟨h2, hh.2.trans h3, blk, off, cap, cs', e, by rw [hh.1, h4]; simp, by simpa using h5, t1, t2, by rw [t3]; exact h8, fun k r hk j x hj => ?_⟩
      dsimp only at hk ⊢
      rw [List.getElem?_set] at hk
      by_cases hik : i = k
      · subst hik
        rw [if_pos rfl, if_pos hil] at hk
        cases hk
        have hjl : j < old.length := by rw [← hlen]; exact (List.getElem?_eq_some_iff.1 hj).1
        obtain ⟨u, hu, hx⟩ := h9 i old hi j _ (List.getElem?_eq_getElem hjl)
        exact t5 j x hj _ (List.getElem?_eq_getElem hjl) u hu hx
      · rw [if_neg hik] at hk
        obtain ⟨u, hu, hx⟩ := h9 k r hk j x hj
        have hjl : j < b.sz := by rw [← h1 r (List.mem_of_getElem? hk)]; exact (List.getElem?_eq_some_iff.1 hj).1
        refine ⟨u, ?_, hx.re (hn k (Ne.symm hik)) (hb k (Ne.symm hik))⟩
        rw [t4]
        · exact hu
        · rcases Nat.lt_or_gt_of_ne hik with hlt | hlt
          · right
            have : (i + 1) * b.sz ≤ k * b.sz := Nat.mul_le_mul_right _ hlt
            rw [Nat.add_mul] at this; omega
          · left
            have : (k + 1) * b.sz ≤ i * b.sz := Nat.mul_le_mul_right _ hlt
            rw [Nat.add_mul] at this; omega

theorem killNest_spec {A : St} {p i : Nat} {x : AV} (hx : x ∈ (A.map (killNest p i)).avs) : p ∉ x.reads ∧ x.nests p i = false := by
  obtain ⟨b, rfl⟩ := forgets_avs (forgets_killIf _) A (a := x) hx
  have := killIf_not (p := fun a : AV => a.reads.contains p || a.nests p i) (b := b) (by simp [AV.reads, AV.nests])
  simpa [killNest] using this

theorem Rel.extract {γ : Gh} {tmps : Array Value} {p i m : Nat} {A' : St} (hR : Rel γ A tmps w) (h : A.extract p i m = some A') : ∃ γ', Rel γ' A' tmps w ∧ Hist γ w γ' w ∧ γ'.hd m = γ.nh p i := by
  unfold St.extract at h
  split at h
  · cases h
  rename_i hpm
  split at h
  case h_2 => cases h
  rename_i b hb
  split at h
  case h_2 => cases h
  rename_i k rows hi
  cases h
  have hob := hR.ob p b hb
  let γ' : Gh := { γ with hd := upd γ.hd m (γ.nh p i), sz := upd γ.sz m (γ.ns p i), tg := fun x => match γ.tg x with | some (.ne o j) => if o = p ∧ j = i then some (.ob m) else some (.ne o j) | t => t }
  have tgs : ∀ x, (∀ o j, γ.tg x = some (.ne o j) → ¬ (o = p ∧ j = i)) → γ'.tg x = γ.tg x := fun x hx => by
    show (match γ.tg x with | some (.ne o j) => if o = p ∧ j = i then some (Tag.ob m) else some (.ne o j) | t => t) = γ.tg x
    cases ht : γ.tg x with
    | none => rfl
    | some t => cases t with
      | bx _ => rfl
      | ob _ => rfl
      | ne o j => dsimp only; rw [if_neg (hx o j ht)]
  have tg0 : ∀ x, γ'.tg x = none ↔ γ.tg x = none := fun x => by
    show (match γ.tg x with | some (.ne o j) => if o = p ∧ j = i then some (Tag.ob m) else some (.ne o j) | t => t) = none ↔ _
    cases ht : γ.tg x with
    | none => simp
    | some t => cases t with
      | bx _ => simp
      | ob _ => simp
      | ne o j => dsimp only; split <;> simp
  have hne : NeAt γ w p i k rows := by
    rcases hob.2 with ⟨_, e⟩ | ⟨h2, h3, blk, off, cap, cs, e, h4, h5, h6, h7, h8, h9⟩
    · rw [e] at hi; simp at hi
    · obtain ⟨u, _, g1, g2, g3⟩ := h9 i _ hi 0 _ rfl; exact g3
  refine ⟨γ', ?_, ⟨Nat.le_refl _, rfl, rfl, rfl, fun x _ ht => ⟨rfl, (tg0 x).2 ht⟩, fun x _ hz => .inl hz⟩, by simp [γ']⟩
  let A1 := (A.map (killNest p i)).map (killAV m)
  have hm0 : Rel γ A1 tmps w := (hR.map (forgets_killIf fun a => a.reads.contains p || a.nests p i)).map (forgets_killIf fun a => a.obs.contains m)
  have L : ∀ x : AV, x ∈ A1.avs → Leans γ w γ' w x := fun x hx => by
    have hmx : m ∉ x.obs ∧ p ∉ x.reads ∧ x.nests p i = false := by
      obtain ⟨y, hy, rfl⟩ := mem_map_avs hx
      have hy' := killNest_spec hy
      refine ⟨?_, ?_⟩
      · have := killIf_not (p := fun a : AV => a.obs.contains m) (b := y) (by simp [AV.obs])
        simpa [killAV] using this
      · rcases forgets_killIf (fun a : AV => a.obs.contains m) y with e | e <;> rw [show killAV m y = _ from e]
        · exact hy'
        · simp [AV.reads, AV.nests]
    refine ⟨fun y hy hlt => ⟨rfl, ?_⟩, fun y hy hlt => ⟨rfl, hy⟩, fun o ho => ?_, fun o j hj => ⟨rfl, rfl⟩, fun y _ => rfl⟩
    · rcases hy with hz | ⟨q, hq, hqy⟩
      · exact .inl hz
      · refine .inr ⟨q, hq, ?_⟩
        unfold Gh.inOb
        rw [tgs y fun o j e => ?_]
        · exact hqy
        · rintro ⟨rfl, rfl⟩
          have : q = o := inOb_uniq hqy (.inr ⟨j, e⟩)
          exact hmx.2.1 (this ▸ hq)
    · have : o ≠ m := fun e => hmx.1 (e ▸ ho)
      exact ⟨upd_ne _ _ this, upd_ne _ _ this⟩
  rw [newOb_eq]
  refine ⟨fun t x hx => (hm0.tm t x hx).mono fun y z hy hz => hz.move (L y (List.mem_append_left _ (List.mem_flatMap.2 ⟨_, mem_of_look hx, hy⟩))), fun t l hl => ?_, fun q l hl => ?_, fun x hz => (tg0 x).2 (hR.zt x hz), fun x hx => hR.lt x ?_⟩
  · have hbx := hm0.bx t l hl
    refine hbx.move ⟨rfl, ?_⟩ rfl fun y hy => L y (List.mem_append_right _ (List.mem_flatMap.2 ⟨_, mem_of_look hl, hy⟩))
    obtain ⟨cs, e, h1, h2, h3⟩ := hbx
    exact tgs _ fun o j e => by rw [h2] at e; cases e
  · simp only [look] at hl
    split at hl
    · rename_i e
      cases hl
      subst e
      refine hne.toOb ⟨by simp [γ'], by simp [γ']⟩ fun y hy _ => ⟨rfl, ?_⟩
      show (match γ.tg y with | some (.ne o j) => if o = p ∧ j = i then some (Tag.ob m) else some (.ne o j) | t => t) = _
      rw [hy]; simp
    · rename_i e
      have hl' : look q (put p ⟨b.sz, b.d.set i [.x]⟩ A.ob) = some l := by
        have : look q ((St.kill m { A.map (killNest p i) with ob := put p ⟨b.sz, b.d.set i [.x]⟩ A.ob }).ob) = some l := hl
        rw [kill_look_ne, if_neg (Ne.symm e)] at this
        exact this
      rw [look_put] at hl'
      split at hl'
      · rename_i eq
        cases hl'
        subst eq
        refine hob.setElem hi rfl ⟨upd_ne _ _ (Ne.symm e), upd_ne _ _ (Ne.symm e)⟩ (fun _ _ => ⟨rfl, rfl⟩) (fun j hj x hx _ => ⟨rfl, ?_⟩) fun blk off cap cs e' h0 h1 h2 h3 h4 h5 => ⟨?_, cs, h3, rfl, fun _ _ => rfl, fun j x hj c hc u hu hx => ⟨u, hu, ?_⟩⟩
        · rw [tgs x fun o j' e => ?_]
          · exact hx
          · rw [hx] at e; cases e; rintro ⟨_, rfl⟩; exact hj rfl
        · rw [tgs blk fun o j' e => by rw [h2] at e; cases e]; exact h2
        · have : x = .x := by
            cases j with
            | zero => simpa using hj.symm
            | succ j => simp at hj
          subst this
          exact hx.one
      · rename_i eq
        exact (hR.ob q l hl').move (fun y hy _ => ⟨rfl, tgs y fun o j e => by
          rintro ⟨rfl, rfl⟩
          exact eq (inOb_uniq hy (.inr ⟨j, e⟩))⟩) ⟨upd_ne _ _ (Ne.symm e), upd_ne _ _ (Ne.symm e)⟩ fun _ => ⟨rfl, rfl⟩
  · rcases hx with hx | hx
    · exact .inl hx
    · exact .inr fun e => hx ((tg0 x).2 e)
end
end Go.Tree
namespace Go.Tree
set_option linter.unusedVariables false
set_option linter.unusedSimpArgs false
set_option linter.constructorNameAsVariable false
section
variable {P : Program} {γ0 : Gh} {w0 : World} {n : Nat} {A : St} {a : Act} {w : World} {o : Oper}

theorem cut_get {α : Type} (l : List α) (lo hi k : Nat) : (cut l lo hi)[k]? = if lo + k < hi then l[lo + k]? else none := by
  unfold cut
  rw [List.getElem?_drop, List.getElem?_take]
theorem cut_len {α : Type} {l : List α} {lo hi : Nat} (h1 : lo ≤ hi) (h2 : hi ≤ l.length) : (cut l lo hi).length = hi - lo := by
  unfold cut; simp; omega
theorem cut_mem {α : Type} {l : List α} {lo hi : Nat} {x : α} (h : x ∈ cut l lo hi) : x ∈ l := List.mem_of_mem_take (List.mem_of_mem_drop h)

theorem bound_run {γ : Gh} {d k : Nat} {lo : Option Operand} (hR : Rel γ A a.tmps w) (h : boundOf A d lo = some k) : (lo = none ∧ k = d) ∨ ∃ x q, lo = some x ∧ a.eval x = .int q (k : Int) := by
  cases lo with
  | none => simp [boundOf] at h; exact .inl ⟨rfl, h.symm⟩
  | some x => simp only [boundOf] at h; obtain ⟨q, hq⟩ := ev_int hR h; exact .inr ⟨x, q, rfl, hq⟩

theorem run_cut {γ : Gh} {t : TypeId} {ad : Option Addr} {len cap l r : Nat} {lo hi : Option Operand} (hR : Rel γ A a.tmps w) (hT : goodT P t = true) (hlo : boundOf A 0 lo = some l) (hhi : boundOf A len hi = some r)
    (h1 : l ≤ r) (h2 : r ≤ len) (h3 : len ≤ cap) :
    (Instr.sliceAt t (.slice ad len cap) (lo.map a.eval) (hi.map a.eval) none).run P w = .ok (.slice (if cap = l then ad else ad.map (·.add (l * elemSz P t))) (r - l) (cap - l)) w := by
  obtain ⟨hu, ti, z, g1, g2, g3, g4, g5⟩ := goodT_elim hT
  have hs : (sizeOf (elemT P t)).run P w = .ok (elemSz P t) w := by simp [sizeOf, typeInfo, g1, g5]
  have b1 : (l : Int) ≤ r := by omega
  have b2 : (r : Int) ≤ cap := by omega
  have b3 : (l : Int) ≤ len := by omega
  have n1 : ¬ r < l := by omega
  have n2 : ¬ cap < r := by omega
  have n3 : ¬ len < l := by omega
  rcases bound_run hR hlo with ⟨rfl, rfl⟩ | ⟨x, q, rfl, hx⟩ <;> rcases bound_run hR hhi with ⟨rfl, rfl⟩ | ⟨y, q', rfl, hy⟩ <;>
    simp [Instr.sliceAt, run_underlying hu, Instr.slice, Instr.sliceBounds, Instr.sliceBound, asIntOf, hs, *]

theorem cutRd_ok {t : TypeId} {x : Operand} {lo hi : Option Operand} {v v' : AV} (hop : o.op = .slice t x lo hi none) (hx : A.ev x = .c v) (h : cutRd P A t v lo hi = some v')
    (hI : Inv γ0 w0 n A a w) (hd : ∀ t, o.dst = some t → t < n) : OpOk P γ0 w0 n o a w (A.dst o.dst (.c v')) := by
  obtain ⟨γ, hR, hH⟩ := hI.ex
  unfold cutRd at h
  split at h
  case h_2 => cases h
  rename_i b hb
  split at h
  case h_2 => cases h
  rename_i l r hl hr
  split at h
  case isFalse => cases h
  rename_i hc
  cases h
  obtain ⟨h1, h2, h3, h4⟩ := hc
  obtain ⟨hu, ti, z, g1, g2, g3, g4, g5⟩ := goodT_elim h4
  obtain ⟨d1, ad, cap, d2, d3, d4, d5⟩ := data_rep hR (ev_c hR hx) hb
  have hlen := cut_len h1 h2
  refine OpOk.val hI hd (v := .slice (if cap = l then ad else ad.map (·.add (l * elemSz P t))) (r - l) (cap - l)) ?_ ⟨γ, hR, hH, fun row hrow => d1 row (cut_mem hrow), if cap = l then ad else ad.map (·.add (l * elemSz P t)), cap - l, by rw [hlen], by rw [hlen]; omega, fun e => ?_, fun hne => ?_⟩
  · simp only [execOp, hop, d2]
    have := run_cut (ad := ad) (cap := cap) hR h4 hl hr h1 h2 d3
    simp only [Option.map_none] at *
    simp [this]
  · have := d4 e
    rw [d2] at this
    obtain ⟨q1, q2, q3⟩ : ad = none ∧ b.d.length = 0 ∧ cap = 0 := by simpa using this
    have e1 : r = 0 := by omega
    have e2 : l = 0 := by omega
    rw [q1, q3, e1, e2]
    simp
  · have hpos : 0 < r - l := by rw [← hlen]; exact List.length_pos_iff.2 hne
    obtain ⟨blk, off, rfl, e1, e2⟩ := d5 (fun e => by rw [e] at h2; simp at h2; omega)
    have hsz : b.sz = elemSz P t := by
      rcases h3 with e | e
      · exact e
      · have := d4 e; rw [d2] at this; cases this
    refine ⟨blk, off + l * elemSz P t, ?_, e1, fun i row hi' j x' hj => ?_⟩
    · rw [if_neg (by omega)]; simp [addr_add]
    · dsimp only at hi' ⊢
      rw [cut_get] at hi'
      split at hi'
      · have := e2 (l + i) row hi' j x' hj
        rw [Nat.add_mul] at this
        rw [hsz] at this ⊢
        rwa [show off + l * elemSz P t + i * elemSz P t + j = off + (l * elemSz P t + i * elemSz P t) + j by omega]
      · cases hi'

theorem cutOwn_ok {γ : Gh} {t : TypeId} {p m : Nat} {lo hi : Option Operand} {A' : St} {S : Value} (h : cutOwn P A m p t lo hi = some A') (hR : Rel γ A a.tmps w) (hS : S = γ.hd p) :
    ∃ v γ', (Instr.sliceAt t S (lo.map a.eval) (hi.map a.eval) none).run P w = .ok v w ∧ Rel γ' A' a.tmps w ∧ Hist γ w γ' w ∧ γ'.hd m = v := by
  subst hS
  unfold cutOwn at h
  split at h
  case h_2 => cases h
  rename_i b hb
  split at h
  case h_2 => cases h
  rename_i l r hl hr
  split at h
  case isFalse => cases h
  rename_i hc
  cases h
  obtain ⟨h1, h2, h3, h4⟩ := hc
  have hlen := cut_len h1 h2
  obtain ⟨d1, hbo⟩ := hR.ob p b hb
  have hd' : ∃ ad cap, γ.hd p = .slice ad b.d.length cap ∧ b.d.length ≤ cap := by
    rcases hbo with ⟨e1, e2⟩ | ⟨e1, e2, blk, off, cap, cs, e, e3, e4, _⟩
    · obtain ⟨ad, e1, _⟩ := e1
      exact ⟨ad, 0, by rw [e1, e2]; rfl, by simp [e2]⟩
    · exact ⟨_, cap, e3, e4⟩
  obtain ⟨ad, cap, q1, q2⟩ := hd'
  have hrun := run_cut (ad := ad) (cap := cap) hR h4 hl hr h1 h2 q2
  rw [← q1] at hrun
  obtain ⟨γ', k1, k2, k3⟩ := Rel.remake (A := A.kill p) (m := m) (B := none) (w' := w) (l := ⟨b.sz, cut b.d l r⟩) (Y := .slice (if cap = l then ad else ad.map (·.add (l * elemSz P t))) (r - l) (cap - l)) (NH := fun i => γ.nh p (l + i)) (NS := fun i => γ.ns p (l + i))
    (fun o => o = p) (fun _ i => i - l) (hR.kill p)
    (fun a ha o ho => by subst ho; exact kill_obs ha) (fun o ho => by subst ho; exact kill_look) (fun _ _ _ => rfl) (fun b e => by cases e) (Nat.le_refl _) rfl rfl rfl (fun γ' d1' d2' d3' d4' => by
      refine ⟨fun row hrow => d1 row (cut_mem hrow), ?_⟩
      rcases hbo with ⟨e1, e2⟩ | ⟨e1, e2, blk, off, cap', cs, e, e3, e4, e5, e6, e7, e8⟩
      · left
        obtain ⟨ad0, e1, e1'⟩ := e1
        rw [e1] at q1
        obtain ⟨q3, q4, q5⟩ : ad = ad0 ∧ b.d.length = 0 ∧ cap = 0 := by simp at q1; exact ⟨q1.1.symm, q1.2.1.symm, q1.2.2.symm⟩
        have e3 : r = 0 := by omega
        have e4 : l = 0 := by omega
        exact ⟨⟨ad0, by rw [d1', q3, q5, e3, e4]; simp, e1'⟩, by dsimp only; rw [e3]; simp [cut]⟩
      · right
        rw [e3] at q1
        obtain ⟨q3, q5⟩ : ad = some ⟨blk, off, none⟩ ∧ cap = cap' := by simp at q1; exact ⟨q1.1.symm, q1.2.symm⟩
        subst q5
        subst q3
        have hmul : l * b.sz + (cap - l) * b.sz = cap * b.sz := by rw [← Nat.add_mul]; congr 1; omega
        refine ⟨e1, d2', blk, if cap = l then off else off + l * b.sz, cap - l, cs, e, ?_, by dsimp only; rw [hlen]; omega, by rw [d4']; unfold retag; rw [if_neg (by simp), e5]; simp, e6, ?_, fun k row hk j x hj => ?_⟩
        · rw [d1', hlen, ← h3]
          split <;> simp [addr_add]
        · dsimp only
          split
          · rename_i e; subst e; simp; omega
          · omega
        · dsimp only at hk ⊢
          rw [cut_get] at hk
          split at hk
          · obtain ⟨u, hu, hx⟩ := e8 (l + k) row hk j x hj
            rw [if_neg (by omega)]
            refine ⟨u, by rw [Nat.add_mul] at hu; rw [show off + l * b.sz + k * b.sz + j = off + (l * b.sz + k * b.sz) + j by omega]; exact hu, hx.re (d3' k) fun y hy _ => ⟨rfl, ?_⟩⟩
            rw [d4']
            have := retag_ne (X := fun o => o = p) (f := fun _ i => i - l) (m := m) (B := none) (b := y) (by simp) hy rfl
            rw [this, Nat.add_sub_cancel_left]
          · cases hk)
  exact ⟨_, γ', hrun, k1, k2, k3⟩

/-- a new object in a new block -/
theorem Rel.fresh {γ : Gh} {tmps : Array Value} {m : Nat} {l : Sl} {cap : Nat} {cs : Array Value} {e : TypeId} (h : Rel γ A tmps w) (hrow : ∀ r ∈ l.d, r.length = l.sz) (hsz : 0 < l.sz) (hcap : l.d.length ≤ cap) (hsize : cap * l.sz ≤ cs.size)
    (hc : ∀ k r, l.d[k]? = some r → ∀ j x, r[j]? = some x → ∃ u, cs[k * l.sz + j]? = some u ∧ ((∃ y, x = .v y ∧ u = y ∧ y.oneCell' = true) ∨ (∃ n, x = .s n [] ∧ l.sz = 1 ∧ u = .slice none 0 0) ∨ x = .x ∧ u.oneCell' = true)) :
    ∃ γ', Rel γ' (A.newOb m l) tmps (w.alloc (.cells cs e)) ∧ Hist γ w γ' (w.alloc (.cells cs e)) ∧ γ'.hd m = .slice (some ⟨w.heap.size, 0, none⟩) l.d.length cap := by
  refine Rel.remake (A := A) (m := m) (B := some w.heap.size) (w' := w.alloc (.cells cs e)) (l := l) (Y := .slice (some ⟨w.heap.size, 0, none⟩) l.d.length cap) (NH := fun _ => .slice none 0 0) (NS := fun _ => 0) (fun o => False) (fun _ i => i) h
    (fun a ha o ho => ho.elim) (fun o ho => ho.elim) (fun b hb _ => heap_alloc _ _ _ hb) (fun b e => by cases e; exact ⟨.inr (Nat.le_refl _), by simp⟩) (by simp) rfl rfl rfl (fun γ' d1 d2 d3 d4 => ?_)
  refine ⟨hrow, .inr ⟨hsz, d2, w.heap.size, 0, cap, cs, e, d1, hcap, by rw [d4]; unfold retag; rw [if_pos rfl], heap_alloc_self _ _, by omega, fun k r hk j x hj => ?_⟩⟩
  obtain ⟨u, hu, hx⟩ := hc k r hk j x hj
  refine ⟨u, by rw [Nat.zero_add]; exact hu, ?_⟩
  rcases hx with ⟨y, rfl, rfl, hy⟩ | ⟨n', rfl, h1, rfl⟩ | ⟨rfl, hy⟩
  · exact ⟨rfl, hy⟩
  · exact ⟨h1, (d3 k).1.symm, fun r hr => (by cases hr), .inl ⟨⟨none, (d3 k).1, fun _ => rfl⟩, rfl⟩⟩
  · exact hy

theorem makeSlice_ok {t : TypeId} {l c : Operand} {k m : Nat} {z : List Value} (hop : o.op = .makeSlice t l c) (hl : natOf (A.ev l) = some k) (hc : natOf (A.ev c) = some k) (hz : zeroCells P (elemT P t) = some z) (hs : small P k t = true) (hT : goodT P t = true)
    (hI : Inv γ0 w0 n A a w) (hd : ∀ t, o.dst = some t → t < n) :
    OpOk P γ0 w0 n o a w ((A.newOb m ⟨elemSz P t, List.replicate k (z.map (zeroC (elemSz P t) (elemSz P (elemT P t))))⟩).dst o.dst (.c (.own m))) := by
  obtain ⟨γ, hR, hH⟩ := hI.ex
  obtain ⟨hu, ti, zv, g1, g2, g3, g4, g5⟩ := goodT_elim hT
  obtain ⟨i', v', h1, h2, h3, h4⟩ := zero_info hz
  rw [g1] at h1; cases h1
  rw [g2] at h2; cases h2
  obtain ⟨kl, hkl⟩ := ev_int hR hl
  obtain ⟨kc, hkc⟩ := ev_int hR hc
  have hb : ti.bytes * k ≤ 281474976710656 ∧ k ≤ 9223372036854775807 := by
    simp only [small, Bool.and_eq_true, decide_eq_true_eq] at hs
    have : P.bytesOf (elemT P t) = ti.bytes := by simp [Program.bytesOf, g1]
    rw [this, Nat.mul_comm] at hs
    exact ⟨by omega, hs.2⟩
  have hrun := run_make (P := P) w t (elemT P t) ti zv hu g1 g2 kl kc (k : Int) (k : Int) (by omega) (by omega) (by rw [← Int.natCast_mul]; have := hb.1; omega) (by have := hb.2; omega)
  simp only [Int.toNat_natCast] at hrun
  have hzl : z.length = elemSz P t := by rw [← h3, ← g5, ← g3]; simp
  obtain ⟨γ', k1, k2, k3⟩ := hR.fresh (m := m) (l := ⟨elemSz P t, List.replicate k (z.map (zeroC (elemSz P t) (elemSz P (elemT P t))))⟩) (cap := k) (cs := madeCells zv.cells (k * ti.size)) (e := elemT P t)
    (fun r hr => by rw [List.eq_of_mem_replicate hr]; simpa using hzl) (by dsimp only; omega) (by simp) (by dsimp only; rw [size_madeCells, g5]; exact Nat.le_refl _) (fun i r hi j x hj => by
      dsimp only at hi ⊢
      have hik : i < k := by have := (List.getElem?_eq_some_iff.1 hi).1; simpa using this
      rw [List.getElem?_replicate, if_pos hik] at hi
      cases hi
      simp only [List.getElem?_map, Option.map_eq_some_iff] at hj
      obtain ⟨y, hj, rfl⟩ := hj
      have hjl : j < z.length := (List.getElem?_eq_some_iff.1 hj).1
      have hlt : i * elemSz P t + j < k * elemSz P t := by
        have : (i + 1) * elemSz P t ≤ k * elemSz P t := Nat.mul_le_mul_right _ hik
        rw [Nat.add_mul] at this; omega
      have hmod : (i * elemSz P t + j) % zv.cells.size = j := by
        rw [g3, g5, Nat.add_comm, Nat.add_mul_mod_self_right, Nat.mod_eq_of_lt (by omega)]
      have hy : zv.cells[j]? = some y := by rw [← h3] at hj; simpa using hj
      refine ⟨y, ?_, ?_⟩
      · unfold madeCells
        rw [Array.getElem?_map, Array.getElem?_range, if_pos (by rw [g5]; exact hlt)]
        simp only [Option.map_some, hmod]
        rw [Array.getElem!_eq_getD, Array.getD_eq_getD_getElem?, hy]; rfl
      · unfold zeroC
        split
        · split
          · rename_i h1'; exact .inr (.inl ⟨_, rfl, h1', rfl⟩)
          · exact .inr (.inr ⟨rfl, rfl⟩)
        · exact .inl ⟨y, rfl, rfl, single_one (List.all_eq_true.1 h4 y (List.mem_of_getElem? hj))⟩)
  refine OpOk.val hI hd (v := .slice (some ⟨w.heap.size, 0, none⟩) k k) (w' := w.alloc (.cells (madeCells zv.cells (k * ti.size)) (elemT P t))) ?_ ⟨γ', k1, hH.trans k2, ?_⟩
  · simp [execOp, hop, hkl, hkc, hrun]
  · rw [List.length_replicate] at k3
    exact ⟨k3.symm, rfl⟩
end
end Go.Tree
namespace Go.Tree
set_option linter.unusedVariables false
set_option linter.unusedSimpArgs false
set_option linter.constructorNameAsVariable false
section
variable {P : Program} {γ0 : Gh} {w0 : World} {n : Nat} {A : St} {a : Act} {w : World} {o : Oper}

/-- the cells of a block that a store turns -/
theorem setCells_arr {cs : Array Value} {e : TypeId} {blk off : Nat} {vs : List Value} (h : w.heap[blk]? = some (.cells cs e (0, 0))) (hfit : off + vs.length ≤ cs.size) :
    ∃ cs' : Array Value, (w.setCells blk off vs).heap[blk]? = some (.cells cs' e (0, 0)) ∧ cs'.size = cs.size ∧ (∀ k, (k < off ∨ off + vs.length ≤ k) → cs'[k]? = cs[k]?) ∧ ∀ j u, vs[j]? = some u → cs'[off + j]? = some u := by
  obtain ⟨s1, s2, s3, s4, s5, s6⟩ := heap_setCells blk vs off w
  obtain ⟨cs', s7, s8⟩ := s6 cs e (0, 0) h
  have rd : ∀ k, cs'[k]? = (w.setCells blk off vs).cell? ⟨blk, k, none⟩ := fun k => (cell_cells s7).symm
  refine ⟨cs', s7, s8, fun k hk => ?_, fun j u hj => ?_⟩
  · rw [rd, World.cell?_setCells_out blk vs off w _ (fun _ _ => hk), cell_cells h]
  · obtain ⟨hjl, hju⟩ := List.getElem?_eq_some_iff.1 hj
    rw [rd, World.cell?_setCells_in blk vs off w (fun i hi => by rw [cell_cells h, Array.getElem?_eq_getElem (by omega)]; rfl) j hjl, hju]

theorem run_storeVar {t : TypeId} {blk off : Nat} {y : Value} {cs : Array Value} {e : TypeId} (h : w.heap[blk]? = some (.cells cs e (0, 0))) (hlen : y.cells.size = P.cellsOf t) (hne : P.cellsOf t ≠ 0) (hfit : off + y.cells.size ≤ cs.size) (h1 : ∀ u ∈ y.cells.toList, u.oneCell' = true) :
    (storeVar t ⟨blk, off, none⟩ y).run P w = .ok () (w.setCells blk off y.cells.toList) := by
  have hst := run_storeCells_cells (P := P) blk off y.cells.toList 0 w (fun j hj => by
    rw [cell_cells h, Array.getElem?_eq_getElem (by simp at hj; omega)]; rfl) (fun j _ => frozen_cells h) h1
  simp only [Nat.add_zero] at hst
  simp [storeVar, run_sizeOf_cells hne, hlen, hst]

theorem Cells.one {γ : Gh} {l : List AV} {cs : List Value} (h : Cells γ w l cs) : ∀ u ∈ cs, u.oneCell' = true := by
  induction h with
  | nil => simp
  | cons r _ ih =>
    intro u hu
    rcases List.mem_cons.1 hu with rfl | hu
    · exact r.2
    · exact ih u hu

theorem splice_rep {γ : Gh} {l : List AV} {cs : List Value} {off : Nat} {xs : List AV} {us : List Value} (h : Cells γ w l cs) (hx : Cells γ w xs us) (hle : off + xs.length ≤ l.length) :
    Cells γ w (splice l off xs) (splice cs off us) := by
  unfold splice
  have e : xs.length = us.length := hx.length
  rw [e]
  exact ((h.take off).append hx).append (h.drop _)
theorem splice_get {α : Type} {l xs : List α} {off : Nat} (hle : off + xs.length ≤ l.length) (k : Nat) : (splice l off xs)[k]? = if k < off then l[k]? else if k < off + xs.length then xs[k - off]? else l[k]? := by
  unfold splice
  have hl : (l.take off).length = off := by simp; omega
  by_cases h1 : k < off
  · rw [if_pos h1, List.append_assoc, List.getElem?_append_left (by omega), List.getElem?_take, if_pos h1]
  · rw [if_neg h1, List.append_assoc, List.getElem?_append_right (by omega), hl]
    by_cases h2 : k < off + xs.length
    · rw [if_pos h2, List.getElem?_append_left (by omega)]
    · rw [if_neg h2, List.getElem?_append_right (by omega), List.getElem?_drop]
      congr 1; omega

/-- what is stored does not hold the tag of the block -/
theorem Rel.setBlock {γ : Gh} {tmps : Array Value} {blk off : Nat} {vs : List Value} (h : Rel γ A tmps w) (t : Tag) (ht : γ.tg blk = some t)
    (_ : True := trivial) :
    (∀ x : AV, (∀ o ∈ x.reads, t ≠ .ob o ∧ ∀ i, t ≠ .ne o i) → Leans γ w γ (w.setCells blk off vs) x) ∧ Hist γ w γ (w.setCells blk off vs) := by
  obtain ⟨s1, s2, s3, s4, s5, s6⟩ := heap_setCells blk vs off w
  refine ⟨fun x hr => ⟨fun b hb hlt => ⟨s1 b ?_, hb⟩, fun b hb hlt => ⟨s1 b ?_, hb⟩, fun o _ => ⟨rfl, rfl⟩, fun o i _ => ⟨rfl, rfl⟩, fun b _ => rfl⟩,
    ⟨by omega, s3, s4, s5, fun b hb hn => ⟨s1 b (fun e => by rw [e, ht] at hn; cases hn), hn⟩, fun b _ hz => .inl hz⟩⟩
  · rintro rfl
    rcases hb with hz | ⟨q, hq, hqb⟩
    · rw [h.zt _ hz] at ht; cases ht
    · obtain ⟨r1, r2⟩ := hr q hq
      rcases hqb with hqb | ⟨i, hqb⟩ <;> rw [ht] at hqb <;> cases hqb
      · exact r1 rfl
      · exact r2 i rfl
  · rintro rfl
    rw [h.zt _ hb] at ht; cases ht

theorem storeBox_ok {γ : Gh} {b off : Nat} {x l : List AV} {t : TypeId} {q y : Value} (hR : Rel γ A a.tmps w) (hb : look b A.bx = some x) (hle : off + l.length ≤ x.length) (hq : q = .pointer (some ⟨γ.bb b, off, none⟩)) (hl : Cells γ w l y.cells.toList) (hlen : l.length = P.cellsOf t) (hne : P.cellsOf t ≠ 0) :
    ∃ w', (Instr.storeAt t q y).run P w = .ok () w' ∧ Rel γ { A with bx := put b (splice x off l) A.bx } a.tmps w' ∧ Hist γ w γ w' := by
  obtain ⟨cs, e, h1, h2, h3⟩ := hR.bx b x hb
  have hlc : l.length = y.cells.size := by have := hl.length; simpa using this
  have hxc : x.length = cs.length := h3.length
  have hrun := run_storeVar (P := P) (t := t) (off := off) (y := y) h1 (by omega) hne (by simp; omega) hl.one
  obtain ⟨L0, hH⟩ := Rel.setBlock (blk := γ.bb b) (off := off) (vs := y.cells.toList) hR (.bx b) h2
  have L : ∀ v : AV, Leans γ w γ (w.setCells (γ.bb b) off y.cells.toList) v := fun v => L0 v fun _ _ => ⟨(by simp), (by simp)⟩
  obtain ⟨s1, s2, s3, s4, s5, s6⟩ := heap_setCells (γ.bb b) y.cells.toList off w
  subst hq
  refine ⟨_, by simp [Instr.storeAt, Instr.sureAddr, hrun], ⟨fun s z hz => (hR.tm s z hz).mono fun v u hv hu => hu.move (L v), fun b' x' hb' => ?_, fun p l' hp => ?_, hR.zt, fun c hc => by rw [s2]; exact hR.lt c hc⟩, hH⟩
  · rw [look_put] at hb'
    split at hb'
    · rename_i eq
      cases hb'
      subst eq
      obtain ⟨cs', t1, t2, t3, t4⟩ := setCells_arr (w := w) (off := off) (vs := y.cells.toList) h1 (by simp; omega)
      have hcells : cs' = (splice cs off y.cells.toList).toArray := by
        apply Array.ext'
        apply List.ext_getElem?
        intro k
        simp only [Array.getElem?_toList]
        rw [splice_get (by simp; omega)]
        by_cases c1 : k < off
        · rw [if_pos c1, t3 k (.inl c1)]; simp
        · rw [if_neg c1]
          by_cases c2 : k < off + y.cells.toList.length
          · rw [if_pos c2]
            have hk : k - off < y.cells.toList.length := by omega
            have := t4 (k - off) _ (List.getElem?_eq_getElem hk)
            rw [show off + (k - off) = k by omega] at this
            rw [this, List.getElem?_eq_getElem hk]
          · rw [if_neg c2, t3 k (.inr (by omega))]; simp
      rw [hcells] at t1
      exact ⟨_, e, t1, h2, (splice_rep h3 hl hle).mono fun v u hv hu => hu.move (L v)⟩
    · rename_i hne'
      have hbx := hR.bx b' x' hb'
      refine hbx.move ⟨s1 _ ?_, rfl⟩ rfl fun v hv => L v
      obtain ⟨_, _, _, g2, _⟩ := hbx
      intro eq
      rw [eq, h2] at g2
      cases g2
      exact hne' rfl
  · exact (hR.ob p l' hp).move (fun c hc _ => ⟨s1 c (fun eq => by
      subst eq
      rcases hc with hc | ⟨i, hc⟩ <;> rw [h2] at hc <;> cases hc), rfl⟩) ⟨rfl, rfl⟩ fun _ => ⟨rfl, rfl⟩

/-- a plain cell is written into an element of an object -/
theorem storeAdr_plain {γ : Gh} {p i off : Nat} {b : Sl} {old : List C} {t : TypeId} {q y0 y : Value} {c : C} (hR : Rel γ A a.tmps w) (hb : look p A.ob = some b) (hi : b.d[i]? = some old) (hoff : off < old.length) (hq : AVrep γ w (.adr p i off) q) (hy : y.oneCell' = true) (hy1 : y0.cells.toList = [y]) (hlen : P.cellsOf t = 1)
    (hc : c = .v y) :
    ∃ w', (Instr.storeAt t q y0).run P w = .ok () w' ∧ Rel γ { A.map (killNest p i) with ob := put p ⟨b.sz, b.d.set i (old.set off c)⟩ A.ob } a.tmps w' ∧ Hist γ w γ w' := by
  subst hc
  have hob := hR.ob p b hb
  have hil : i < b.d.length := (List.getElem?_eq_some_iff.1 hi).1
  obtain ⟨d1, hbo⟩ := hob
  have hol : old.length = b.sz := d1 old (List.mem_of_getElem? hi)
  rcases hbo with ⟨_, e2⟩ | ⟨e1, e2, blk, of, cap, cs, e, e3, e4, e5, e6, e7, e8⟩
  · rw [e2] at hil; simp at hil
  obtain ⟨blk', of', len', cap', q1, q2⟩ := hq
  rw [e3] at q1
  obtain ⟨rfl, rfl⟩ : blk = blk' ∧ of = of' := by simp at q1; exact q1.1
  rw [e2] at q2
  have hy2 : y0.cells.size = 1 := by rw [← Array.length_toList, hy1]; rfl
  have hlt : i * b.sz + off < cap * b.sz := by
    have : (i + 1) * b.sz ≤ cap * b.sz := Nat.mul_le_mul_right _ (by omega)
    rw [Nat.add_mul] at this; omega
  have hrun := run_storeVar (P := P) (t := t) (off := of + i * b.sz + off) (y := y0) e6 (by omega) (by omega) (by omega) (by rw [hy1]; intro u hu; simp at hu; rw [hu]; exact hy)
  rw [hy1] at hrun
  have hm := hR.map (forgets_killIf fun a => a.reads.contains p || a.nests p i)
  obtain ⟨L0, hH⟩ := Rel.setBlock (blk := blk) (off := of + i * b.sz + off) (vs := [y]) hm (.ob p) e5
  have L : ∀ v ∈ (A.map (killNest p i)).avs, Leans γ w γ (w.setCells blk (of + i * b.sz + off) [y]) v := fun v hv => L0 v fun o ho => ⟨fun e => (killNest_spec hv).1 (by cases e; exact ho), by simp⟩
  obtain ⟨s1, s2, s3, s4, s5, s6⟩ := heap_setCells blk [y] (of + i * b.sz + off) w
  subst q2
  refine ⟨_, by simp [Instr.storeAt, Instr.sureAddr, hrun], ⟨fun s z hz => (hm.tm s z hz).mono fun v u hv hu => hu.move (L v (List.mem_append_left _ (List.mem_flatMap.2 ⟨_, mem_of_look hz, hv⟩))), fun b' x' hb' => ?_, fun o l' ho => ?_, hR.zt, fun c hc => by rw [s2]; exact hR.lt c hc⟩, hH⟩
  · have hbx := hm.bx b' x' hb'
    refine hbx.move ⟨s1 _ ?_, rfl⟩ rfl fun v hv => L v (List.mem_append_right _ (List.mem_flatMap.2 ⟨_, mem_of_look hb', hv⟩))
    obtain ⟨_, _, _, g2, _⟩ := hbx
    intro eq
    rw [eq, e5] at g2
    cases g2
  · simp only [look_put] at ho
    split at ho
    · rename_i eq
      cases ho
      subst eq
      refine ObAt.setElem (γ := γ) (w := w) (i := i) (old := old) ⟨d1, .inr ⟨e1, e2, blk, of, cap, cs, e, e3, e4, e5, e6, e7, e8⟩⟩ hi (by simp) ⟨rfl, rfl⟩ (fun _ _ => ⟨rfl, rfl⟩) (fun k _ x hx _ => ⟨s1 x (fun eq => by rw [eq, e5] at hx; cases hx), hx⟩) fun blk2 of2 cap2 cs2 e2' h0 h1 h2 h3 h4 h5 => ?_
      rw [e3] at h1
      obtain ⟨⟨rfl, rfl⟩, rfl⟩ : (blk = blk2 ∧ of = of2) ∧ cap = cap2 := by simp at h1; exact h1
      rw [e6] at h3
      obtain ⟨rfl, rfl⟩ : cs = cs2 ∧ e = e2' := by simp at h3; exact h3
      obtain ⟨cs', t1, t2, t3, t4⟩ := setCells_arr (w := w) (off := of + i * b.sz + off) (vs := [y]) e6 (by simp; omega)
      refine ⟨h2, cs', t1, t2, fun k hk => t3 k (by simp; omega), fun j x hj c hc u hu hx => ?_⟩
      rw [List.getElem?_set] at hj
      by_cases hjo : off = j
      · subst hjo
        rw [if_pos rfl, if_pos hoff] at hj
        cases hj
        have := t4 0 y rfl
        exact ⟨y, by simpa using this, rfl, hy⟩
      · rw [if_neg hjo] at hj
        rw [hj] at hc
        cases hc
        refine ⟨u, ?_, hx.re ⟨rfl, rfl⟩ fun z hz _ => ⟨s1 z (fun eq => by rw [eq, e5] at hz; cases hz), hz⟩⟩
        rw [t3 _ (by simp; omega)]
        exact hu
    · rename_i eq
      exact (hR.ob o l' ho).move (fun c hc _ => ⟨s1 c (fun eq' => by
        subst eq'
        exact eq (inOb_uniq hc (.inl e5))), rfl⟩) ⟨rfl, rfl⟩ fun _ => ⟨rfl, rfl⟩

/-- a whole element of an object is written -/
theorem storeAdr_row {γ : Gh} {p i : Nat} {b : Sl} {old : List C} {t : TypeId} {q y0 : Value} {vs : List Value} (hR : Rel γ A a.tmps w) (hb : look p A.ob = some b) (hi : b.d[i]? = some old) (hoff : vs.length = old.length) (hpos : vs ≠ []) (hq : AVrep γ w (.adr p i 0) q) (hy : ∀ y ∈ vs, y.oneCell' = true) (hy1 : y0.cells.toList = vs) (hlen : P.cellsOf t = vs.length) :
    ∃ w', (Instr.storeAt t q y0).run P w = .ok () w' ∧ Rel γ { A.map (killNest p i) with ob := put p ⟨b.sz, b.d.set i (vs.map .v)⟩ A.ob } a.tmps w' ∧ Hist γ w γ w' := by
  have hvp : 0 < vs.length := List.length_pos_iff.2 hpos
  have hob := hR.ob p b hb
  have hil : i < b.d.length := (List.getElem?_eq_some_iff.1 hi).1
  obtain ⟨d1, hbo⟩ := hob
  have hol : old.length = b.sz := d1 old (List.mem_of_getElem? hi)
  rcases hbo with ⟨_, e2⟩ | ⟨e1, e2, blk, of, cap, cs, e, e3, e4, e5, e6, e7, e8⟩
  · rw [e2] at hil; simp at hil
  obtain ⟨blk', of', len', cap', q1, q2⟩ := hq
  rw [e3] at q1
  obtain ⟨rfl, rfl⟩ : blk = blk' ∧ of = of' := by simp at q1; exact q1.1
  rw [e2] at q2
  have hy2 : y0.cells.size = vs.length := by rw [← Array.length_toList, hy1]
  have hlt : i * b.sz + vs.length ≤ cap * b.sz := by
    have : (i + 1) * b.sz ≤ cap * b.sz := Nat.mul_le_mul_right _ (by omega)
    rw [Nat.add_mul] at this; omega
  have hrun := run_storeVar (P := P) (t := t) (off := of + i * b.sz) (y := y0) e6 (by omega) (by omega) (by omega) (by rw [hy1]; exact hy)
  rw [hy1] at hrun
  have hm := hR.map (forgets_killIf fun a => a.reads.contains p || a.nests p i)
  obtain ⟨L0, hH⟩ := Rel.setBlock (blk := blk) (off := of + i * b.sz) (vs := vs) hm (.ob p) e5
  have L : ∀ v ∈ (A.map (killNest p i)).avs, Leans γ w γ (w.setCells blk (of + i * b.sz) vs) v := fun v hv => L0 v fun o ho => ⟨fun e => (killNest_spec hv).1 (by cases e; exact ho), by simp⟩
  obtain ⟨s1, s2, s3, s4, s5, s6⟩ := heap_setCells blk vs (of + i * b.sz) w
  simp only [Nat.add_zero] at q2
  subst q2
  refine ⟨_, by simp [Instr.storeAt, Instr.sureAddr, hrun], ⟨fun s z hz => (hm.tm s z hz).mono fun v u hv hu => hu.move (L v (List.mem_append_left _ (List.mem_flatMap.2 ⟨_, mem_of_look hz, hv⟩))), fun b' x' hb' => ?_, fun o l' ho => ?_, hR.zt, fun c hc => by rw [s2]; exact hR.lt c hc⟩, hH⟩
  · have hbx := hm.bx b' x' hb'
    refine hbx.move ⟨s1 _ ?_, rfl⟩ rfl fun v hv => L v (List.mem_append_right _ (List.mem_flatMap.2 ⟨_, mem_of_look hb', hv⟩))
    obtain ⟨_, _, _, g2, _⟩ := hbx
    intro eq
    rw [eq, e5] at g2
    cases g2
  · simp only [look_put] at ho
    split at ho
    · rename_i eq
      cases ho
      subst eq
      refine ObAt.setElem (γ := γ) (w := w) (i := i) (old := old) ⟨d1, .inr ⟨e1, e2, blk, of, cap, cs, e, e3, e4, e5, e6, e7, e8⟩⟩ hi (by simpa using hoff) ⟨rfl, rfl⟩ (fun _ _ => ⟨rfl, rfl⟩) (fun k _ x hx _ => ⟨s1 x (fun eq => by rw [eq, e5] at hx; cases hx), hx⟩) fun blk2 of2 cap2 cs2 e2' h0 h1 h2 h3 h4 h5 => ?_
      rw [e3] at h1
      obtain ⟨⟨rfl, rfl⟩, rfl⟩ : (blk = blk2 ∧ of = of2) ∧ cap = cap2 := by simp at h1; exact h1
      rw [e6] at h3
      obtain ⟨rfl, rfl⟩ : cs = cs2 ∧ e = e2' := by simp at h3; exact h3
      obtain ⟨cs', t1, t2, t3, t4⟩ := setCells_arr (w := w) (off := of + i * b.sz) (vs := vs) e6 (by omega)
      refine ⟨h2, cs', t1, t2, fun k hk => t3 k (by omega), fun j x hj c hc u hu hx => ?_⟩
      rw [List.getElem?_map, Option.map_eq_some_iff] at hj
      obtain ⟨v, hv, rfl⟩ := hj
      exact ⟨v, t4 j v hv, rfl, hy v (List.mem_of_getElem? hv)⟩
    · rename_i eq
      exact (hR.ob o l' ho).move (fun c hc _ => ⟨s1 c (fun eq' => by
        subst eq'
        exact eq (inOb_uniq hc (.inl e5))), rfl⟩) ⟨rfl, rfl⟩ fun _ => ⟨rfl, rfl⟩

/-- where element i of an object of slices lies -/
theorem adr_elem {γ : Gh} {p i : Nat} {b : Sl} {q : Value} (hR : Rel γ A a.tmps w) (hb : look p A.ob = some b) (hil : i < b.d.length) (h1 : b.sz = 1) (hq : AVrep γ w (.adr p i 0) q) :
    ∃ blk of cap cs e, q = .pointer (some ⟨blk, of + i, none⟩) ∧ γ.hd p = .slice (some ⟨blk, of, none⟩) b.d.length cap ∧ γ.tg blk = some (.ob p) ∧ w.heap[blk]? = some (.cells cs e (0, 0)) ∧ of + i + 1 ≤ cs.size := by
  obtain ⟨d1, hbo⟩ := hR.ob p b hb
  rcases hbo with ⟨_, e2⟩ | ⟨e1, e2, blk, of, cap, cs, e, e3, e4, e5, e6, e7, e8⟩
  · rw [e2] at hil; simp at hil
  · obtain ⟨blk', of', len', cap', q1, q2⟩ := hq
    rw [e3] at q1
    obtain ⟨rfl, rfl⟩ : blk = blk' ∧ of = of' := by simp at q1; exact q1.1
    rw [h1] at e7
    refine ⟨blk, of, cap, cs, e, by rw [q2, e2, h1]; simp, e3, e5, e6, by omega⟩

/-- A slice's header is written into an element of an object: γ' tells to whom the blocks belong then. -/
theorem Rel.setHeader {γ γ' : Gh} {tmps : Array Value} {A1 : St} {p i k : Nat} {b : Sl} {y : Value} {rows : List Row} {blk of cap : Nat} {cs : Array Value} {e : TypeId} (X : Nat → Prop) (h : Rel γ A1 tmps w) (hb : look p A1.ob = some b) (hil : i < b.d.length) (h1 : b.sz = 1)
    (q1 : γ.hd p = .slice (some ⟨blk, of, none⟩) b.d.length cap) (q2 : γ.tg blk = some (.ob p)) (q3 : w.heap[blk]? = some (.cells cs e (0, 0))) (q4 : of + i + 1 ≤ cs.size) (hy : y.oneCell' = true) (hpX : ¬ X p)
    (hX : ∀ a ∈ A1.avs, ∀ o, X o → o ∉ a.obs) (hXo : ∀ o, X o → look o A1.ob = none)
    (names : γ'.hd = γ.hd ∧ γ'.sz = γ.sz ∧ γ'.bb = γ.bb ∧ γ'.z = γ.z) (hnh : ∀ o j, ¬ (o = p ∧ j = i) → γ'.nh o j = γ.nh o j ∧ γ'.ns o j = γ.ns o j)
    (tg : ∀ c, (∀ o, X o → ¬ γ.inOb o c) → γ'.tg c = γ.tg c) (tgn : ∀ c, γ'.tg c ≠ none → γ.tg c ≠ none)
    (hne : ∀ w', (∀ c, c ≠ blk → w'.heap[c]? = w.heap[c]?) → y = γ'.nh p i ∧ NeAt γ' w' p i k rows) :
    Rel γ' { A1.map (killNest p i) with ob := put p ⟨b.sz, b.d.set i [.s k rows]⟩ A1.ob } tmps (w.setCells blk (of + i) [y]) ∧ Hist γ w γ' (w.setCells blk (of + i) [y]) := by
  obtain ⟨s1, s2, s3, s4, s5, s6⟩ := heap_setCells blk [y] (of + i) w
  have notX : ∀ c, γ.tg c = some (.ob p) → ∀ o, X o → ¬ γ.inOb o c := fun c hc o ho hi => hpX ((inOb_uniq hi (.inl hc)) ▸ ho)
  have hm := h.map (forgets_killIf fun a => a.reads.contains p || a.nests p i)
  have zfree : ∀ c, γ.tg c = none → ∀ o, X o → ¬ γ.inOb o c := fun c hc o _ hi => by
    rcases hi with hi | ⟨j, hi⟩ <;> rw [hc] at hi <;> cases hi
  have L : ∀ v ∈ (A1.map (killNest p i)).avs, Leans γ w γ' (w.setCells blk (of + i) [y]) v := fun v hv => by
    have hsp := killNest_spec hv
    have hvX : ∀ o, X o → o ∉ v.obs := fun o ho => map_obs (forgets_killIf _) (fun a ha => hX a ha o ho) v hv
    refine ⟨fun c hc hlt => ⟨s1 c ?_, ?_⟩, fun c hc hlt => ⟨s1 c ?_, by rw [names.2.2.2]; exact hc⟩, fun o _ => ⟨by rw [names.1], by rw [names.2.1]⟩, fun o j hj => hnh o j (fun ⟨e1, e2⟩ => by subst e1 e2; rw [hsp.2] at hj; cases hj), fun c _ => by rw [names.2.2.1]⟩
    · rintro rfl
      rcases hc with hz | ⟨o, ho, hoc⟩
      · rw [h.zt _ hz] at q2; cases q2
      · exact hsp.1 ((inOb_uniq hoc (.inl q2)) ▸ ho)
    · rcases hc with hz | ⟨o, ho, hoc⟩
      · exact .inl (by rw [names.2.2.2]; exact hz)
      · refine .inr ⟨o, ho, ?_⟩
        unfold Gh.inOb
        rw [tg c fun o' hX' hi => hvX o' hX' ((inOb_uniq hoc hi) ▸ reads_obs ho)]
        exact hoc
    · rintro rfl
      rw [h.zt _ hc] at q2; cases q2
  refine ⟨⟨fun s z hz => (hm.tm s z hz).mono fun v u hv hu => hu.move (L v (List.mem_append_left _ (List.mem_flatMap.2 ⟨_, mem_of_look hz, hv⟩))), fun b' x' hb' => ?_, fun o l' ho => ?_, fun c hc => ?_, fun c hc => ?_⟩,
    ⟨by omega, s3, s4, s5, fun c hc hn => ⟨s1 c (fun e => by rw [e, q2] at hn; cases hn), by rw [tg c (zfree c hn)]; exact hn⟩, fun c _ hz => .inl (by rw [← names.2.2.2]; exact hz)⟩⟩
  · have hbx := hm.bx b' x' hb'
    refine hbx.move ⟨s1 _ ?_, ?_⟩ (by rw [names.2.2.1]) fun v hv => L v (List.mem_append_right _ (List.mem_flatMap.2 ⟨_, mem_of_look hb', hv⟩))
    · obtain ⟨_, _, _, g2, _⟩ := hbx
      intro eq
      rw [eq, q2] at g2
      cases g2
    · obtain ⟨_, _, _, g2, _⟩ := hbx
      exact tg _ fun o _ hi => by rcases hi with hi | ⟨j, hi⟩ <;> rw [g2] at hi <;> cases hi
  · simp only [look_put] at ho
    split at ho
    · rename_i eq
      cases ho
      subst eq
      have hold : b.d[i]? = some b.d[i] := List.getElem?_eq_getElem hil
      have hob := h.ob o b hb
      have hrl : (b.d[i]).length = 1 := by rw [← h1]; exact hob.1 _ (List.getElem_mem hil)
      refine hob.setElem hold (by rw [hrl]; rfl) ⟨by rw [names.1], by rw [names.2.1]⟩ (fun j hj => hnh o j (fun e => hj e.2)) (fun j hj c hc _ => ⟨s1 c (fun e => by rw [e, q2] at hc; cases hc), ?_⟩) fun blk2 of2 cap2 cs2 e2' g0 g1 g2 g3 g4 g5 => ?_
      · rw [tg c fun o' hX' hi => hpX ((inOb_uniq hi (.inr ⟨j, hc⟩)) ▸ hX')]; exact hc
      · rw [q1] at g1
        obtain ⟨⟨rfl, rfl⟩, rfl⟩ : (blk = blk2 ∧ of = of2) ∧ cap = cap2 := by simp at g1; exact g1
        rw [q3] at g3
        obtain ⟨rfl, rfl⟩ : cs = cs2 ∧ e = e2' := by simp at g3; exact g3
        obtain ⟨cs', t1, t2, t3, t4⟩ := setCells_arr (w := w) (off := of + i) (vs := [y]) q3 (by simp; omega)
        refine ⟨by rw [tg _ (notX _ g2)]; exact g2, cs', t1, t2, fun k hk => t3 k (by rw [h1] at hk; simp; omega), fun j x hj c hc u hu hx => ?_⟩
        cases j with
        | succ j => simp at hj
        | zero =>
          simp at hj
          subst hj
          obtain ⟨r1, r2⟩ := hne (w.setCells blk (of + i) [y]) s1
          refine ⟨y, ?_, h1, r1, r2⟩
          have := t4 0 y rfl
          rw [h1]; simpa using this
    · rename_i eq
      have hoX : ¬ X o := fun hX' => by rw [hXo o hX'] at ho; cases ho
      exact (h.ob o l' ho).move (fun c hc _ => ⟨s1 c (fun eq' => by
        subst eq'
        exact eq (inOb_uniq hc (.inl q2))), tg c fun o' hX' hi => hoX ((inOb_uniq hi hc) ▸ hX')⟩) ⟨by rw [names.1], by rw [names.2.1]⟩ fun j => hnh o j (fun e => eq e.1)
  · rw [names.2.2.2] at hc
    rw [tg c (zfree c (h.zt c hc))]
    exact h.zt c hc
  · rw [s2]
    rcases hc with hc | hc
    · rw [names.2.2.2] at hc; exact h.lt c (.inl hc)
    · exact h.lt c (.inr (tgn c hc))
end
end Go.Tree
namespace Go.Tree
set_option linter.unusedVariables false
set_option linter.unusedSimpArgs false
set_option linter.constructorNameAsVariable false
section
variable {P : Program} {γ0 : Gh} {w0 : World} {n : Nat} {A : St} {a : Act} {w : World} {o : Oper}

def upd2 {α : Type} (f : Nat → Nat → α) (p i : Nat) (x : α) : Nat → Nat → α := fun q j => if q = p ∧ j = i then x else f q j
@[simp] theorem upd2_same {α : Type} (f : Nat → Nat → α) (p i : Nat) (x : α) : upd2 f p i x p i = x := by simp [upd2]
theorem upd2_ne {α : Type} (f : Nat → Nat → α) {p i q j : Nat} (x : α) (h : ¬ (q = p ∧ j = i)) : upd2 f p i x q j = f q j := by simp only [upd2]; rw [if_neg h]

theorem storeOne_run {t : TypeId} {blk off : Nat} {y0 y : Value} {cs : Array Value} {e : TypeId} (h : w.heap[blk]? = some (.cells cs e (0, 0))) (hlen : P.cellsOf t = 1) (hfit : off + 1 ≤ cs.size) (hy : y.oneCell' = true) (hy1 : y0.cells.toList = [y]) :
    (Instr.storeAt t (.pointer (some ⟨blk, off, none⟩)) y0).run P w = .ok () (w.setCells blk off [y]) := by
  have hy2 : y0.cells.size = 1 := by rw [← Array.length_toList, hy1]; rfl
  have hrun := run_storeVar (P := P) (t := t) (off := off) (y := y0) h (by omega) (by omega) (by omega) (by rw [hy1]; intro u hu; simp at hu; rw [hu]; exact hy)
  rw [hy1] at hrun
  simp [Instr.storeAt, Instr.sureAddr, hrun]

theorem storeNil_ok {γ : Gh} {p i k : Nat} {b : Sl} {t : TypeId} {q : Value} (hR : Rel γ A a.tmps w) (hb : look p A.ob = some b) (hil : i < b.d.length) (h1 : b.sz = 1) (hq : AVrep γ w (.adr p i 0) q) {y0 : Value} (hy1 : y0.cells.toList = [.slice none 0 0]) (hlen : P.cellsOf t = 1) :
    ∃ w' γ', (Instr.storeAt t q y0).run P w = .ok () w' ∧ Rel γ' { A.map (killNest p i) with ob := put p ⟨b.sz, b.d.set i [.s k []]⟩ A.ob } a.tmps w' ∧ Hist γ w γ' w' := by
  obtain ⟨blk, of, cap, cs, e, r1, r2, r3, r4, r5⟩ := adr_elem hR hb hil h1 hq
  subst r1
  obtain ⟨k1, k2⟩ := Rel.setHeader (γ' := { γ with nh := upd2 γ.nh p i (.slice none 0 0) }) (k := k) (rows := []) (y := .slice none 0 0) (fun _ => False) hR hb hil h1 r2 r3 r4 r5 rfl (fun h => h) (fun _ _ _ h => h.elim) (fun _ h => h.elim) ⟨rfl, rfl, rfl, rfl⟩
    (fun o j hj => ⟨upd2_ne _ _ hj, rfl⟩) (fun _ _ => rfl) (fun _ h => h) (fun w' _ => ⟨by simp, fun r hr => (by cases hr), .inl ⟨by simp, rfl⟩⟩)
  exact ⟨_, _, storeOne_run r4 hlen r5 rfl hy1, k1, k2⟩

theorem storeOwn_ok {γ : Gh} {p i q : Nat} {b bq : Sl} {rows : List Row} {t : TypeId} {ad y : Value} (hR : Rel γ A a.tmps w) (hb : look p A.ob = some b) (hbq : look q A.ob = some bq) (hqp : q ≠ p) (hlow : lower bq.d = some rows) (hil : i < b.d.length) (h1 : b.sz = 1) (hq : AVrep γ w (.adr p i 0) ad) (hy : AVrep γ w (.own q) y) {y0 : Value} (hy1 : y0.cells.toList = [y]) (hlen : P.cellsOf t = 1) :
    ∃ w' γ', (Instr.storeAt t ad y0).run P w = .ok () w' ∧ Rel γ' { (A.kill q).map (killNest p i) with ob := put p ⟨b.sz, b.d.set i [.s bq.sz rows]⟩ (A.kill q).ob } a.tmps w' ∧ Hist γ w γ' w' := by
  obtain ⟨blk, of, cap, cs, e, r1, r2, r3, r4, r5⟩ := adr_elem hR hb hil h1 hq
  subst r1
  let tg' : Nat → Option Tag := fun c => match γ.tg c with | some (.ob o) => if o = q then some (.ne p i) else some (.ob o) | t => t
  have tgs : ∀ c, (∀ o, o = q → ¬ γ.inOb o c) → tg' c = γ.tg c := fun c hc => by
    show (match γ.tg c with | some (.ob o) => if o = q then some (Tag.ne p i) else some (.ob o) | t => t) = _
    cases ht : γ.tg c with
    | none => rfl
    | some t => cases t with
      | bx _ => rfl
      | ne _ _ => rfl
      | ob o => dsimp only; rw [if_neg fun e => hc o e (.inl ht)]
  have tgn : ∀ c, tg' c ≠ none → γ.tg c ≠ none := fun c hc e => hc (by
    show (match γ.tg c with | some (.ob o) => if o = q then some (Tag.ne p i) else some (.ob o) | t => t) = _
    rw [e])
  have hobq := hR.ob q bq hbq
  have hb' : look p (A.kill q).ob = some b := by rw [kill_look_ne, if_neg (Ne.symm hqp)]; exact hb
  obtain ⟨k1, k2⟩ := Rel.setHeader (γ' := { γ with nh := upd2 γ.nh p i (γ.hd q), ns := upd2 γ.ns p i (γ.sz q), tg := tg' }) (k := bq.sz) (rows := rows) (y := y) (fun o => o = q) (hR.kill q) hb' hil h1 r2 r3 r4 r5 hy.2 (fun h => hqp h.symm)
    (fun a ha o ho => by subst ho; exact kill_obs ha) (fun o ho => by subst ho; exact kill_look) ⟨rfl, rfl, rfl, rfl⟩ (fun o j hj => ⟨upd2_ne _ _ hj, upd2_ne _ _ hj⟩) tgs tgn
    (fun w' hw => ⟨by rw [hy.1]; simp, hobq.toNe hlow ⟨by simp, by simp⟩ fun c hc hlt => ⟨hw c (fun e => by rw [e, r3] at hc; cases hc; exact hqp rfl), by
      show tg' c = _
      simp only [tg', hc, if_true]⟩⟩)
  exact ⟨_, _, storeOne_run r4 hlen r5 hy.2 hy1, k1, k2⟩

theorem storeSame_ok {γ : Gh} {p i k : Nat} {b : Sl} {rows : List Row} {t : TypeId} {ad y : Value} (hR : Rel γ A a.tmps w) (hb : look p A.ob = some b) (hi : b.d[i]? = some [.s k rows]) (hq : AVrep γ w (.adr p i 0) ad) (hy : AVrep γ w (.nest p i) y) {y0 : Value} (hy1 : y0.cells.toList = [y]) (hlen : P.cellsOf t = 1) :
    ∃ w', (Instr.storeAt t ad y0).run P w = .ok () w' ∧ Rel γ A a.tmps w' ∧ Hist γ w γ w' := by
  have hil : i < b.d.length := (List.getElem?_eq_some_iff.1 hi).1
  obtain ⟨d1, hbo⟩ := hR.ob p b hb
  rcases hbo with ⟨_, e2⟩ | ⟨e1, e2, blk, of, cap, cs, e, e3, e4, e5, e6, e7, e8⟩
  · rw [e2] at hil; simp at hil
  obtain ⟨u, hu, g1, g2, _⟩ := e8 i _ hi 0 _ rfl
  obtain ⟨blk', of', len', cap', q1, q2⟩ := hq
  rw [e3] at q1
  obtain ⟨rfl, rfl⟩ : blk = blk' ∧ of = of' := by simp at q1; exact q1.1
  rw [e2, g1] at q2
  rw [g1] at hu e7
  simp only [Nat.mul_one, Nat.add_zero] at hu q2 e7
  have hfit : of + i + 1 ≤ cs.size := by omega
  have hyu : u = y := by rw [g2, hy.1]
  obtain ⟨cs', t1, t2, t3, t4⟩ := setCells_arr (w := w) (off := of + i) (vs := [y]) e6 (by simp; omega)
  obtain ⟨s1, s2, s3, s4, s5, s6⟩ := heap_setCells blk [y] (of + i) w
  have hcs : cs' = cs := by
    apply Array.ext'
    apply List.ext_getElem?
    intro j
    simp only [Array.getElem?_toList]
    by_cases hj : j = of + i
    · subst hj
      have := t4 0 y rfl
      simp only [Nat.add_zero] at this
      rw [this, hu, hyu]
    · exact t3 j (by simp; omega)
  have same : ∀ c, (w.setCells blk (of + i) [y]).heap[c]? = w.heap[c]? := fun c => by
    by_cases hc : c = blk
    · subst hc; rw [t1, hcs, e6]
    · exact s1 c hc
  subst q2
  refine ⟨_, storeOne_run e6 hlen hfit hy.2 hy1, hR.move (fun v _ => ⟨fun c hc _ => ⟨same c, hc⟩, fun c hc _ => ⟨same c, hc⟩, fun _ _ => ⟨rfl, rfl⟩, fun _ _ _ => ⟨rfl, rfl⟩, fun _ _ => rfl⟩) (fun c l hl => ⟨same _, rfl, rfl⟩) (fun o l hl => ⟨fun c _ _ => ⟨same c, rfl⟩, ⟨rfl, rfl⟩, fun _ => ⟨rfl, rfl⟩⟩) hR.zt (fun c hc => by rw [s2]; exact hR.lt c hc),
    ⟨by omega, s3, s4, s5, fun c _ hn => ⟨same c, hn⟩, fun c _ hz => .inl hz⟩⟩

theorem storeAdn_ok {γ : Gh} {p i j off k : Nat} {b : Sl} {rows : List Row} {r : Row} {t : TypeId} {ad y : Value} (hR : Rel γ A a.tmps w) (hb : look p A.ob = some b) (hi : b.d[i]? = some [.s k rows]) (hj : rows[j]? = some r) (hoff : off < r.length) (hy : y.oneCell' = true)
    (hq : AVrep γ w (.adn p i j off) ad) {y0 : Value} (hy1 : y0.cells.toList = [y]) (hlen : P.cellsOf t = 1) :
    ∃ w', (Instr.storeAt t ad y0).run P w = .ok () w' ∧ Rel γ { A.stale p with ob := put p ⟨b.sz, b.d.set i [.s k (rows.set j (r.set off y))]⟩ A.ob } a.tmps w' ∧ Hist γ w γ w' := by
  have hob := hR.ob p b hb
  obtain ⟨d1, hbo⟩ := hob
  have hil : i < b.d.length := (List.getElem?_eq_some_iff.1 hi).1
  rcases hbo with ⟨_, e2⟩ | ⟨e1, e2, blk, of, cap, cs, e, e3, e4, e5, e6, e7, e8⟩
  · rw [e2] at hil; simp at hil
  obtain ⟨u0, hu0, g1, g2, g3, g4⟩ := e8 i _ hi 0 _ rfl
  have hjl : j < rows.length := (List.getElem?_eq_some_iff.1 hj).1
  rcases g4 with ⟨_, g5⟩ | ⟨g4, g5, blk2, of2, cap2, cs2, e2', g6, g7, g8, g9, g10, g11⟩
  · rw [g5] at hjl; simp at hjl
  obtain ⟨blk', of', len', cap', q1, q2⟩ := hq
  rw [g6] at q1
  obtain ⟨rfl, rfl⟩ : blk2 = blk' ∧ of2 = of' := by simp at q1; exact q1.1
  rw [g5] at q2
  have hrl : r.length = k := g3 r (List.mem_of_getElem? hj)
  have hlt : j * k + off < cap2 * k := by
    have : (j + 1) * k ≤ cap2 * k := Nat.mul_le_mul_right _ (by omega)
    rw [Nat.add_mul] at this; omega
  have hrun := storeOne_run (P := P) (w := w) (t := t) (off := of2 + j * k + off) (y := y) g9 hlen (by omega) hy hy1
  have hm := hR.stale p
  obtain ⟨L0, hH⟩ := Rel.setBlock (blk := blk2) (off := of2 + j * k + off) (vs := [y]) hm (.ne p i) g8
  have L : ∀ v ∈ (A.stale p).avs, Leans γ w γ (w.setCells blk2 (of2 + j * k + off) [y]) v := fun v hv => L0 v fun o ho => ⟨by simp, fun i' e => stale_reads hv (by cases e; exact ho)⟩
  obtain ⟨s1, s2, s3, s4, s5, s6⟩ := heap_setCells blk2 [y] (of2 + j * k + off) w
  subst q2
  refine ⟨_, hrun, ⟨fun s z hz => (hm.tm s z hz).mono fun v u hv hu => hu.move (L v (List.mem_append_left _ (List.mem_flatMap.2 ⟨_, mem_of_look hz, hv⟩))), fun b' x' hb' => ?_, fun o l' ho => ?_, hR.zt, fun c hc => by rw [s2]; exact hR.lt c hc⟩, hH⟩
  · have hbx := hm.bx b' x' hb'
    refine hbx.move ⟨s1 _ ?_, rfl⟩ rfl fun v hv => L v (List.mem_append_right _ (List.mem_flatMap.2 ⟨_, mem_of_look hb', hv⟩))
    obtain ⟨_, _, _, t2, _⟩ := hbx
    intro eq
    rw [eq, g8] at t2
    cases t2
  · simp only [look_put] at ho
    split at ho
    · rename_i eq
      cases ho
      subst eq
      refine ObAt.setElem (γ := γ) (w := w) (i := i) (old := [.s k rows]) ⟨d1, .inr ⟨e1, e2, blk, of, cap, cs, e, e3, e4, e5, e6, e7, e8⟩⟩ hi rfl ⟨rfl, rfl⟩ (fun _ _ => ⟨rfl, rfl⟩) (fun k' hk' x hx _ => ⟨s1 x (fun eq => by rw [eq, g8] at hx; cases hx; exact hk' rfl), hx⟩) fun blk3 of3 cap3 cs3 e3' f0 f1 f2 f3 f4 f5 => ?_
      refine ⟨f2, cs3, ?_, rfl, fun _ _ => rfl, fun j' x hj' c hc u hu hx => ?_⟩
      · rw [s1 blk3 (fun eq => by rw [eq, g8] at f2; cases f2)]; exact f3
      · cases j' with
        | succ j' => simp at hj'
        | zero =>
          simp at hj' hc
          subst hj'
          subst hc
          obtain ⟨c1, c2, c3⟩ := hx
          refine ⟨u, hu, c1, c2, fun r' hr' => ?_, .inr ⟨g4, g5, blk2, of2, cap2, ?_⟩⟩
          · rcases List.mem_or_eq_of_mem_set hr' with hr' | rfl
            · exact g3 r' hr'
            · simpa using hrl
          · obtain ⟨cs', t1, t2, t3, t4⟩ := setCells_arr (w := w) (off := of2 + j * k + off) (vs := [y]) g9 (by simp; omega)
            refine ⟨cs', e2', by simpa using g6, by simpa using g7, g8, t1, by omega, fun k' r' hk' jj x hx' => ?_⟩
            rw [List.getElem?_set] at hk'
            by_cases hjk : j = k'
            · subst hjk
              rw [if_pos rfl, if_pos hjl] at hk'
              cases hk'
              rw [List.getElem?_set] at hx'
              by_cases ho : off = jj
              · subst ho
                rw [if_pos rfl, if_pos hoff] at hx'
                cases hx'
                exact ⟨by simpa using t4 0 y rfl, hy⟩
              · rw [if_neg ho] at hx'
                obtain ⟨w1, w2⟩ := g11 j r hj jj x hx'
                exact ⟨by rw [t3 _ (by simp; omega)]; exact w1, w2⟩
            · rw [if_neg hjk] at hk'
              obtain ⟨w1, w2⟩ := g11 k' r' hk' jj x hx'
              have hrl' : r'.length = k := g3 r' (List.mem_of_getElem? hk')
              have hjj : jj < k := by rw [← hrl']; exact (List.getElem?_eq_some_iff.1 hx').1
              refine ⟨?_, w2⟩
              rw [t3]
              · exact w1
              · rcases Nat.lt_or_gt_of_ne hjk with hlt' | hlt'
                · right
                  have : (j + 1) * k ≤ k' * k := Nat.mul_le_mul_right _ hlt'
                  rw [Nat.add_mul] at this; simp; omega
                · left
                  have : (k' + 1) * k ≤ j * k := Nat.mul_le_mul_right _ hlt'
                  rw [Nat.add_mul] at this; omega
    · rename_i eq
      exact (hR.ob o l' ho).move (fun c hc _ => ⟨s1 c (fun eq' => by
        subst eq'
        exact eq (inOb_uniq hc (.inr ⟨i, g8⟩))), rfl⟩) ⟨rfl, rfl⟩ fun _ => ⟨rfl, rfl⟩

theorem cells_one {γ : Gh} {c : AV} {l : List Value} (h : Cells γ w [c] l) : ∃ u, l = [u] ∧ AVrep γ w c u ∧ u.oneCell' = true := by
  cases h with
  | cons r h' => cases h'; exact ⟨_, rfl, r.1, r.2⟩

/-- a store: all its kinds -/
theorem store_ok {t : TypeId} {p x : Operand} {v : AV} {l : List AV} {A' : St} (hop : o.op = .store t p x) (hv : A.ev p = .c v) (hl : parts (A.ev x) = some l) (hlen : l.length = P.cellsOf t) (hne : P.cellsOf t ≠ 0) (hs : A.store (elemSz P t) v l = some A')
    (hI : Inv γ0 w0 n A a w) (hd : ∀ t, o.dst = some t → t < n) : OpOk P γ0 w0 n o a w (A'.dst o.dst (.c .unk)) := by
  obtain ⟨γ, hR, hH⟩ := hI.ex
  have h1 := ev_c hR hv
  have h2 := parts_rep (hR.eval (d := a.defers) x) hl
  have h2 : Cells γ w l (a.eval x).cells.toList := h2
  have fin : (∃ w' γ', (Instr.storeAt t (a.eval p) (a.eval x)).run P w = .ok () w' ∧ Rel γ' A' a.tmps w' ∧ Hist γ w γ' w') → OpOk P γ0 w0 n o a w (A'.dst o.dst (.c .unk)) := by
    rintro ⟨w', γ', r1, r2, r3⟩
    refine ⟨.skip, w', undef, by simp [execOp, hop, r1], .inr ⟨rfl, rfl⟩, hI.finish hd ⟨γ', r2, hH.trans r3, trivial⟩⟩
  cases v with
  | box b off =>
    simp only [St.store] at hs
    split at hs
    · rename_i bl hb
      split at hs
      · rename_i hle
        cases hs
        obtain ⟨w', r1, r2, r3⟩ := storeBox_ok (P := P) (t := t) hR hb hle h1 h2 hlen hne
        exact fin ⟨w', γ, r1, r2, r3⟩
      · cases hs
    · cases hs
  | adr p' i off =>
    simp only [St.store] at hs
    split at hs
    · -- the same slice
      obtain ⟨u, hu, h3, h4⟩ := cells_one h2
      split at hs
      · rename_i hc
        obtain ⟨rfl, rfl, rfl⟩ := hc
        split at hs
        · rename_i b hb
          split at hs
          · rename_i k rows hi
            cases hs
            obtain ⟨w', r1, r2, r3⟩ := storeSame_ok (P := P) (t := t) hR hb hi h1 h3 hu (by simpa using hlen.symm)
            exact fin ⟨w', γ, r1, r2, r3⟩
          · cases hs
        · cases hs
      · cases hs
    · -- a plain cell
      obtain ⟨u, hu, h3, h4⟩ := cells_one h2
      have h3 : u = _ := h3
      subst h3
      split at hs
      · rename_i b hb
        split at hs
        · rename_i old hi
          split at hs
          · rename_i hc
            cases hs
            obtain ⟨w', r1, r2, r3⟩ := storeAdr_plain (P := P) (t := t) hR hb hi hc.1 h1 h4 hu (by simpa using hlen.symm) rfl
            exact fin ⟨w', γ, r1, r2, r3⟩
          · cases hs
        · cases hs
      · cases hs
    · -- nil
      obtain ⟨u, hu, h3, h4⟩ := cells_one h2
      have h3 : u = _ := h3
      subst h3
      split at hs
      · rename_i b hb
        split at hs
        · rename_i hc
          obtain ⟨c1, c2, rfl⟩ := hc
          cases hs
          obtain ⟨w', γ', r1, r2, r3⟩ := storeNil_ok (P := P) (t := t) (k := elemSz P t) hR hb c2 c1 h1 hu (by simpa using hlen.symm)
          exact fin ⟨w', γ', r1, r2, r3⟩
        · cases hs
      · cases hs
    · -- a slice that moves in
      obtain ⟨u, hu, h3, h4⟩ := cells_one h2
      split at hs
      · cases hs
      · rename_i hqp
        split at hs
        · rename_i bq b hbq hb
          split at hs
          · rename_i rows hlow
            split at hs
            · rename_i hc
              obtain ⟨c1, c2, rfl⟩ := hc
              cases hs
              obtain ⟨w', γ', r1, r2, r3⟩ := storeOwn_ok (P := P) (t := t) hR hb hbq hqp hlow c2 c1 h1 h3 hu (by simpa using hlen.symm)
              exact fin ⟨w', γ', r1, r2, r3⟩
            · cases hs
          · cases hs
        · cases hs
    · -- a whole element
      split at hs
      · rename_i vs b hvs hb
        have hvals : ∀ {l : List AV} {vs : List Value} {us : List Value}, vVals l = some vs → Cells γ w l us → us = vs ∧ ∀ y ∈ vs, y.oneCell' = true := fun {l} => by
          induction l with
          | nil => intro vs us h1 h2; simp only [vVals] at h1; cases h1; cases h2; exact ⟨rfl, by simp⟩
          | cons a l ih =>
            intro vs us h1 h2
            cases a with
            | v x =>
              simp only [vVals] at h1
              split at h1
              · simp only [Option.map_eq_some_iff] at h1
                obtain ⟨vs', h3, rfl⟩ := h1
                cases h2 with
                | cons r h2 =>
                  obtain ⟨e1, e2⟩ := ih h3 h2
                  have : _ = x := r.1
                  subst this
                  refine ⟨by rw [e1], fun y hy => ?_⟩
                  rcases List.mem_cons.1 hy with rfl | hy
                  · exact r.2
                  · exact e2 y hy
              · cases h1
            | _ => simp [vVals] at h1
        obtain ⟨e1, e2⟩ := hvals hvs h2
        split at hs
        · rename_i old hi
          split at hs
          · rename_i hc
            obtain ⟨rfl, c2, c3⟩ := hc
            cases hs
            obtain ⟨w', r1, r2, r3⟩ := storeAdr_row (P := P) (t := t) hR hb hi c2 c3 h1 e2 e1 (by rw [← hlen, ← e1]; exact h2.length)
            exact fin ⟨w', γ, r1, r2, r3⟩
          · cases hs
        · cases hs
      · cases hs
  | adn p' i j off =>
    simp only [St.store] at hs
    split at hs
    · obtain ⟨u, hu, h3, h4⟩ := cells_one h2
      have h3 : u = _ := h3
      subst h3
      split at hs
      · rename_i b hb
        split at hs
        · rename_i k rows hi
          split at hs
          · rename_i r hj
            split at hs
            · rename_i hc
              cases hs
              obtain ⟨w', r1, r2, r3⟩ := storeAdn_ok (P := P) (t := t) hR hb hi hj hc.1 h4 h1 hu (by simpa using hlen.symm)
              exact fin ⟨w', γ, r1, r2, r3⟩
            · cases hs
          · cases hs
        · cases hs
      · cases hs
    · cases hs
  | _ => simp [St.store] at hs
end
end Go.Tree
namespace Go.Tree
set_option linter.unusedVariables false
set_option linter.unusedSimpArgs false
set_option linter.constructorNameAsVariable false
section
variable {P : Program} {γ0 : Gh} {w0 : World} {n : Nat} {A : St} {a : Act} {w : World} {o : Oper}

theorem foldl_set : ∀ (vs : List Value) (k off : Nat) (cells : Array Value), off + k + vs.length ≤ cells.size →
    ((vs.zipIdx k).foldl (fun (cs : Array Value) (p : Value × Nat) => cs.setIfInBounds (off + p.2) p.1) cells).toList = splice cells.toList (off + k) vs
  | [], k, off, cells, h => by simp [splice]
  | v :: vs, k, off, cells, h => by
    simp only [List.zipIdx_cons, List.foldl_cons]
    have hl : off + k + (vs.length + 1) ≤ cells.size := h
    rw [foldl_set vs (k + 1) off _ (by simp; omega)]
    apply List.ext_getElem?
    intro j
    rw [splice_get (by simp; omega), splice_get (by simp; omega)]
    simp only [Array.toList_setIfInBounds, List.getElem?_set]
    by_cases h1 : j < off + k
    · rw [if_pos (by omega), if_pos h1, if_neg (by omega)]
    · rw [if_neg h1]
      by_cases h2 : j = off + k
      · subst h2
        rw [if_pos (by omega), if_pos rfl, if_pos (by rw [Array.length_toList]; omega), if_pos (by rw [List.length_cons]; omega)]
        simp
      · rw [if_neg (by omega)]
        by_cases h3 : j < off + (k + 1) + vs.length
        · rw [if_pos h3, if_pos (by rw [List.length_cons]; omega)]
          rw [show j - (off + k) = (j - (off + (k + 1))) + 1 by omega]
          simp
        · rw [if_neg h3, if_neg (by omega), if_neg (by rw [List.length_cons]; omega)]
theorem fill_step {place : Nat → Option (Nat × Nat)} {cells : Array Value} {i off size : Nat} {v : Value} {rest : List (Nat × Value)} (hp : place i = some (off, size)) (hs : v.cells.size = size) (hle : off + v.cells.size ≤ cells.size) :
    ∃ cells' : Array Value, Instr.fill place cells ((i, v) :: rest) = Instr.fill place cells' rest ∧ cells'.toList = splice cells.toList off v.cells.toList := by
  have e : (v.cells.zipIdx.foldl (fun (cs : Array Value) (p : Value × Nat) => cs.setIfInBounds (off + p.2) p.1) cells).toList = splice cells.toList off v.cells.toList := by
    rw [← Array.foldl_toList, Array.toList_zipIdx]
    exact foldl_set _ 0 off cells (by simp; omega)
  refine ⟨_, ?_, e⟩
  simp only [Instr.fill, hp]
  rw [if_neg (by simp; omega)]

theorem partsL_rep {γ : Gh} (hR : Rel γ A a.tmps w) : ∀ {ps : List (Nat × Operand)} {l : List (List AV)}, partsL (ps.map fun p => A.ev p.2) = some l → F2 (fun ll v => Cells γ w ll v.cells.toList) l (ps.map fun p => a.eval p.2)
  | [], l, h => by simp [partsL] at h; subst h; exact .nil
  | p :: ps, l, h => by
    simp only [List.map_cons, partsL] at h
    split at h
    · rename_i x r h1 h2
      cases h
      exact .cons (parts_rep (hR.eval (d := a.defers) p.2) h1) (partsL_rep hR h2)
    · cases h

theorem fill_rep {γ : Gh} {pl : List (Nat × Nat)} : ∀ {idx : List Nat} {ls : List (List AV)} {vs : List Value} {l l' : List AV} {cs : Array Value}, fillAV (pl[·]?) l (idx.zip ls) = some l' → Cells γ w l cs.toList → F2 (fun ll v => Cells γ w ll v.cells.toList) ls vs →
    ∃ cs' : Array Value, Instr.fill (fun i => pl[i]?) cs (idx.zip vs) = some cs' ∧ Cells γ w l' cs'.toList
  | [], ls, vs, l, l', cs, h, hc, hv => by simp [fillAV] at h; subst h; exact ⟨cs, by simp [Instr.fill], hc⟩
  | i :: idx, [], vs, l, l', cs, h, hc, hv => by cases hv; simp [fillAV] at h; subst h; exact ⟨cs, by simp [Instr.fill], hc⟩
  | i :: idx, x :: ls, vs, l, l', cs, h, hc, hv => by
    cases hv with
    | cons r hv =>
      rename_i v vs
      simp only [List.zip_cons_cons, fillAV] at h
      split at h
      · cases h
      · rename_i off size hp
        split at h
        · rename_i hcond
          have e1 : x.length = v.cells.size := by have := r.length; simpa using this
          have e2 : l.length = cs.size := by have := hc.length; simpa using this
          obtain ⟨cells', k1, k2⟩ := fill_step (rest := idx.zip vs) (cells := cs) (v := v) (place := fun i => pl[i]?) hp (by omega) (by omega)
          obtain ⟨cs', k3, k4⟩ := fill_rep (cs := cells') h (by rw [k2]; exact splice_rep hc r hcond.2) hv
          exact ⟨cs', by rw [List.zip_cons_cons, k1, k3], k4⟩
        · cases h

theorem build_ok {t : TypeId} {ps : Array (Nat × Operand)} {pl : List (Nat × Nat)} {z : List Value} {l : List (List AV)} {cs : List AV} (hop : o.op = .build t ps) (hp : placesOf P t = some pl) (hz : zeroCells P t = some z)
    (hl : partsL (ps.toList.map fun p => A.ev p.2) = some l) (hf : fillAV (pl[·]?) (z.map cellAV) ((ps.toList.map (·.1)).zip l) = some cs) (hI : Inv γ0 w0 n A a w) (hd : ∀ t, o.dst = some t → t < n) :
    OpOk P γ0 w0 n o a w (A.dst o.dst (.agg cs)) := by
  obtain ⟨γ, hR, hH⟩ := hI.ex
  obtain ⟨i, v, h1, h2, h3, h4⟩ := zero_info hz
  obtain ⟨cs', k1, k2⟩ := fill_rep (cs := v.cells) hf (by rw [h3]; exact cells_vals z h4) (partsL_rep hR hl)
  unfold placesOf at hp
  split at hp
  · rename_i fs hu
    have hb : P.built t (ps.toList.map fun (i, x) => (i, a.eval x)) = some cs' := by
      unfold Program.built
      rw [h1, hu]
      simp only [h2, hp]
      have e : (ps.toList.map fun p : Nat × Operand => (p.1, a.eval p.2)) = (ps.toList.map (·.1)).zip (ps.toList.map fun p => a.eval p.2) := by
        induction ps.toList with
        | nil => rfl
        | cons x l ih => simp [ih]
      have e2 : (ps.toList.map fun (x : Nat × Operand) => match x with | (i, x) => (i, a.eval x)) = ps.toList.map fun p : Nat × Operand => (p.1, a.eval p.2) := by
        apply List.map_congr_left; intro p _; rfl
      rw [e2, e]
      simpa using k1
    refine OpOk.val hI hd (v := .agg cs') ?_ ⟨γ, hR, hH, cs'.toList, by simp, k2⟩
    have hrun := run_build (P := P) w t (ps.map fun (i, x) => (i, a.eval x)) cs' (by simpa using hb)
    simp [execOp, hop, hrun]
  · cases hp

theorem rowBytes_eq : ∀ {l : List (List C)} {bs : List UInt8}, rowBytes l = some bs → ∃ ns : List Int, l = ns.map (fun k => [.v (.int .u8 k)]) ∧ bs = ns.map fun k => UInt8.ofNat k.toNat
  | [], bs, h => by simp [rowBytes] at h; exact ⟨[], rfl, by simp [h]⟩
  | x :: l, bs, h => by
    unfold rowBytes at h
    split at h
    · simp at *
    · rename_i k l' heq
      cases heq
      simp only [Option.map_eq_some_iff] at h
      obtain ⟨bs', h, rfl⟩ := h
      obtain ⟨ns, e1, e2⟩ := rowBytes_eq h
      exact ⟨k :: ns, by simp [e1], by simp [e2]⟩
    · cases h

theorem bytes_ok {e d elt : TypeId} {x : Operand} {v : AV} {l : Sl} {bs : List UInt8} (hop : o.op = .convert e d x) (hx : A.ev x = .c v) (hl : A.data v = some l) (hu : P.underlying e = some (.slice elt)) (hd' : P.underlying d = some .string) (hel : P.underlying elt = some (.int .u8)) (hb : rowBytes l.d = some bs)
    (hI : Inv γ0 w0 n A a w) (hd : ∀ t, o.dst = some t → t < n) : OpOk P γ0 w0 n o a w (A.dst o.dst (.c (.v (.string ⟨bs.toArray⟩)))) := by
  obtain ⟨γ, hR, hH⟩ := hI.ex
  obtain ⟨ns, e1, e2⟩ := rowBytes_eq hb
  have hdata := data_rep hR (ev_c hR hx) hl
  have push : ∀ (ns : List Int) (s : ByteArray), ns.foldl (fun r k => r.push (UInt8.ofNat k.toNat)) s = ⟨s.data ++ (ns.map fun k => UInt8.ofNat k.toNat).toArray⟩ := by
    intro ns
    induction ns with
    | nil => intro s; simp
    | cons k ns ih =>
      intro s
      rw [List.foldl_cons, ih]
      congr 1
      simp [ByteArray.push]
  have hrun : ∀ y, a.eval x = y → (convert e d y).run P w = .ok (.string ⟨bs.toArray⟩) w → (execOp a.eval o).run P w = .ok (.value (.string ⟨bs.toArray⟩)) w := fun y hy h => by simp [execOp, hop, hy, h]
  refine OpOk.val hI hd (v := .string ⟨bs.toArray⟩) ?_ ⟨γ, hR, hH, rfl⟩
  by_cases hne : l.d = []
  · obtain ⟨_, b, cap, h2, _⟩ := hdata
    rw [hne] at h2
    have hns : ns = [] := by
      rw [hne] at e1
      cases ns with
      | nil => rfl
      | cons k ns => cases e1
    have hbs : bs = [] := by rw [e2, hns]; rfl
    subst hbs
    refine hrun _ h2 ?_
    cases b with
    | none => simp [convert, run_underlying hu, run_underlying hd', run_underlying hel, Conv.bytesToString]; rfl
    | some b =>
      have h0 : (loadCells b 0).run P w = .ok (([] : List Int).map (Value.int .u8)).toArray w := run_loadCells_list (P := P) w b [] (fun j v h => by simp at h)
      have := run_bytesToString (P := P) w b 0 cap [] h0
      simp [convert, run_underlying hu, run_underlying hd', run_underlying hel, this]
      rfl
  · obtain ⟨blk, off, cap, us, h2, h3, h4, h5, h6, h7, h8⟩ := hdata.cells hne
    have hsz : l.sz = 1 := by
      have : [C.v (.int .u8 (ns.headD 0))] ∈ l.d := by
        rw [e1] at hne ⊢
        cases ns with
        | nil => simp at hne
        | cons k ns => simp
      have := hdata.1 _ this
      simpa using this.symm
    have hus : us = ns.map (Value.int .u8) := by
      apply List.ext_getElem?
      intro k
      by_cases hk : k < us.length
      · rw [h4, hsz, Nat.mul_one, e1, List.length_map] at hk
        have hr : l.d[k]? = some [.v (.int .u8 ns[k])] := by rw [e1]; simp [List.getElem?_eq_getElem hk]
        obtain ⟨u, hu', hx'⟩ := h7 k _ hr 0 _ rfl
        rw [hsz, Nat.mul_one, Nat.add_zero] at hu'
        rw [hu', show u = _ from hx'.1]
        simp [List.getElem?_eq_getElem hk]
      · have hl1 : us.length = ns.length := by rw [h4, hsz, Nat.mul_one, e1, List.length_map]
        rw [List.getElem?_eq_none (by omega), List.getElem?_eq_none (by simp; omega)]
    have hload := run_loadCells_list (P := P) w ⟨blk, off, none⟩ us (fun j u hj => by rw [addr_add]; exact h6 j u hj)
    have hlen : us.length = l.d.length := by rw [h4, hsz, Nat.mul_one]
    rw [hlen, hus] at hload
    have := run_bytesToString (P := P) w ⟨blk, off, none⟩ l.d.length cap ns hload
    refine hrun _ h2 ?_
    simp [convert, run_underlying hu, run_underlying hd', run_underlying hel, this, push, e2]
end
end Go.Tree
