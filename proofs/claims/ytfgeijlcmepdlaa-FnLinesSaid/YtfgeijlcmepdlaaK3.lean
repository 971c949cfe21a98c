/- Part 3 of the tree calculus: symbolic execution of the model's code over typed lists, proved sound. No condition. -/
import Derived.Test.YtfgeijlcmepdlaaK2
import Derived.Test.YtfgeijlcmepdlaaK1
namespace Go.Tree
set_option linter.unusedVariables false
set_option linter.unusedSimpArgs false
set_option linter.constructorNameAsVariable false
section
variable {P : Program} {γ0 : Gh} {w0 : World} {n : Nat} {A : St} {a : Act} {w : World} {o : Oper}

theorem fill_range {size : Nat} : ∀ (vs : List Value) (k : Nat) (cells : Array Value), (∀ v ∈ vs, v.cells.size = size) → (k + vs.length) * size ≤ cells.size →
    ∃ cells' : Array Value, Instr.fill (fun i => some (i * size, size)) cells ((List.range' k vs.length).zip vs) = some cells' ∧ cells'.size = cells.size ∧ (∀ x, x < k * size → cells'[x]? = cells[x]?) ∧
      ∀ (i : Nat) v, vs[i]? = some v → ∀ (j : Nat) u, v.cells.toList[j]? = some u → cells'[(k + i) * size + j]? = some u
  | [], k, cells, h1, h2 => ⟨cells, by simp [Instr.fill], rfl, fun _ _ => rfl, fun i v h => by simp at h⟩
  | v :: vs, k, cells, h1, h2 => by
    have hv : v.cells.size = size := h1 v (by simp)
    have hle : k * size + size ≤ cells.size := by
      have : (k + 1) * size ≤ (k + (v :: vs).length) * size := Nat.mul_le_mul_right _ (by simp)
      rw [Nat.add_mul] at this; omega
    obtain ⟨c1, k1, k2⟩ := fill_step (place := fun i => some (i * size, size)) (cells := cells) (i := k) (v := v) (rest := (List.range' (k + 1) vs.length).zip vs) rfl hv (by omega)
    have hs1 : c1.size = cells.size := by
      have := congrArg List.length k2
      simp only [Array.length_toList, splice, List.length_append, List.length_take, List.length_drop] at this
      omega
    obtain ⟨c2, k3, k4, k5, k6⟩ := fill_range vs (k + 1) c1 (fun u hu => h1 u (by simp [hu])) (by rw [hs1]; simp at h2; rw [show k + 1 + vs.length = k + (vs.length + 1) by omega]; exact h2)
    have hget : ∀ x, c1[x]? = if x < k * size then cells[x]? else if x < k * size + size then v.cells.toList[x - k * size]? else cells[x]? := fun x => by
      have := congrArg (·[x]?) k2
      simp only [Array.getElem?_toList] at this
      rw [this, splice_get (by simp; omega)]
      simp [hv]
    refine ⟨c2, ?_, by omega, fun x hx => ?_, fun i u hi j y hj => ?_⟩
    · rw [List.length_cons, List.range'_succ, List.zip_cons_cons, k1]; exact k3
    · rw [k5 x (by rw [Nat.add_mul]; omega), hget, if_pos hx]
    · cases i with
      | zero =>
        simp at hi
        subst hi
        have hjl : j < size := by rw [← hv]; have := (List.getElem?_eq_some_iff.1 hj).1; simpa using this
        rw [Nat.add_zero, k5 _ (by rw [Nat.add_mul]; omega), hget, if_neg (by omega), if_pos (by omega), Nat.add_sub_cancel_left]
        exact hj
      | succ i =>
        simp at hi
        have := k6 i u hi j y hj
        rwa [show k + 1 + i = k + (i + 1) by omega] at this

/-- the block of a slice that is written out -/
theorem buildSlice_run {γ : Gh} {t : TypeId} {m : Nat} {ps : Array (Nat × Operand)} {l : List (List AV)} (hop : o.op = .buildSlice t m ps) (hidx : ps.toList.map (·.1) = List.range m) (hsm : m * elemSz P t ≤ 16777216) (hT : goodT P t = true)
    (hR : Rel γ A a.tmps w) (hl : partsL (ps.toList.map fun p => A.ev p.2) = some l) (hlen : l.all (fun r => r.length == elemSz P t) = true) :
    ∃ cs : Array Value, (execOp a.eval o).run P w = .ok (.value (.slice (some ⟨w.heap.size, 0, none⟩) m m)) (w.alloc (.cells cs (elemT P t))) ∧ cs.size = m * elemSz P t ∧ l.length = m ∧
      ∀ (i : Nat) ll, l[i]? = some ll → ∃ us, us.length = elemSz P t ∧ Cells γ w ll us ∧ ∀ (j : Nat) u, us[j]? = some u → cs[i * elemSz P t + j]? = some u := by
  obtain ⟨hu, ti, z, g1, g2, g3, g4, g5⟩ := goodT_elim hT
  have hv := partsL_rep hR hl
  have hll : l.length = m := by rw [hv.length]; have := congrArg List.length hidx; simpa using this
  have hvs : ∀ v ∈ ps.toList.map (fun p => a.eval p.2), v.cells.size = elemSz P t := fun v hv' => by
    obtain ⟨i, hi⟩ := List.getElem?_of_mem hv'
    have hil : i < l.length := by rw [hv.length]; exact (List.getElem?_eq_some_iff.1 hi).1
    obtain ⟨v', h1, h2⟩ := hv.get (List.getElem?_eq_getElem hil)
    rw [hi] at h1; cases h1
    have := h2.length
    have e := List.all_eq_true.1 hlen _ (List.getElem_mem hil)
    simp at e this
    omega
  have hvl : (ps.toList.map fun p => a.eval p.2).length = m := by rw [← hv.length]; exact hll
  obtain ⟨cs, k1, k2, k3, k4⟩ := fill_range (size := elemSz P t) (ps.toList.map fun p => a.eval p.2) 0 ((Array.range (m * elemSz P t)).map (z.cells[· % z.cells.size]!)) hvs (by rw [hvl]; simp)
  rw [hvl, ← List.range_eq_range', ← hidx] at k1
  have e : (ps.toList.map fun p : Nat × Operand => (p.1, a.eval p.2)) = (ps.toList.map (·.1)).zip (ps.toList.map fun p => a.eval p.2) := by
    induction ps.toList with
    | nil => rfl
    | cons x l ih => simp [ih]
  have e2 : (ps.map fun (i, x) => (i, a.eval x)).toList = (ps.toList.map (·.1)).zip (ps.toList.map fun p => a.eval p.2) := by
    rw [← e, Array.toList_map]
  refine ⟨cs, ?_, by rw [k2]; simp, hll, fun i ll hi => ?_⟩
  · have hrun : (Instr.buildSlice t m (ps.map fun (i, x) => (i, a.eval x))).run P w = .ok (.slice (some ⟨w.heap.size, 0, none⟩) m m) (w.alloc (.cells cs (elemT P t))) := by
      by_cases h0 : m * elemSz P t = 0
      · have hm0 : m = 0 := by
          rcases Nat.mul_eq_zero.1 h0 with e | e
          · exact e
          · omega
        have h0' : m * ti.size = 0 := by rw [g5]; exact h0
        rw [hm0] at k1
        have er : ∀ f : Nat → Value, (Array.range 0).map f = #[] := fun _ => by simp
        simp only [Nat.zero_mul, er] at k1
        subst hm0
        have k1' : Instr.fill (fun i => some (i * ti.size, ti.size)) #[] (ps.map fun (x : Nat × Operand) => (x.1, a.eval x.2)).toList = some cs := by rw [g5, e2]; exact k1
        simp only [Instr.buildSlice, Sem.run_bind, run_underlying hu, Result.andThen_ok, sizeOf, typeInfo, run_program, g1, Sem.run_pure, Nat.zero_mul]
        rw [if_neg (by omega), if_pos trivial]
        simp only [Sem.run_bind, Sem.run_pure, Result.andThen_ok, er, k1']
        simp [newRow]
      · have h0' : ¬ (m * ti.size = 0) := by rw [g5]; exact h0
        have hb : ¬ (m * ti.size > 2 ^ 24) := by rw [g5]; have : (2 : Nat) ^ 24 = 16777216 := by decide
                                                 omega
        have k1' : Instr.fill (fun i => some (i * ti.size, ti.size)) ((Array.range (m * ti.size)).map fun x => z.cells[x % z.cells.size]!) (ps.map fun (x : Nat × Operand) => (x.1, a.eval x.2)).toList = some cs := by rw [g5, e2]; exact k1
        simp only [Instr.buildSlice, Sem.run_bind, run_underlying hu, Result.andThen_ok, sizeOf, typeInfo, run_program, g1, Sem.run_pure]
        rw [if_neg hb, if_neg h0']
        simp only [Sem.run_bind, zeroValue, typeInfo, run_program, Result.andThen_ok, g1, Sem.run_pure, g2, k1']
        simp [newRow]
    simp [execOp, hop, hrun]
  · obtain ⟨v, h1, h2⟩ := hv.get hi
    refine ⟨v.cells.toList, ?_, h2, fun j u hj => ?_⟩
    · have := hvs v (List.mem_of_getElem? h1); simpa using this
    · have := k4 i v h1 j u hj
      simpa using this

theorem plainRow_rep {γ : Gh} {k sz : Nat} {l : List AV} {us : List Value} {row : List C} (h : plainRow k sz l = some row) (hc : Cells γ w l us) :
    row.length = l.length ∧ ∀ (j : Nat) x, row[j]? = some x → ∃ u, us[j]? = some u ∧ ((∃ y, x = .v y ∧ u = y ∧ y.oneCell' = true) ∨ (∃ n, x = .s n [] ∧ sz = 1 ∧ u = .slice none 0 0) ∨ x = .x ∧ u.oneCell' = true) := by
  unfold plainRow at h
  split at h
  · split at h
    · rename_i h1
      cases h
      obtain ⟨u, rfl, e1, e2⟩ := cells_one hc
      have e1 : u = _ := e1
      subst e1
      refine ⟨rfl, fun j x hj => ?_⟩
      cases j with
      | zero => simp at hj; subst hj; exact ⟨_, rfl, .inr (.inl ⟨k, rfl, h1, rfl⟩)⟩
      | succ j => simp at hj
    · cases h
  · split at h
    · rename_i vs hvs
      split at h
      · rename_i hall
        cases h
        have e := avVals_rep hc hvs
        subst e
        refine ⟨by have := hc.length; simp [this], fun j x hj => ?_⟩
        simp only [List.getElem?_map, Option.map_eq_some_iff] at hj
        obtain ⟨y, hj, rfl⟩ := hj
        exact ⟨y, hj, .inl ⟨y, rfl, rfl, single_one (List.all_eq_true.1 hall y (List.mem_of_getElem? hj))⟩⟩
      · cases h
    · cases h
theorem plainRows_get {k sz : Nat} : ∀ {l : List (List AV)} {cs : List (List C)}, plainRows k sz l = some cs → cs.length = l.length ∧ ∀ (i : Nat) row, cs[i]? = some row → ∃ ll, l[i]? = some ll ∧ plainRow k sz ll = some row
  | [], cs, h => by simp [plainRows] at h; subst h; simp
  | x :: l, cs, h => by
    simp only [plainRows] at h
    split at h
    · rename_i a b h1 h2
      cases h
      obtain ⟨e1, e2⟩ := plainRows_get h2
      refine ⟨by simp [e1], fun i row hi => ?_⟩
      cases i with
      | zero => simp at hi; subst hi; exact ⟨x, rfl, h1⟩
      | succ i => simp at hi; simpa using e2 i row hi
    · cases h

theorem buildPlain_ok {t : TypeId} {m k : Nat} {ps : Array (Nat × Operand)} {l : List (List AV)} {cs : List (List C)} (hop : o.op = .buildSlice t m ps) (hidx : ps.toList.map (·.1) = List.range m) (hsm : m * elemSz P t ≤ 16777216) (hT : goodT P t = true)
    (hl : partsL (ps.toList.map fun p => A.ev p.2) = some l) (hlen : l.all (fun r => r.length == elemSz P t) = true) (hcs : plainRows (elemSz P (elemT P t)) (elemSz P t) l = some cs) (hI : Inv γ0 w0 n A a w) (hd : ∀ t, o.dst = some t → t < n) :
    OpOk P γ0 w0 n o a w ((A.newOb k ⟨elemSz P t, cs⟩).dst o.dst (.c (.own k))) := by
  obtain ⟨γ, hR, hH⟩ := hI.ex
  obtain ⟨hu, ti, z, g1, g2, g3, g4, g5⟩ := goodT_elim hT
  obtain ⟨arr, r1, r2, r3, r4⟩ := buildSlice_run hop hidx hsm hT hR hl hlen
  obtain ⟨e1, e2⟩ := plainRows_get hcs
  obtain ⟨γ', k1, k2, k3⟩ := hR.fresh (m := k) (l := ⟨elemSz P t, cs⟩) (cap := m) (cs := arr) (e := elemT P t)
    (fun r hr => by
      obtain ⟨i, hi⟩ := List.getElem?_of_mem hr
      obtain ⟨ll, h1, h2⟩ := e2 i r hi
      obtain ⟨us, h3, h4, h5⟩ := r4 i ll h1
      rw [(plainRow_rep h2 h4).1, h4.length]; exact h3) (by dsimp only; omega) (by dsimp only; omega) (by dsimp only; omega)
    (fun i r hi j x hj => by
      obtain ⟨ll, h1, h2⟩ := e2 i r hi
      obtain ⟨us, h3, h4, h5⟩ := r4 i ll h1
      obtain ⟨u, h6, h7⟩ := (plainRow_rep h2 h4).2 j x hj
      exact ⟨u, h5 j u h6, h7⟩)
  refine OpOk.val hI hd r1 ⟨γ', k1, hH.trans k2, ?_⟩
  rw [show (⟨elemSz P t, cs⟩ : Sl).d.length = m by dsimp only; omega] at k3
  exact ⟨k3.symm, rfl⟩

theorem look_kill_kill {A : St} {q k : Nat} : look q ((A.kill q).kill k).ob = none := by
  rw [kill_look_ne]
  split
  · rfl
  · exact kill_look

theorem buildOwn_ok {t : TypeId} {m k q : Nat} {ps : Array (Nat × Operand)} {b : Sl} {rows : List Row} (hop : o.op = .buildSlice t m ps) (hidx : ps.toList.map (·.1) = List.range m) (hsm : m * elemSz P t ≤ 16777216) (hT : goodT P t = true)
    (hl : partsL (ps.toList.map fun p => A.ev p.2) = some [[.own q]]) (hlen : [[AV.own q]].all (fun r => r.length == elemSz P t) = true) (hb : look q A.ob = some b) (hlow : lower b.d = some rows) (hI : Inv γ0 w0 n A a w) (hd : ∀ t, o.dst = some t → t < n) :
    OpOk P γ0 w0 n o a w (((A.kill q).newOb k ⟨elemSz P t, [[.s b.sz rows]]⟩).dst o.dst (.c (.own k))) := by
  obtain ⟨γ, hR, hH⟩ := hI.ex
  obtain ⟨arr, r1, r2, r3, r4⟩ := buildSlice_run hop hidx hsm hT hR hl hlen
  have hsz : elemSz P t = 1 := by
    have : 1 = elemSz P t := by simpa using hlen
    exact this.symm
  have hm : m = 1 := by simpa using r3.symm
  subst hm
  obtain ⟨us, h3, h4, h5⟩ := r4 0 _ rfl
  obtain ⟨u, rfl, h6, h7⟩ := cells_one h4
  have hobq := hR.ob q b hb
  let tg' : Nat → Option Tag := fun c => if c = w.heap.size then some (.ob k) else match γ.tg c with | some (.ob o) => if o = q then some (.ne k 0) else some (.ob o) | t => t
  let γ' : Gh := { γ with hd := upd γ.hd k (.slice (some ⟨w.heap.size, 0, none⟩) 1 1), sz := upd γ.sz k (elemSz P t), nh := fun o i => if o = k then γ.hd q else γ.nh o i, ns := fun o i => if o = k then γ.sz q else γ.ns o i, tg := tg' }
  have tgs : ∀ c, c ≠ w.heap.size → (∀ o, o = q → ¬ γ.inOb o c) → tg' c = γ.tg c := fun c hne hc => by
    show (if c = w.heap.size then some (Tag.ob k) else match γ.tg c with | some (.ob o) => if o = q then some (Tag.ne k 0) else some (.ob o) | t => t) = _
    rw [if_neg hne]
    cases ht : γ.tg c with
    | none => rfl
    | some t => cases t with
      | bx _ => rfl
      | ne _ _ => rfl
      | ob o => dsimp only; rw [if_neg fun e => hc o e (.inl ht)]
  have blocks : ∀ c, c < w.heap.size → (∀ o, o = q → ¬ γ.inOb o c) → (w.alloc (.cells arr (elemT P t))).heap[c]? = w.heap[c]? ∧ γ'.tg c = γ.tg c := fun c hc hf => ⟨heap_alloc _ _ _ hc, tgs c (by omega) hf⟩
  have R := ((hR.kill q).kill k).renew (γ' := γ') (m := k) (w' := w.alloc (.cells arr (elemT P t))) (l := ⟨elemSz P t, [[.s b.sz rows]]⟩) (fun o => o = q) (fun x hx o ho => by subst ho; exact kill_obs_ne (fun a ha => kill_obs ha) x hx)
    (fun o ho => by subst ho; exact look_kill_kill) (fun x hx => kill_obs hx) kill_look (fun o ho => ⟨upd_ne _ _ ho, upd_ne _ _ ho, fun i => ⟨by simp [γ', ho], by simp [γ', ho]⟩⟩) rfl rfl blocks
    (fun c hc => by
      simp only [World.size_alloc]
      by_cases h : c = w.heap.size
      · omega
      · have : γ.tg c ≠ none := fun e => hc (by
          show (if c = w.heap.size then some (Tag.ob k) else match γ.tg c with | some (.ob o) => if o = q then some (Tag.ne k 0) else some (.ob o) | t => t) = _
          rw [if_neg h, e])
        have := hR.lt c (.inr this)
        omega) (by simp) (by
      refine ⟨fun r hr => by simp at hr; rw [hr, hsz]; rfl, .inr ⟨by dsimp only; omega, by simp [γ'], w.heap.size, 0, 1, arr, elemT P t, by simp [γ'], by simp, by simp [γ', tg'], heap_alloc_self _ _, by dsimp only; omega, fun i r hi j x hj => ?_⟩⟩
      cases i with
      | succ i => simp at hi
      | zero =>
        simp at hi
        subst hi
        cases j with
        | succ j => simp at hj
        | zero =>
          simp at hj
          subst hj
          have := h5 0 u rfl
          refine ⟨u, by simpa using this, hsz, by rw [h6.1]; simp [γ'], hobq.toNe hlow ⟨by simp [γ'], by simp [γ']⟩ fun c hc hlt => ⟨heap_alloc _ _ _ hlt, ?_⟩⟩
          show (if c = w.heap.size then some (Tag.ob k) else match γ.tg c with | some (.ob o) => if o = q then some (Tag.ne k 0) else some (.ob o) | t => t) = _
          rw [if_neg (by omega), hc]; simp)
  refine OpOk.val hI hd r1 ⟨γ', R, hH.trans (Hist.renew (fun o => o = q) rfl blocks (by simp) rfl rfl rfl), ?_⟩
  exact ⟨by simp [γ'], rfl⟩

theorem lendRows_get : ∀ {l : List (List AV)} {cs : List (List C)} {ss : List Nat}, lendRows A l = some (cs, ss) → cs.length = l.length ∧ ∀ (i : Nat) row, cs[i]? = some row → ∃ ll s, l[i]? = some ll ∧ lendRow A ll = some (row, s) ∧ ∀ x ∈ s, x ∈ ss
  | [], cs, ss, h => by simp [lendRows] at h; obtain ⟨rfl, rfl⟩ := h; simp
  | x :: l, cs, ss, h => by
    simp only [lendRows] at h
    split at h
    · rename_i a b h1 h2
      cases h
      obtain ⟨e1, e2⟩ := lendRows_get (cs := b.1) (ss := b.2) h2
      refine ⟨by simp [e1], fun i row hi => ?_⟩
      cases i with
      | zero => simp at hi; subst hi; exact ⟨x, a.2, rfl, h1, fun y hy => List.mem_append_left _ hy⟩
      | succ i =>
        simp at hi
        obtain ⟨ll, s, q1, q2, q3⟩ := e2 i row hi
        exact ⟨ll, s, by simpa using q1, q2, fun y hy => List.mem_append_right _ (q3 y hy)⟩
    · cases h
theorem SlAt.rows {R : Nat → Prop} {y : Value} {l : Sl} {rows : List Row} (h : SlAt w R y l) (hl : lower l.d = some rows) : RowsAt w R y l.sz rows := by
  have e := lower_eq hl
  have len : l.d.length = rows.length := by rw [e, lift_len]
  obtain ⟨h1, b, cap, h2, h3, h4, h5⟩ := h
  refine ⟨fun r hr => ?_, b, cap, by rw [← len]; exact h2, by omega, h4, fun hne => ?_⟩
  · have := h1 (r.map .v) (by rw [e]; exact List.mem_map.2 ⟨r, hr, rfl⟩)
    simpa using this
  · obtain ⟨blk, off, e1, e2, e3⟩ := h5 (fun e' => hne (by rw [e'] at len; simpa using len.symm))
    refine ⟨blk, off, e1, e2, fun i r hi j x hj => ?_⟩
    obtain ⟨u, hu, hx⟩ := e3 i (r.map .v) (by rw [e]; simp [lift, hi]) j (.v x) (by simp [hj])
    rw [hx.1] at hu
    exact ⟨hu, hx.2⟩

theorem buildLend_ok {t : TypeId} {m : Nat} {ps : Array (Nat × Operand)} {l : List (List AV)} {cs : List (List C)} {ss : List Nat} (hop : o.op = .buildSlice t m ps) (hidx : ps.toList.map (·.1) = List.range m) (hsm : m * elemSz P t ≤ 16777216) (hT : goodT P t = true)
    (hl : partsL (ps.toList.map fun p => A.ev p.2) = some l) (hlen : l.all (fun r => r.length == elemSz P t) = true) (hcs : lendRows A l = some (cs, ss)) (hI : Inv γ0 w0 n A a w) (hd : ∀ t, o.dst = some t → t < n) :
    OpOk P γ0 w0 n o a w (A.dst o.dst (.c (.rd ss ⟨elemSz P t, cs⟩))) := by
  obtain ⟨γ, hR, hH⟩ := hI.ex
  obtain ⟨hu, ti, z, g1, g2, g3, g4, g5⟩ := goodT_elim hT
  obtain ⟨arr, r1, r2, r3, r4⟩ := buildSlice_run hop hidx hsm hT hR hl hlen
  obtain ⟨e1, e2⟩ := lendRows_get hcs
  let w' := w.alloc (.cells arr (elemT P t))
  let γ' : Gh := { γ with z := fun c => γ.z c ∨ c = w.heap.size }
  have ht0 : γ.tg w.heap.size = none := Classical.byContradiction fun h => by have := hR.lt _ (.inr h); omega
  have inR' : ∀ s c, γ.inR s c → γ'.inR s c := fun s c hc => by
    rcases hc with hc | hc
    · exact .inl (.inl hc)
    · exact .inr hc
  have R : Rel γ' A a.tmps w' := hR.move (fun x _ => ⟨fun c hc hlt => ⟨heap_alloc _ _ _ hlt, inR' _ _ hc⟩, fun c hc hlt => ⟨heap_alloc _ _ _ hlt, .inl hc⟩, fun _ _ => ⟨rfl, rfl⟩, fun _ _ _ => ⟨rfl, rfl⟩, fun _ _ => rfl⟩)
    (fun c l' hl' => by obtain ⟨_, _, h1, _⟩ := hR.bx c l' hl'; exact ⟨heap_alloc _ _ _ (heap_lt h1), rfl, rfl⟩) (fun q l' _ => ⟨fun c _ hlt => ⟨heap_alloc _ _ _ hlt, rfl⟩, ⟨rfl, rfl⟩, fun _ => ⟨rfl, rfl⟩⟩)
    (fun c hc => by
      rcases hc with hc | hc
      · exact hR.zt c hc
      · rw [hc]; exact ht0)
    (fun c hc => by
      simp only [w', World.size_alloc]
      rcases hc with (hc | hc) | hc
      · have := hR.lt c (.inl hc); omega
      · omega
      · have := hR.lt c (.inr hc); omega)
  have H : Hist γ w γ' w' := ⟨by simp [w'], rfl, rfl, rfl, fun c hc hn => ⟨heap_alloc _ _ _ hc, hn⟩, fun c hc hz => by
    rcases hz with hz | hz
    · exact .inl hz
    · omega⟩
  refine OpOk.val hI hd r1 ⟨γ', R, hH.trans H, fun row hrow => ?_, some ⟨w.heap.size, 0, none⟩, m, by rw [show (⟨elemSz P t, cs⟩ : Sl).d.length = m by dsimp only; omega], by dsimp only; omega, fun h => by dsimp only at h; omega, fun _ => ⟨w.heap.size, 0, rfl, .inl (.inr rfl), fun i row hi j x hj => ?_⟩⟩
  · obtain ⟨i, hi⟩ := List.getElem?_of_mem hrow
    obtain ⟨ll, s, h1, h2, h3⟩ := e2 i row hi
    have := List.all_eq_true.1 hlen _ (List.mem_of_getElem? h1)
    unfold lendRow at h2
    split at h2
    · split at h2
      · split at h2
        · cases h2; simpa using this
        · cases h2
      · cases h2
    · cases h2
  · obtain ⟨ll, s, h1, h2, h3⟩ := e2 i row hi
    obtain ⟨us, h4, h5, h6⟩ := r4 i ll h1
    unfold lendRow at h2
    split at h2
    · rename_i b
      split at h2
      · rename_i x' hx'
        split at h2
        · rename_i rows hlow
          cases h2
          obtain ⟨u, rfl, h7, h8⟩ := cells_one h5
          cases j with
          | succ j => simp at hj
          | zero =>
            simp at hj
            subst hj
            have := h6 0 u rfl
            refine ⟨u, by rw [Nat.zero_add]; show (w.alloc _).cell? _ = _; rw [World.cell?_alloc_new]; exact this, ?_⟩
            exact ((data_rep hR h7 hx').rows hlow).move fun c hc hlt => ⟨heap_alloc _ _ _ hlt, by
              rcases hc with hc | ⟨q, hq, hc⟩
              · exact .inl (.inl hc)
              · exact .inr ⟨q, h3 q hq, hc⟩⟩
        · cases h2
      · cases h2
    · cases h2
end
end Go.Tree
namespace Go.Tree
set_option linter.unusedVariables false
set_option linter.unusedSimpArgs false
set_option linter.constructorNameAsVariable false
section
variable {P : Program} {γ0 : Gh} {w0 : World} {n : Nat} {A : St} {a : Act} {w : World} {o : Oper}

theorem look_newOb {A : St} {k : Nat} {l : Sl} : look k (A.newOb k l).ob = some l := by simp [St.newOb, look]
theorem append_ok {x y : Operand} {e : TypeId} {args : Array Operand} {ts : Array TypeId} {A1 A' : St} {k p : Nat} {b : AV} {γ : Gh} (hop : o.op = .call { callee := .builtin .append, args := args, argTypes := ts }) (ha : args.toList = [x, y]) (hts : ts.toList = [e, e])
    (hR : Rel γ A1 a.tmps w) (hH : Hist γ0 w0 γ w) (hx : a.eval x = γ.hd p) (hy : A1.ev y = .c b) (h : appendOwn P A1 k p e b = some A') (hI : Inv γ0 w0 n A a w) (hd : ∀ t, o.dst = some t → t < n) :
    OpOk P γ0 w0 n o a w (A'.dst o.dst (.c (.own k))) := by
  have h1 : AVrep γ w b (a.eval y) := by
    have := hR.eval (d := a.defers) y
    rw [hy] at this
    exact this
  obtain ⟨v, w', γ', r1, r2, r3, r4⟩ := appendOwn_ok (a := a) (ty := o.type) h hR hx h1 rfl
  refine OpOk.val hI hd (append_run hop ha hts r1) ⟨γ', r2, hH.trans r3, r4.symm, ?_⟩
  have : v = γ'.hd k := r4.symm
  -- it is a slice
  have hob : ∃ l, look k A'.ob = some l := by
    unfold appendOwn at h
    split at h
    · split at h
      · split at h
        · split at h
          · cases h
          · cases h; exact ⟨_, look_newOb⟩
        · split at h
          · split at h
            · cases h
            · cases h; exact ⟨_, look_newOb⟩
          · cases h
      · cases h
    · cases h
  obtain ⟨l, hl⟩ := hob
  rcases (r2.ob k l hl).2 with ⟨⟨_, e1, _⟩, _⟩ | ⟨_, _, _, _, _, _, _, e1, _⟩ <;> rw [this, e1] <;> rfl

theorem hd_one {γ : Gh} {tmps : Array Value} {k : Nat} {l : Sl} (hR : Rel γ A tmps w) (hl : look k A.ob = some l) : (γ.hd k).oneCell' = true := by
  rcases (hR.ob k l hl).2 with ⟨⟨_, e1, _⟩, _⟩ | ⟨_, _, _, _, _, _, _, e1, _⟩ <;> rw [e1] <;> rfl

theorem appendOp_ok {c : Call} {A' : St} (e : o.op = .call { callee := .builtin .append, args := c.args, argTypes := c.argTypes }) (hop : appendOp P A o (o.dst.getD 0) c = some A') (hI : Inv γ0 w0 n A a w) (hd : ∀ t, o.dst = some t → t < n) : OpOk P γ0 w0 n o a w A' := by
  obtain ⟨γ, hR, hH⟩ := hI.ex
  unfold appendOp at hop
  split at hop
  · rename_i x y t t' ha hts
    split at hop
    · rename_i ett
      subst ett
      split at hop
      · rename_i hx
        split at hop
        · rename_i b hy
          split at hop
          · rename_i A1 h1
            cases hop
            have hxv : a.eval x = .slice none 0 0 := ev_c hR hx
            obtain ⟨v, w', γ', r1, r2, r3, r4⟩ := appendNil_ok (a := a) (ty := o.type) h1 hR (ev_c hR hy) rfl
            rw [← hxv] at r1
            refine OpOk.val hI hd (append_run e ha hts r1) ⟨γ', r2, hH.trans r3, r4.symm, ?_⟩
            have hob : ∃ l, look (nm (o.dst.getD 0) 0) A1.ob = some l := by
              unfold appendNil at h1
              split at h1
              · split at h1
                · split at h1
                  · cases h1; exact ⟨_, look_newOb⟩
                  · cases h1
                · cases h1
              · cases h1
            obtain ⟨l, hl⟩ := hob
            rw [← r4]; exact hd_one r2 hl
          · cases hop
        · cases hop
      · rename_i p hx
        split at hop
        · rename_i b hy
          split at hop
          · rename_i A1 h1
            cases hop
            exact append_ok e ha hts hR hH (ev_c hR hx).1 hy h1 hI hd
          · cases hop
        · cases hop
      · rename_i p i hx
        split at hop
        · rename_i A1 h0
          split at hop
          · rename_i b hy
            split at hop
            · rename_i A2 h1
              cases hop
              obtain ⟨γ1, q1, q2, q3⟩ := hR.extract h0
              exact append_ok e ha hts q1 (hH.trans q2) ((ev_c hR hx).1.trans q3.symm) hy h1 hI hd
            · cases hop
          · cases hop
        · cases hop
      · cases hop
    · cases hop
  · cases hop

theorem lenOp_ok {c : Call} {A' : St} (e : o.op = .call { callee := .builtin .len, args := c.args, argTypes := c.argTypes }) (hop : lenOp P A o c = some A') (hI : Inv γ0 w0 n A a w) (hd : ∀ t, o.dst = some t → t < n) : OpOk P γ0 w0 n o a w A' := by
  unfold lenOp at hop
  split at hop
  · rename_i x t ha hts
    split at hop
    · exact plainOp_ok hI hd hop
    · rename_i v hx
      split at hop
      · rename_i l h1 h2; cases hop; exact len_ok (ty := 0) e ha hts hx h1 h2 hI hd
      · cases hop
    · cases hop
  · cases hop

theorem aop_sound {h : Hint} {A' : St} (hop : aop P h A o = some A') (hI : Inv γ0 w0 n A a w) (hd : ∀ t, o.dst = some t → t < n) : OpOk P γ0 w0 n o a w A' := by
  obtain ⟨γ, hR, hH⟩ := hI.ex
  unfold aop at hop
  dsimp only at hop
  split at hop
  · -- move
    rename_i x e; cases hop; exact move_ok x (.inl e) hI hd
  · rename_i x e; cases hop; exact move_ok x (.inr e) hI hd
  · -- pick
    rename_i c x y e
    split at hop
    · rename_i u hc; cases hop; exact pick_ok e hc hI hd
    · cases hop
  · -- alloc
    rename_i t e
    split at hop
    · rename_i s z h1 h2
      cases hop
      have := alloc_ok (n := n) (γ0 := γ0) (w0 := w0) e h1 h2 hI hd
      rwa [h1] at this
    · cases hop
  · -- box
    rename_i t x e
    split at hop
    · rename_i s l h1 h2
      cases hop
      have := box_ok (P := P) (n := n) (γ0 := γ0) (w0 := w0) e h1 h2 hI hd
      rwa [h1] at this
    · cases hop
  · -- build
    rename_i t ps e
    split at hop
    · rename_i pl z l h1 h2 h3
      split at hop
      · rename_i cs h4; cases hop; exact build_ok e h1 h2 h3 h4 hI hd
      · cases hop
    · cases hop
  · -- buildSlice
    rename_i t m ps e
    split at hop
    · rename_i hc
      split at hop
      · rename_i l hl
        split at hop
        · rename_i hall
          split at hop
          · split at hop
            · rename_i cs ss hcs; cases hop; exact buildLend_ok e hc.1 hc.2.1 hc.2.2 hl hall hcs hI hd
            · cases hop
          · split at hop
            · rename_i q
              split at hop
              · rename_i b hb
                split at hop
                · rename_i rows hlow; cases hop; exact buildOwn_ok e hc.1 hc.2.1 hc.2.2 hl hall hb hlow hI hd
                · cases hop
              · cases hop
            · split at hop
              · rename_i cs hcs; cases hop; exact buildPlain_ok e hc.1 hc.2.1 hc.2.2 hl hall hcs hI hd
              · cases hop
        · cases hop
      · cases hop
    · cases hop
  · -- load
    rename_i t x e
    split at hop
    · rename_i v hv
      split at hop
      · cases hop
      · rename_i hne
        split at hop
        · rename_i l hl
          split at hop
          · rename_i tv ht; cases hop; exact load_ok e hv hl ht hne hI hd
          · cases hop
        · cases hop
    · cases hop
  · -- store
    rename_i t p x e
    split at hop
    · rename_i v l h1 h2
      split at hop
      · rename_i hc
        split at hop
        · rename_i A1 h3; cases hop; exact store_ok e h1 h2 hc.1 hc.2 h3 hI hd
        · cases hop
      · cases hop
    · cases hop
  · -- nilCheck
    rename_i x e
    split at hop
    · rename_i b f hx; cases hop; exact nilCheck_ok e hx (.inl ⟨b, f, rfl⟩) hI hd
    · rename_i s c hx; cases hop; exact nilCheck_ok e hx (.inr ⟨s, c, rfl⟩) hI hd
    · cases hop
  · -- fieldAddr
    rename_i t x f e
    split at hop
    · rename_i b off k hx hf; cases hop; exact field_ok e hf hx (fun γ y hy => AVrep.addk (v := .box b off) rfl hy) hI hd
    · rename_i p i off k hx hf; cases hop; exact field_ok e hf hx (fun γ y hy => AVrep.addk (v := .adr p i off) rfl hy) hI hd
    · rename_i p i j off k hx hf; cases hop; exact field_ok e hf hx (fun γ y hy => AVrep.addk (v := .adn p i j off) rfl hy) hI hd
    · rename_i s c k hx hf; cases hop; exact field_ok e hf hx (fun γ y hy => AVrep.addk (v := .rad s c) rfl hy) hI hd
    · cases hop
  · -- indexAddr
    rename_i t x ix e
    split at hop
    · rename_i p i hx hi
      split at hop
      · rename_i b hb
        split at hop
        · rename_i hc; cases hop; exact indexOwn_ok e hx hi hb hc.1 hc.2.1 hc.2.2 hI hd
        · cases hop
      · cases hop
    · rename_i p k i hx hi
      split at hop
      · rename_i b hb
        split at hop
        · rename_i hc; cases hop; exact indexNest_ok e hx hi hb hc.1 hc.2.1 hc.2.2 hI hd
        · cases hop
      · cases hop
    · rename_i s l i hx hi
      split at hop
      · rename_i c hc'
        split at hop
        · rename_i hc; cases hop; exact indexRd_ok e hx hi hc' hc.1 hc.2 hI hd
        · cases hop
      · cases hop
    · rename_i b off i hx hi
      split at hop
      · rename_i m el hu
        split at hop
        · rename_i hc; cases hop; exact indexBox_ok e hx hi hu hc.1 hc.2.1 hc.2.2 hI hd
        · cases hop
      · cases hop
    · cases hop
  · -- slice
    rename_i t x lo hi e
    split at hop
    · rename_i v hx
      split at hop
      · exact plainOp_ok hI hd hop
      · -- own
        rename_i p
        split at hop
        · split at hop
          · rename_i A1 h1
            cases hop
            have hxv := ev_c hR hx
            obtain ⟨v, γ', r1, r2, r3, r4⟩ := cutOwn_ok h1 hR hxv.1
            refine OpOk.val hI hd (v := v) (w' := w) (by simp only [execOp, e]; simp only [Option.map_none] at *; simp [r1]) ⟨γ', r2, hH.trans r3, r4.symm, ?_⟩
            have hob : ∃ l, look (nm (o.dst.getD 0) 0) A1.ob = some l := by
              unfold cutOwn at h1
              split at h1
              · split at h1
                · split at h1
                  · cases h1; exact ⟨_, look_newOb⟩
                  · cases h1
                · cases h1
              · cases h1
            obtain ⟨l, hl⟩ := hob
            rw [← r4]; exact hd_one r2 hl
          · cases hop
        · split at hop
          · rename_i v' h1; cases hop; exact cutRd_ok e hx h1 hI hd
          · cases hop
      · -- nest
        rename_i p i
        split at hop
        · split at hop
          · rename_i A1 h0
            split at hop
            · rename_i A2 h1
              cases hop
              have hxv := ev_c hR hx
              obtain ⟨γ1, q1, q2, q3⟩ := hR.extract h0
              obtain ⟨v, γ', r1, r2, r3, r4⟩ := cutOwn_ok h1 q1 (hxv.1.trans q3.symm)
              refine OpOk.val hI hd (v := v) (w' := w) (by simp only [execOp, e]; simp only [Option.map_none] at *; simp [r1]) ⟨γ', r2, (hH.trans q2).trans r3, r4.symm, ?_⟩
              have hob : ∃ l, look (nm (o.dst.getD 0) 0) A2.ob = some l := by
                unfold cutOwn at h1
                split at h1
                · split at h1
                  · split at h1
                    · cases h1; exact ⟨_, look_newOb⟩
                    · cases h1
                  · cases h1
                · cases h1
              obtain ⟨l, hl⟩ := hob
              rw [← r4]; exact hd_one r2 hl
            · cases hop
          · cases hop
        · split at hop
          · rename_i v' h1; cases hop; exact cutRd_ok e hx h1 hI hd
          · cases hop
      · split at hop
        · rename_i v' h1; cases hop; exact cutRd_ok e hx h1 hI hd
        · cases hop
    · cases hop
  · -- makeSlice
    rename_i t l c e
    split at hop
    · rename_i k m z h1 h2 h3
      split at hop
      · rename_i hc
        cases hop
        obtain ⟨rfl, c2, c3⟩ := hc
        exact makeSlice_ok e h1 h2 h3 c2 c3 hI hd
      · cases hop
    · cases hop
  · -- makeFunc
    rename_i fn first caps e
    split at hop
    · rename_i f
      split at hop
      · rename_i h0
        obtain rfl : first = #[] := Array.size_eq_zero_iff.1 h0
        split at hop
        · rename_i l h1; cases hop; exact makeFunc_ok e h1 hI hd
        · cases hop
      · cases hop
    · cases hop
  · -- extract
    rename_i x i e
    split at hop
    · rename_i l hx
      split at hop
      · rename_i l' hi; cases hop; exact extract_ok e hx (by rw [hi]) hI hd
      · rename_i b hi; cases hop; exact extract_ok e hx (by rw [hi]) hI hd
      · cases hop
    · cases hop
  · -- convert
    rename_i t d x e
    split at hop
    · exact plainOp_ok hI hd hop
    · rename_i v hx
      split at hop
      · rename_i l el h1 h2 h3
        split at hop
        · rename_i bs h4 h5; cases hop; exact bytes_ok e hx h1 h2 h3 h4 h5 hI hd
        · cases hop
      · cases hop
    · cases hop
  · -- a call
    rename_i c e
    split at hop
    · rename_i b hb
      split at hop
      · exact appendOp_ok (by rw [e]; cases c; simp_all) hop hI hd
      · exact lenOp_ok (by rw [e]; cases c; simp_all) hop hI hd
      · exact plainOp_ok hI hd hop
    · cases hop
  · exact plainOp_ok hI hd hop
end
end Go.Tree
namespace Go.Tree
set_option linter.unusedVariables false
set_option linter.constructorNameAsVariable false

/-- a cell, as something that is read -/
def avC (A : St) (sel : List Nat) (a : AV) : C := match a with
  | .v x => if single x then .v x else .x
  | a => if (srcs a).any sel.contains then .x else match A.data a with
    | some l => match lower l.d with | some rows => .s l.sz rows | none => .x
    | none => .x
/-- what may be read behind a pointer to a variable -/
def boxC (A : St) (sel : List Nat) (b off : Nat) : List C := match look b A.bx with | some l => (l.drop off).map (avC A sel) | none => []
/-- a value, as another frame sees it: sel, bsel: the objects and variables that are handed over -/
def expAV (A : St) (sel bsel : List Nat) (a : AV) : AV := match a with
  | .own o => if sel.contains o then .own o else match A.data a with | some l => .rd [] l | none => .unk
  | .nest o _ => if sel.contains o then .unk else match A.data a with | some l => .rd [] l | none => .unk
  | .rd s l => if s.any sel.contains then .unk else .rd [] l
  | .rad s c => if s.any sel.contains then .unk else .rad [] c
  | .box b off => if bsel.contains b then .box b off else .rad [] (boxC A sel b off)
  | .adr _ _ _ => .unk
  | .adn _ _ _ _ => .unk
  | .fn f caps => if caps.any bsel.contains then .unk else .fnr f (caps.map fun b => boxC A sel b 0)
  | a => a

def ownsAV : AV → List Nat
  | .own o => [o] | _ => []
def ownsTV : TV → List Nat
  | .c a => ownsAV a | .agg l => l.flatMap ownsAV | .tup _ => []
def boxesTV : TV → List Nat
  | .c (.box b 0) => [b] | _ => []

/-- where a name stands -/
def pos (n : Nat) : List Nat → Nat → Nat
  | [], k => k
  | m :: l, k => if m = n then k else pos n l (k + 1)
def renAV (f g : Nat → Nat) : AV → AV
  | .own o => .own (f o) | .nest o i => .nest (f o) i | .adr o i k => .adr (f o) i k | .adn o i j k => .adn (f o) i j k
  | .rd s l => .rd (s.map f) l | .rad s l => .rad (s.map f) l | .box b k => .box (g b) k | .fn h l => .fn h (l.map g) | a => a
def St.ren (f g : Nat → Nat) (A : St) : St :=
  { tm := mapTm (renAV f g) A.tm, bx := A.bx.map fun p => (g p.1, p.2.map (renAV f g)), ob := A.ob.map fun p => (f p.1, p.2) }
def nodup : List Nat → Bool
  | [] => true
  | a :: l => !l.contains a && nodup l

def enum {α : Type} : Nat → List α → List (Nat × α)
  | _, [] => []
  | n, a :: l => (n, a) :: enum (n + 1) l
def pick {α : Type} (l : List (Nat × α)) : List Nat → List (Nat × α)
  | [] => []
  | n :: ns => match look n l with | some a => (n, a) :: pick l ns | none => pick l ns

/-- values for another frame, with the objects and variables that are handed over -/
def St.pack (A : St) (sel bsel : List Nat) (tvs : List TV) : St :=
  St.ren (fun o => pos o sel 0) (fun b => pos b bsel 0)
    { tm := enum 0 (tvs.map (TV.map (expAV A sel bsel))), bx := (pick A.bx bsel).map fun p => (p.1, p.2.map (expAV A sel bsel)), ob := pick A.ob sel }
/-- the variables that values point at, and the objects that they and these variables own -/
def selBoxes (tvs : List TV) : List Nat := tvs.flatMap boxesTV
def selObs (A : St) (tvs : List TV) : List Nat := tvs.flatMap ownsTV ++ (selBoxes tvs).flatMap fun b => ((look b A.bx).getD []).flatMap ownsAV

/-- the objects that are read by what is handed over -/
def lentAV (A : St) : AV → List Nat
  | .own o => [o] | .nest o _ => [o] | .rd s _ => s | .rad s _ => s
  | .box b _ => ((look b A.bx).getD []).flatMap srcs
  | .fn _ caps => caps.flatMap fun b => ((look b A.bx).getD []).flatMap srcs
  | _ => []
/-- nothing is shared -/
def closedAV : AV → Bool
  | .rd _ _ => false | .rad _ _ => false | .fnr _ _ => false | .fn _ _ => false | .adr _ _ _ => false | .adn _ _ _ _ => false | .nest _ _ => false
  | _ => true
def closedTV : TV → Bool
  | .c a => closedAV a | .agg l => l.all closedAV | .tup l => l.all fun p => p.2.all closedAV
def St.closed (A : St) : Bool := A.tm.all (fun p => closedTV p.2) && A.bx.all fun p => p.2.all closedAV
/-- what is shared is left unknown -/
def looseAV : AV → AV := killIf fun a => !closedAV a

def freezeAV (A : St) (L : List Nat) (a : AV) : AV := match a with
  | .own p => if L.contains p then (match A.data a with | some d => .rd [] d | none => .unk) else a
  | .nest p _ => if L.contains p then (match A.data a with | some d => .rd [] d | none => .unk) else a
  | .rd s d => .rd (s.filter fun o => !L.contains o) d
  | .rad s d => .rad (s.filter fun o => !L.contains o) d
  | .adr p _ _ => if L.contains p then .unk else a
  | .adn p _ _ _ => if L.contains p then .unk else a
  | a => a
/-- the objects L are given up: they stay as they are -/
def St.freezes (A : St) (L : List Nat) : St := { A.map (freezeAV A L) with ob := A.ob.filter fun p => !L.contains p.1 }
/-- does a value speak of the objects ks (bk: but for their mere names) or of the variables kb (but for bbk) -/
def gone (ks bk kb bbk : List Nat) (a : AV) : Bool :=
  (match a with | .own o => ks.contains o && !bk.contains o | a => a.obs.any ks.contains) || a.bxs.any fun b => kb.contains b && !bbk.contains b
/-- the objects ks and the variables kb are no more -/
def St.reduce (A : St) (ks bk kb bbk : List Nat) : St :=
  { tm := mapTm (killIf (gone ks bk kb bbk)) A.tm, bx := (mapBx (killIf (gone ks bk kb bbk)) A.bx).filter (fun p => !kb.contains p.1), ob := A.ob.filter fun p => !ks.contains p.1 }

/-- how a function takes its arguments: 0: it reads them; 1: it writes the variable behind its first one; 2: it writes the slices of its first one in place; 3: it keeps its first one -/
abbrev Mode := Nat

def zipOwn : List AV → List AV → List (Nat × Nat)
  | .own o :: l, .own n :: r => (n, o) :: zipOwn l r
  | _ :: l, _ :: r => zipOwn l r
  | _, _ => []
def backPairs : TV → TV → List (Nat × Nat)
  | .c a, .c b => zipOwn [a] [b]
  | .agg l, .agg r => zipOwn l r
  | _, _ => []
def backBoxes : TV → TV → List (Nat × Nat)
  | .c (.box b 0), .c (.box n 0) => [(n, b)]
  | _, _ => []

/-- what is handed over, of a call's first argument -/
def handed (m : Mode) (tvs : List TV) : List TV := if m = 0 then [] else tvs.take 1
/-- the package of a call -/
def St.give (A : St) (m : Mode) (tvs : List TV) : St := A.pack (selObs A (handed m tvs)) (selBoxes (handed m tvs)) tvs

def toTup : TV → Bool × List AV
  | .c a => (false, [a]) | .agg l => (true, l) | .tup _ => (false, [.unk])
def resTV (l : List (Nat × TV)) : TV := match l with
  | [p] => p.2
  | l => .tup (l.map fun p => toTup p.2)

/-- the names in what a call told are those of its own objects and variables -/
def avNamed (ns bns : List Nat) (a : AV) : Bool := a.obs.all ns.contains && a.bxs.all bns.contains
def tvNamed (ns bns : List Nat) : TV → Bool
  | .c a => avNamed ns bns a | .agg l => l.all (avNamed ns bns) | .tup l => l.all fun p => p.2.all (avNamed ns bns)
def St.named (R : St) (ns bns : List Nat) : Bool := R.tm.all (fun p => tvNamed ns bns p.2) && R.bx.all fun p => p.2.all (avNamed ns bns)

def TV.all : TV → List AV
  | .c a => [a] | .agg l => l | .tup l => l.flatMap (·.2)
/-- what a call may see -/
def shared (A : St) (bsel : List Nat) (tvs : List TV) : List AV := tvs.flatMap TV.all ++ bsel.flatMap fun b => (look b A.bx).getD []
def prsOf (m : Mode) (tvs : List TV) (y : Option TV) : List (Nat × Nat) := match m, tvs, y with | 2, x :: _, some y => backPairs x y | _, _, _ => []
def bprsOf (m : Mode) (tvs : List TV) (y : Option TV) : List (Nat × Nat) := match m, tvs, y with | 1, x :: _, some y => backBoxes x y | _, _, _ => []
/-- behind a call that told R: nres results, then what comes back of the first argument -/
def St.take (A : St) (dst : Option Nat) (m : Mode) (loose : Bool) (tvs : List TV) (nres : Nat) (R : St) : Option St :=
  let t := dst.getD 99999
  let R := if loose then R.map looseAV else R
  let prs := prsOf m tvs (look nres R.tm)
  let bprs := bprsOf m tvs (look nres R.tm)
  let ns := R.ob.map (·.1)
  let bns := R.bx.map (·.1)
  let f := fun n => (look n prs).getD (n + nm t 0)
  let g := fun n => (look n bprs).getD (n + (nm t 0 + 1000000))
  let sel := selObs A (handed m tvs)
  let bsel := selBoxes (handed m tvs)
  let bk := ns.filterMap fun n => look n prs
  let bbk := bns.filterMap fun n => look n bprs
  let lent := ((shared A bsel tvs).flatMap (lentAV A)).filter fun o => !sel.contains o
  if (R.closed || ((shared A bsel tvs).flatMap AV.bxs).all bsel.contains) && R.named ns bns && nodup (ns.map f) && nodup (bns.map g) then
    let A := if R.closed then A else A.freezes lent
    let A := A.reduce (sel ++ ns.map f) bk (bsel ++ bns.map g) bbk
    let R := R.ren f g
    let A : St := { A with bx := R.bx ++ A.bx, ob := R.ob ++ A.ob }
    some (A.dst dst (resTV ((List.range nres).map fun i => (i, (look i R.tm).getD (.c .unk)))))
  else none

inductive Ex where
  | normal | exit (id : Nat) | ret
  deriving DecidableEq, Inhabited, Repr

/-- the state at the head of a loop: what is live alone, the names anew -/
def dedup : List Nat → List Nat
  | [] => []
  | a :: l => let r := dedup l; if r.contains a then r else a :: r
def canonB (live : List Nat) (A : St) : List Nat :=
  let b1 := (pick A.tm live).flatMap fun p => p.2.all.flatMap AV.bxs
  (dedup (b1 ++ b1.flatMap fun b => ((look b A.bx).getD []).flatMap AV.bxs).reverse).reverse
/-- what is live, and what it needs -/
def keepLive (live : List Nat) (A : St) : St :=
  { tm := pick A.tm live, bx := (pick A.bx (canonB live A)).map fun p => (p.1, p.2.map (killIf fun a => !a.bxs.all (canonB live A).contains)), ob := A.ob }
def canonO (A : St) : List Nat := (dedup ((A.tm.flatMap fun p => p.2.all.flatMap AV.obs) ++ A.bx.flatMap fun p => p.2.flatMap AV.obs).reverse).reverse
def canon (live : List Nat) (A : St) : St :=
  St.ren (fun o => pos o (canonO (keepLive live A)) 0) (fun b => pos b (canonB live A) 0) { keepLive live A with ob := pick A.ob (canonO (keepLive live A)) }

structure Env where
  P : Program
  hint : FuncId → Hint
  mode : FuncId → Mode
  nres : FuncId → Nat
  /-- what the variables of the packages hold -/
  pk : World → Prop := fun _ => True

section
variable (E : Env) (call : FuncId → St → Option St)

/-- does an operation's guard hold -/
def wants (A : St) (ops : Array Oper) (o : Oper) : Option Bool :=
  match o.guard with
  | none => some true
  | some (j, want) => match (ops[j]?).bind (·.dst) with
    | some t => match A.get t with
      | .c (.v (.bool b)) => some (b == want)
      | .c (.v (.tuple _)) => some false
      | _ => none
    | none => some false

/-- a function of the program that has a body -/
def goF (P : Program) (f : FuncId) : Bool := match P.funcs[f]? with | some fn => !(fn.name == "runtime.NumGoroutine") && !fn.body.isNone | none => false
def callOp (h : Hint) (A : St) (o : Oper) (g : Operand) (xs : List Operand) : Option St :=
  match A.ev g with
  | .c (.fnr f caps) => if !goF E.P f then none else
    let tvs := xs.map A.ev ++ caps.map fun c => TV.c (.rad [] c)
    match call f (A.give (E.mode f) tvs) with
    | some R => A.take o.dst (E.mode f) (h.loose.contains (o.dst.getD 0)) tvs (E.nres f) R
    | none => none
  | _ => none

def opStep (h : Hint) (A : St) (o : Oper) : Option St :=
  match o.op with
  | .call c => match c.callee with
    | .value g => callOp E call h A o g c.args.toList
    | _ => aop E.P h A o
  | _ => aop E.P h A o

def runOps (h : Hint) (ops : Array Oper) : List Oper → St → Option St
  | [], A => some A
  | o :: l, A => match wants A ops o with
    | some true => match opStep E call h A o with
      | some A => runOps h ops l A
      | none => none
    | some false => runOps h ops l (A.dst o.dst (.c (.v undef)))
    | none => none

variable (iter : (St → Option (Ex × St)) → St → Option (Ex × St)) (draw : Hint → Array Oper → St → Option St)
def runCode (h : Hint) : Code → Nat → St → Option (Ex × St)
  | .skip, _, A => some (.normal, A)
  | .seq a b, k, A => match runCode h a k A with
    | some (.normal, A) => runCode h b k A
    | r => r
  | .cond c a b, k, A => match A.ev c with
    | .c (.v (.bool t)) => if t then runCode h a k A else runCode h b k A
    | _ => none
  | .block id b, _, A => match runCode h b id A with
    | some (.exit j, A) => if j = id then some (.normal, A) else some (.exit j, A)
    | r => r
  | .exit id, _, A => some (.exit id, A)
  | .ret, _, A => some (.ret, A)
  | .loop b, k, A => iter (fun A => runCode h b k (canon (h.live k) A)) A
  | .region _ ops d, _, A => match (if d then draw h ops A else runOps E call h ops ops.toList A) with
    | some A => some (.normal, A)
    | none => none
  | _, _, _ => none

def resultsOf (P : Program) (A : St) : List ResultVar → Option (List TV)
  | [] => some []
  | r :: l => match (match r with
      | .tmp t => some (A.get t)
      | .cell a t => match A.get a with
        | .c x => if P.cellsOf t = 0 then none else match A.at (P.cellsOf t) x with | some cs => cellsTV P t cs | none => none
        | _ => none), resultsOf P A l with
    | some x, some r => some (x :: r)
    | _, _ => none

/-- all operations write into slots below n, but for the slots pr -/
def codeOk (n : Nat) (pr : List Nat) : Code → Bool
  | .seq a b => codeOk n pr a && codeOk n pr b
  | .cond _ a b => codeOk n pr a && codeOk n pr b
  | .block _ b => codeOk n pr b
  | .loop b => codeOk n pr b
  | .region _ ops _ => ops.all fun o => match o.dst with | some t => decide (t < n) && !pr.contains t | none => true
  | _ => true
/-- the slots that a function keeps -/
def protectedSlots (m : Mode) : List Nat := if m = 1 ∨ m = 2 then [0] else []
/-- what a function's body tells -/
def runBody (f : FuncId) (fn : Func) (c : Code) (S : St) : Option St :=
  if !(codeOk fn.ntmps (protectedSlots (E.mode f)) c) then none else
  match runCode E call iter draw (E.hint f) c 0 S with
  | some (.exit _, _) => none
  | some (_, A) => match resultsOf E.P A fn.results.toList with
    | some rs =>
      let back := if E.mode f = 1 ∨ E.mode f = 2 then [A.get 0] else []
      let tvs := rs ++ back
      if nodup (selObs A tvs) && nodup (selBoxes tvs) && rs.length == E.nres f then some (A.pack (selObs A tvs) (selBoxes tvs) tvs) else none
    | none => none
  | none => none
end
def iterN : Nat → (St → Option (Ex × St)) → St → Option (Ex × St)
  | 0, _, _ => none
  | n + 1, f, A => match f A with
    | some (.normal, A) => iterN n f A
    | r => r
def runFun (E : Env) (prim : FuncId → Option (St → Option St)) : Nat → FuncId → St → Option St
  | 0, _, _ => none
  | n + 1, f, S => match prim f with
    | some p => p S
    | none => match E.P.funcs[f]? with
      | some fn => match fn.body with
        | some c => runBody E (runFun E prim n) (iterN n) (fun h ops A => runOps E (runFun E prim n) h ops ops.toList A) f fn c S
        | none => none
      | none => none
end Go.Tree
namespace Go.Tree
set_option linter.unusedVariables false
set_option linter.unusedSimpArgs false
set_option linter.constructorNameAsVariable false

theorem look_map_fst {α : Type} {f : Nat → Nat} (hf : ∀ l : List (Nat × α), ∀ p ∈ l, ∀ q ∈ l, f p.1 = f q.1 → p.1 = q.1) : True := trivial

/-- names turned by f, g: what the new names mean -/
structure Ren (γ γ' : Gh) (f g : Nat → Nat) (A : St) : Prop where
  hd : ∀ o, γ'.hd (f o) = γ.hd o ∧ γ'.sz (f o) = γ.sz o
  nh : ∀ o i, γ'.nh (f o) i = γ.nh o i ∧ γ'.ns (f o) i = γ.ns o i
  bb : ∀ b, γ'.bb (g b) = γ.bb b

/-- f is injective on the names of a list -/
def InjOn {α : Type} (f : Nat → Nat) (l : List (Nat × α)) : Prop := ∀ p ∈ l, ∀ q ∈ l, f p.1 = f q.1 → p.1 = q.1
theorem look_ren {α : Type} {f : Nat → Nat} {l : List (Nat × α)} (hf : InjOn f l) {m : Nat} {x : α} (h : look m (l.map fun p => (f p.1, p.2)) = some x) : ∃ n, f n = m ∧ look n l = some x := by
  induction l with
  | nil => simp [look] at h
  | cons p l ih =>
    obtain ⟨k, a⟩ := p
    simp only [List.map_cons, look] at h
    split at h
    · rename_i e; cases h; exact ⟨k, e, by simp [look]⟩
    · rename_i e
      obtain ⟨n, hn, hl⟩ := ih (fun p hp q hq => hf p (List.mem_cons_of_mem _ hp) q (List.mem_cons_of_mem _ hq)) h
      refine ⟨n, hn, ?_⟩
      simp only [look]
      rw [if_neg]
      · exact hl
      · rintro rfl; exact e hn

/-- A state under other names. What the new names mean is read off the old ones that occur. -/
theorem Rel.ren {γ γ' : Gh} {A : St} {tmps : Array Value} {w : World} {f g : Nat → Nat} (h : Rel γ A tmps w)
    (hO : ∀ o, (∃ a ∈ A.avs, o ∈ a.obs) ∨ (∃ l, look o A.ob = some l) → γ'.hd (f o) = γ.hd o ∧ γ'.sz (f o) = γ.sz o ∧ (∀ i, γ'.nh (f o) i = γ.nh o i ∧ γ'.ns (f o) i = γ.ns o i) ∧
      ∀ b, (γ.tg b = some (.ob o) → γ'.tg b = some (.ob (f o))) ∧ ∀ i, γ.tg b = some (.ne o i) → γ'.tg b = some (.ne (f o) i))
    (hB : ∀ b, (∃ a ∈ A.avs, b ∈ a.bxs) ∨ (∃ l, look b A.bx = some l) → γ'.bb (g b) = γ.bb b ∧ (γ.tg (γ.bb b) = some (.bx b) → γ'.tg (γ.bb b) = some (.bx (g b))))
    (hz : ∀ b, γ.z b → γ'.z b) (zt : ∀ b, γ'.z b → γ'.tg b = none) (lt : ∀ b, γ'.z b ∨ γ'.tg b ≠ none → b < w.heap.size)
    (fi : InjOn f A.ob) (gi : InjOn g A.bx) : Rel γ' (A.ren f g) tmps w := by
  have inR : ∀ (a : AV), a ∈ A.avs → ∀ b, γ.inR a.reads b → γ'.inR (a.reads.map f) b := fun a ha b hb => by
    rcases hb with hb | ⟨o, ho, hb⟩
    · exact .inl (hz b hb)
    · obtain ⟨_, _, _, ht⟩ := hO o (.inl ⟨a, ha, reads_obs ho⟩)
      refine .inr ⟨f o, List.mem_map.2 ⟨o, ho, rfl⟩, ?_⟩
      rcases hb with hb | ⟨i, hb⟩
      · exact .inl ((ht b).1 hb)
      · exact .inr ⟨i, (ht b).2 i hb⟩
  have one : ∀ a ∈ A.avs, ∀ y, AVrep γ w a y → AVrep γ' w (renAV f g a) y := fun a ha y hy => by
    cases a with
    | unk => trivial
    | v x => exact hy
    | nil => exact hy
    | rd s l => exact SlAt.move hy fun b hb _ => ⟨rfl, inR _ ha b hb⟩
    | rad s c => exact RadAt.move hy fun b hb _ => ⟨rfl, inR _ ha b hb⟩
    | own o => exact ⟨hy.1.trans (hO o (.inl ⟨_, ha, by simp [AV.obs]⟩)).1.symm, hy.2⟩
    | nest o i => exact ⟨hy.1.trans ((hO o (.inl ⟨_, ha, by simp [AV.obs]⟩)).2.2.1 i).1.symm, hy.2⟩
    | box b k => simp only [renAV, AVrep] at *; rw [(hB b (.inl ⟨_, ha, by simp [AV.bxs]⟩)).1]; exact hy
    | adr o i k =>
      obtain ⟨blk, off, len, cap, h1, h2⟩ := hy
      have := hO o (.inl ⟨_, ha, by simp [AV.obs]⟩)
      exact ⟨blk, off, len, cap, this.1.trans h1, by rw [this.2.1]; exact h2⟩
    | adn o i j k =>
      obtain ⟨blk, off, len, cap, h1, h2⟩ := hy
      have := (hO o (.inl ⟨_, ha, by simp [AV.obs]⟩)).2.2.1 i
      exact ⟨blk, off, len, cap, this.1.trans h1, by rw [this.2]; exact h2⟩
    | fn h' caps =>
      simp only [renAV, AVrep] at *
      rw [hy, List.map_map]
      congr 2
      exact List.map_congr_left fun b hb => by simp [(hB b (.inl ⟨_, ha, by simpa [AV.bxs] using hb⟩)).1]
    | fnr h' caps =>
      obtain ⟨vs, e, hy⟩ := hy
      exact ⟨vs, e, hy.radmove fun b hb _ => ⟨rfl, hz b hb⟩⟩
  refine ⟨fun t x hx => ?_, fun b l hl => ?_, fun o l hl => ?_, zt, lt⟩
  · simp only [St.ren, look_mapTm, Option.map_eq_some_iff] at hx
    obtain ⟨x', hx', rfl⟩ := hx
    exact (h.tm t x' hx').map fun a y ha hy => one a (List.mem_append_left _ (List.mem_flatMap.2 ⟨_, mem_of_look hx', ha⟩)) y hy
  · have e : (A.bx.map fun p => (g p.1, p.2.map (renAV f g))) = (A.bx.map fun p => (p.1, p.2.map (renAV f g))).map fun p => (g p.1, p.2) := by simp [List.map_map]
    have hl' : look b ((A.bx.map fun p => (p.1, p.2.map (renAV f g))).map fun p => (g p.1, p.2)) = some l := by rw [← e]; exact hl
    obtain ⟨b0, rfl, hl0⟩ := look_ren (fun p hp q hq he => by
      simp only [List.mem_map] at hp hq
      obtain ⟨p', hp', rfl⟩ := hp
      obtain ⟨q', hq', rfl⟩ := hq
      exact gi p' hp' q' hq' he) hl'
    have hl1 : look b0 (mapBx (renAV f g) A.bx) = some l := hl0
    rw [look_mapBx, Option.map_eq_some_iff] at hl1
    obtain ⟨l0, hl2, rfl⟩ := hl1
    obtain ⟨cs, e', h1, h2, h3⟩ := h.bx b0 l0 hl2
    obtain ⟨q1, q2⟩ := hB b0 (.inr ⟨l0, hl2⟩)
    exact ⟨cs, e', by rw [q1]; exact h1, by rw [q1]; exact q2 h2, h3.map fun a y ha hy => one a (List.mem_append_right _ (List.mem_flatMap.2 ⟨_, mem_of_look hl2, ha⟩)) y hy⟩
  · obtain ⟨o0, rfl, hl0⟩ := look_ren fi hl
    obtain ⟨q1, q2, q3, q4⟩ := hO o0 (.inr ⟨l, hl0⟩)
    obtain ⟨d1, hob⟩ := h.ob o0 l hl0
    refine ⟨d1, ?_⟩
    rcases hob with ⟨e1, e2⟩ | ⟨e1, e2, blk, off, cap, cs, e, e3, e4, e5, e6, e7, e8⟩
    · exact .inl ⟨e1.imp fun ad h => ⟨q1.trans h.1, h.2⟩, e2⟩
    · refine .inr ⟨e1, q2.trans e2, blk, off, cap, cs, e, q1.trans e3, e4, (q4 blk).1 e5, e6, e7, fun k r hk j x hj => ?_⟩
      obtain ⟨u, hu, hx⟩ := e8 k r hk j x hj
      exact ⟨u, hu, hx.re (q3 k) fun b hb _ => ⟨rfl, (q4 b).2 k hb⟩⟩

theorem pos_mem {n : Nat} : ∀ {l : List Nat} {k : Nat}, n ∈ l → ∃ i, pos n l k = k + i ∧ l[i]? = some n
  | m :: l, k, h => by
    by_cases e : m = n
    · exact ⟨0, by simp [pos, e], by simp [e]⟩
    · rcases List.mem_cons.1 h with h | h
      · exact absurd h.symm e
      · obtain ⟨i, h1, h2⟩ := pos_mem (k := k + 1) h
        exact ⟨i + 1, by simp only [pos]; rw [if_neg e, h1]; omega, by simpa using h2⟩
theorem pos_inj {m n : Nat} {l : List Nat} (hm : m ∈ l) (hn : n ∈ l) (h : pos m l 0 = pos n l 0) : m = n := by
  obtain ⟨i, h1, h2⟩ := pos_mem (k := 0) hm
  obtain ⟨j, h3, h4⟩ := pos_mem (k := 0) hn
  have : i = j := by omega
  subst this
  rw [h2] at h4
  cases h4; rfl
theorem pos_get {n : Nat} {l : List Nat} (h : n ∈ l) : l.getD (pos n l 0) 0 = n := by
  obtain ⟨i, h1, h2⟩ := pos_mem (k := 0) h
  rw [h1, Nat.zero_add, List.getD_eq_getElem?_getD, h2]; rfl

/-- objects and boxes by their places in two lists -/
theorem Rel.renPos {γ : Gh} {A : St} {tmps : Array Value} {w : World} (h : Rel γ A tmps w) (sel bsel : List Nat) (ho : ∀ a ∈ A.avs, ∀ o ∈ a.obs, o ∈ sel) (hoo : ∀ p ∈ A.ob, p.1 ∈ sel) (hb : ∀ a ∈ A.avs, ∀ b ∈ a.bxs, b ∈ bsel) (hbb : ∀ p ∈ A.bx, p.1 ∈ bsel) :
    ∃ γ', Rel γ' (A.ren (fun o => pos o sel 0) (fun b => pos b bsel 0)) tmps w ∧ (∀ b, γ.tg b = none → γ'.tg b = none) ∧ γ'.z = γ.z ∧ (∀ o ∈ sel, γ'.hd (pos o sel 0) = γ.hd o) ∧ ∀ b ∈ bsel, γ'.bb (pos b bsel 0) = γ.bb b := by
  let tg' : Nat → Option Tag := fun b => match γ.tg b with | some (.ob o) => some (.ob (pos o sel 0)) | some (.ne o i) => some (.ne (pos o sel 0) i) | some (.bx x) => some (.bx (pos x bsel 0)) | none => none
  let γ' : Gh := ⟨fun m => γ.hd (sel.getD m 0), fun m => γ.sz (sel.getD m 0), fun m i => γ.nh (sel.getD m 0) i, fun m i => γ.ns (sel.getD m 0) i, fun m => γ.bb (bsel.getD m 0), tg', γ.z⟩
  have tg0 : ∀ b, γ.tg b = none → γ'.tg b = none := fun b e => by
    show (match γ.tg b with | some (.ob o) => some (Tag.ob (pos o sel 0)) | some (.ne o i) => some (.ne (pos o sel 0) i) | some (.bx x) => some (.bx (pos x bsel 0)) | none => none) = none
    rw [e]
  refine ⟨γ', h.ren (fun o hyp => ?_) (fun b hyp => ?_) (fun _ hz => hz) (fun b hz => tg0 b (h.zt b hz)) (fun b hyp => h.lt b ?_) (fun p hp q hq e => pos_inj (hoo p hp) (hoo q hq) e) (fun p hp q hq e => pos_inj (hbb p hp) (hbb q hq) e), tg0, rfl,
    fun o ho => by show γ.hd (sel.getD (pos o sel 0) 0) = _; rw [pos_get ho], fun b hb => by show γ.bb (bsel.getD (pos b bsel 0) 0) = _; rw [pos_get hb]⟩
  · have hmem : o ∈ sel := by
      rcases hyp with ⟨a, ha, hoa⟩ | ⟨l, hl⟩
      · exact ho a ha o hoa
      · exact hoo _ (mem_of_look hl)
    have e := pos_get hmem
    refine ⟨by show γ.hd _ = _; rw [e], by show γ.sz _ = _; rw [e], fun i => ⟨by show γ.nh _ i = _; rw [e], by show γ.ns _ i = _; rw [e]⟩, fun b => ⟨fun ht => ?_, fun i ht => ?_⟩⟩
    · show (match γ.tg b with | some (.ob o) => some (Tag.ob (pos o sel 0)) | some (.ne o i) => some (.ne (pos o sel 0) i) | some (.bx x) => some (.bx (pos x bsel 0)) | none => none) = _
      rw [ht]
    · show (match γ.tg b with | some (.ob o) => some (Tag.ob (pos o sel 0)) | some (.ne o i) => some (.ne (pos o sel 0) i) | some (.bx x) => some (.bx (pos x bsel 0)) | none => none) = _
      rw [ht]
  · have hmem : b ∈ bsel := by
      rcases hyp with ⟨a, ha, hba⟩ | ⟨l, hl⟩
      · exact hb a ha b hba
      · exact hbb _ (mem_of_look hl)
    refine ⟨by show γ.bb _ = _; rw [pos_get hmem], fun ht => ?_⟩
    show (match γ.tg (γ.bb b) with | some (.ob o) => some (Tag.ob (pos o sel 0)) | some (.ne o i) => some (.ne (pos o sel 0) i) | some (.bx x) => some (.bx (pos x bsel 0)) | none => none) = _
    rw [ht]
  · rcases hyp with hz | ht
    · exact .inl hz
    · exact .inr fun e => ht (tg0 b e)

/-- a slice with no elements can be read anywhere -/
theorem look_pick {α : Type} {l : List (Nat × α)} {x : α} {n : Nat} : ∀ {ns : List Nat}, look n (pick l ns) = some x → n ∈ ns ∧ look n l = some x
  | [], h => by simp [pick, look] at h
  | m :: ns, h => by
    simp only [pick] at h
    split at h
    · rename_i a ha
      simp only [look] at h
      split at h
      · rename_i e; cases h; subst e; exact ⟨by simp, ha⟩
      · obtain ⟨h1, h2⟩ := look_pick h; exact ⟨List.mem_cons_of_mem _ h1, h2⟩
    · obtain ⟨h1, h2⟩ := look_pick h; exact ⟨List.mem_cons_of_mem _ h1, h2⟩
theorem mem_pick {α : Type} {l : List (Nat × α)} {p : Nat × α} : ∀ {ns : List Nat}, p ∈ pick l ns → p.1 ∈ ns ∧ look p.1 l = some p.2
  | [], h => by simp [pick] at h
  | m :: ns, h => by
    simp only [pick] at h
    split at h
    · rename_i a ha
      rcases List.mem_cons.1 h with rfl | h
      · exact ⟨by simp, ha⟩
      · obtain ⟨h1, h2⟩ := mem_pick h; exact ⟨List.mem_cons_of_mem _ h1, h2⟩
    · obtain ⟨h1, h2⟩ := mem_pick h; exact ⟨List.mem_cons_of_mem _ h1, h2⟩
end Go.Tree
namespace Go.Tree
set_option linter.unusedVariables false
set_option linter.unusedSimpArgs false
set_option linter.constructorNameAsVariable false

theorem look_enum {α : Type} : ∀ {l : List α} {k n : Nat} {x : α}, look n (enum k l) = some x → ∃ i, n = k + i ∧ l[i]? = some x
  | [], k, n, x, h => by simp [enum, look] at h
  | a :: l, k, n, x, h => by
    simp only [enum, look] at h
    split at h
    · rename_i e; cases h; exact ⟨0, by omega, rfl⟩
    · obtain ⟨i, h1, h2⟩ := look_enum h
      exact ⟨i + 1, by omega, by simpa using h2⟩

section
variable {γ : Gh} {A : St} {w : World} {a : Act}

theorem avC_rep {sel : List Nat} {Z : Nat → Prop} {v : AV} {u : Value} (hR : Rel γ A a.tmps w) (hv : AVrep γ w v u) (hu : u.oneCell' = true) (hZ : ∀ b, γ.inR (srcs v) b → (∀ o ∈ srcs v, o ∉ sel) → Z b) : CAt w Z (avC A sel v) u := by
  unfold avC
  split
  · rename_i x
    split
    · rename_i h1; exact ⟨hv, single_one h1⟩
    · exact hu
  · split
    · exact hu
    · rename_i hs
      have hs' : ∀ o ∈ srcs v, o ∉ sel := fun o ho hs'' => hs (List.any_eq_true.2 ⟨o, ho, by simpa using hs''⟩)
      split
      · rename_i l hl
        split
        · rename_i rows hlow
          exact ((data_rep hR hv hl).rows hlow).mono fun b hb => hZ b hb hs'
        · exact hu
      · exact hu

theorem boxC_rep {sel : List Nat} {Z : Nat → Prop} {b off : Nat} (hR : Rel γ A a.tmps w) (hZb : γ.tg (γ.bb b) = some (.bx b) → Z (γ.bb b)) (hZ : ∀ l, look b A.bx = some l → ∀ v ∈ l, ∀ c, γ.inR (srcs v) c → (∀ o ∈ srcs v, o ∉ sel) → Z c) :
    RadAt w Z (.pointer (some ⟨γ.bb b, off, none⟩)) (boxC A sel b off) := by
  refine ⟨γ.bb b, off, rfl, fun hne => ?_, fun j x hj => ?_⟩
  · unfold boxC at hne
    split at hne
    · rename_i l hl
      obtain ⟨_, _, _, h2, _⟩ := hR.bx b l hl
      exact hZb h2
    · exact absurd rfl hne
  · unfold boxC at hj
    split at hj
    · rename_i l hl
      obtain ⟨cs, e, h1, h2, h3⟩ := hR.bx b l hl
      simp only [List.getElem?_map, List.getElem?_drop, Option.map_eq_some_iff] at hj
      obtain ⟨v, hv, rfl⟩ := hj
      obtain ⟨u, hu, hr⟩ := h3.get hv
      refine ⟨u, by rw [cell_cells h1]; simpa using hu, avC_rep hR hr.1 hr.2 (hZ l hl v (List.mem_of_getElem? hv))⟩
    · simp at hj

theorem exp_rep {sel bsel LO LB : List Nat} {γ1 : Gh} {v : AV} {y : Value} (hR : Rel γ A a.tmps w) (hv : AVrep γ w v y) (hLO : ∀ o ∈ lentAV A v, o ∈ LO) (hLB : ∀ b ∈ v.bxs, b ∈ LB)
    (hd : γ1.hd = γ.hd) (bb : γ1.bb = γ.bb) (hz : ∀ b, γ.z b → γ1.z b) (hzo : ∀ o ∈ LO, o ∉ sel → ∀ b, γ.inOb o b → γ1.z b) (hzb : ∀ x ∈ LB, x ∉ bsel → ∀ b, γ.tg b = some (.bx x) → γ1.z b) : AVrep γ1 w (expAV A sel bsel v) y := by
  have rdz : ∀ {s : List Nat}, (∀ o ∈ s, o ∈ LO) → (∀ o ∈ s, o ∉ sel) → ∀ b, γ.inR s b → γ1.z b := fun h1 h2 b hb => by
    rcases hb with hb | ⟨o, ho, hb⟩
    · exact hz b hb
    · exact hzo o (h1 o ho) (h2 o ho) b hb
  cases v with
  | unk => trivial
  | v x => exact hv
  | nil => exact hv
  | rd s l =>
    unfold expAV
    dsimp only
    split
    · trivial
    · rename_i hs
      exact SlAt.mono hv fun b hb => .inl (rdz (by simpa [lentAV] using hLO) (fun o ho hs' => hs (List.any_eq_true.2 ⟨o, ho, by simpa using hs'⟩)) b hb)
  | rad s c =>
    unfold expAV
    dsimp only
    split
    · trivial
    · rename_i hs
      exact RadAt.move hv fun b hb _ => ⟨rfl, .inl (rdz (by simpa [lentAV] using hLO) (fun o ho hs' => hs (List.any_eq_true.2 ⟨o, ho, by simpa using hs'⟩)) b hb)⟩
  | own o =>
    unfold expAV
    dsimp only
    split
    · exact ⟨by rw [hd]; exact hv.1, hv.2⟩
    · rename_i hs
      split
      · rename_i l hl
        exact (data_rep hR hv hl).mono fun b hb => .inl (rdz (s := [o]) (by simpa [lentAV] using hLO) (by simpa using hs) b hb)
      · trivial
  | nest o i =>
    unfold expAV
    dsimp only
    split
    · trivial
    · rename_i hs
      split
      · rename_i l hl
        exact (data_rep hR hv hl).mono fun b hb => .inl (rdz (s := [o]) (by simpa [lentAV] using hLO) (by simpa using hs) b hb)
      · trivial
  | box b off =>
    unfold expAV
    dsimp only
    split
    · simp only [AVrep] at *; rw [bb]; exact hv
    · rename_i hs
      have hv : y = _ := hv
      subst hv
      have := boxC_rep (sel := sel) (Z := γ1.inR []) (off := off) hR (fun ht => .inl (hzb b (hLB b (by simp [AV.bxs])) (by simpa using hs) _ ht)) (fun l hl v hvl c hc hns => .inl (rdz (s := srcs v) (fun o ho => hLO o (by
        simp only [lentAV, hl, Option.getD_some]
        exact List.mem_flatMap.2 ⟨v, hvl, ho⟩)) hns c hc))
      exact this
  | adr o i f => trivial
  | adn o i j f => trivial
  | fn f caps =>
    unfold expAV
    dsimp only
    split
    · trivial
    · rename_i hs
      refine ⟨caps.map fun b => Value.pointer (some ⟨γ.bb b, 0, none⟩), hv, ?_⟩
      have hs' : ∀ b ∈ caps, b ∉ bsel := fun b hb hs' => hs (List.any_eq_true.2 ⟨b, hb, by simpa using hs'⟩)
      have : ∀ l : List Nat, (∀ b ∈ l, b ∈ caps) → F2 (fun c u => RadAt w γ1.z u c) (l.map fun b => boxC A sel b 0) (l.map fun b => Value.pointer (some ⟨γ.bb b, 0, none⟩)) := by
        intro l
        induction l with
        | nil => intro _; exact .nil
        | cons b l ih =>
          intro hl
          have hbc := hl b (by simp)
          refine .cons ?_ (ih fun x hx => hl x (by simp [hx]))
          exact boxC_rep (sel := sel) (Z := γ1.z) (off := 0) hR (fun ht => hzb b (hLB b (by simpa [AV.bxs] using hbc)) (hs' b hbc) _ ht) (fun l hl v hvl c hc hns => rdz (s := srcs v) (fun o ho => hLO o (by
            simp only [lentAV]
            refine List.mem_flatMap.2 ⟨b, hbc, ?_⟩
            rw [hl, Option.getD_some]
            exact List.mem_flatMap.2 ⟨v, hvl, ho⟩)) hns c hc)
      exact this caps fun _ h => h
  | fnr f caps =>
    obtain ⟨vs, e, h⟩ := hv
    exact ⟨vs, e, h.radmove fun b hb _ => ⟨rfl, hz b hb⟩⟩

/-- what an exported value may speak of -/
theorem exp_obs {sel bsel : List Nat} {v : AV} : (∀ o ∈ (expAV A sel bsel v).obs, o ∈ sel) ∧ ∀ b ∈ (expAV A sel bsel v).bxs, b ∈ bsel := by
  cases v <;> simp only [expAV] <;> (try split) <;> (try split) <;> simp_all [AV.obs, AV.bxs]

theorem Rel.exported {sel bsel LO LB : List Nat} {tvs : List TV} {vs : List Value} (hR : Rel γ A a.tmps w) (hv : F2 (fun x y => TVrep γ w x y) tvs vs)
    (hL : ∀ v, (∃ x ∈ tvs, v ∈ x.avs) ∨ (∃ b ∈ bsel, ∃ l, look b A.bx = some l ∧ v ∈ l) → (∀ o ∈ lentAV A v, o ∈ LO) ∧ ∀ b ∈ v.bxs, b ∈ LB) :
    ∃ γ1, Rel γ1 (A.pack sel bsel tvs) vs.toArray w ∧ (∀ b, γ1.tg b ≠ none → (∃ o ∈ sel, γ.inOb o b) ∨ ∃ x ∈ bsel, γ.tg b = some (.bx x)) ∧ (∀ b, γ1.z b → γ.z b ∨ (∃ o ∈ LO, o ∉ sel ∧ γ.inOb o b) ∨ ∃ x ∈ LB, x ∉ bsel ∧ γ.tg b = some (.bx x)) ∧
      (∀ o ∈ sel, γ1.hd (pos o sel 0) = γ.hd o) ∧ ∀ b ∈ bsel, γ1.bb (pos b bsel 0) = γ.bb b := by
  let tg' : Nat → Option Tag := fun b => match γ.tg b with | some (.ob o) => if sel.contains o then some (.ob o) else none | some (.ne o i) => if sel.contains o then some (.ne o i) else none | some (.bx x) => if bsel.contains x then some (.bx x) else none | none => none
  let γ1 : Gh := ⟨γ.hd, γ.sz, γ.nh, γ.ns, γ.bb, tg', fun b => γ.z b ∨ (∃ o ∈ LO, o ∉ sel ∧ γ.inOb o b) ∨ ∃ x ∈ LB, x ∉ bsel ∧ γ.tg b = some (.bx x)⟩
  have hexp : ∀ v y, ((∃ x ∈ tvs, v ∈ x.avs) ∨ (∃ b ∈ bsel, ∃ l, look b A.bx = some l ∧ v ∈ l)) → AVrep γ w v y → AVrep γ1 w (expAV A sel bsel v) y := fun v y hin hvy =>
    exp_rep hR hvy (hL v hin).1 (hL v hin).2 rfl rfl (fun b hb => .inl hb) (fun o ho hs b hb => .inr (.inl ⟨o, ho, hs, hb⟩)) (fun x hx hs b hb => .inr (.inr ⟨x, hx, hs, hb⟩))
  have tgn : ∀ b, tg' b ≠ none → (∃ o ∈ sel, γ.inOb o b) ∨ ∃ x ∈ bsel, γ.tg b = some (.bx x) := fun b hb => by
    simp only [tg'] at hb
    cases ht : γ.tg b with
    | none => rw [ht] at hb; exact absurd rfl hb
    | some t => cases t with
      | ob o =>
        rw [ht] at hb
        dsimp only at hb
        split at hb
        · rename_i hs; exact .inl ⟨o, by simpa using hs, .inl ht⟩
        · exact absurd rfl hb
      | ne o i =>
        rw [ht] at hb
        dsimp only at hb
        split at hb
        · rename_i hs; exact .inl ⟨o, by simpa using hs, .inr ⟨i, ht⟩⟩
        · exact absurd rfl hb
      | bx x =>
        rw [ht] at hb
        dsimp only at hb
        split at hb
        · rename_i hs; exact .inr ⟨x, by simpa using hs, rfl⟩
        · exact absurd rfl hb
  have tgo : ∀ o ∈ sel, ∀ b, (γ.tg b = some (.ob o) → tg' b = some (.ob o)) ∧ ∀ i, γ.tg b = some (.ne o i) → tg' b = some (.ne o i) := fun o ho b => ⟨fun ht => by simp only [tg', ht]; rw [if_pos (by simpa using ho)], fun i ht => by simp only [tg', ht]; rw [if_pos (by simpa using ho)]⟩
  let A1 : St := { tm := enum 0 (tvs.map (TV.map (expAV A sel bsel))), bx := (pick A.bx bsel).map fun p => (p.1, p.2.map (expAV A sel bsel)), ob := pick A.ob sel }
  have bxl : ∀ b l, look b A1.bx = some l → ∃ l0, look b A.bx = some l0 ∧ b ∈ bsel ∧ l = l0.map (expAV A sel bsel) := fun b l hl => by
    have hl1 : look b (mapBx (expAV A sel bsel) (pick A.bx bsel)) = some l := hl
    rw [look_mapBx, Option.map_eq_some_iff] at hl1
    obtain ⟨l0, h1, rfl⟩ := hl1
    obtain ⟨h2, h3⟩ := look_pick h1
    exact ⟨l0, h3, h2, rfl⟩
  have R1 : Rel γ1 A1 vs.toArray w := by
    refine ⟨fun t x hx => ?_, fun b l hl => ?_, fun o l hl => ?_, fun b hz => ?_, fun b hb => ?_⟩
    · obtain ⟨i, rfl, hi⟩ := look_enum hx
      simp only [List.getElem?_map, Option.map_eq_some_iff] at hi
      obtain ⟨x0, hx0, rfl⟩ := hi
      obtain ⟨y, hy, hr⟩ := hv.get hx0
      have : vs.toArray.getD (0 + i) undef = y := by simp [hy]
      rw [this]
      exact hr.map fun v u hvx hvu => hexp v u (.inl ⟨x0, List.mem_of_getElem? hx0, hvx⟩) hvu
    · obtain ⟨l0, h1, h2, rfl⟩ := bxl b l hl
      obtain ⟨cs, e, q1, q2, q3⟩ := hR.bx b l0 h1
      exact ⟨cs, e, q1, by show tg' (γ.bb b) = _; simp only [tg', q2]; rw [if_pos (by simpa using h2)], q3.map fun v u hvl hvu => hexp v u (.inr ⟨b, h2, l0, h1, hvl⟩) hvu⟩
    · obtain ⟨h1, h2⟩ := look_pick hl
      obtain ⟨d1, hob⟩ := hR.ob o l h2
      refine ⟨d1, ?_⟩
      rcases hob with ⟨e1, e2⟩ | ⟨e1, e2, blk, off, cap, cs, e, e3, e4, e5, e6, e7, e8⟩
      · exact .inl ⟨e1, e2⟩
      · exact .inr ⟨e1, e2, blk, off, cap, cs, e, e3, e4, (tgo o h1 blk).1 e5, e6, e7, fun k r hk j x hj => by
          obtain ⟨u, hu, hx⟩ := e8 k r hk j x hj
          exact ⟨u, hu, hx.re ⟨rfl, rfl⟩ fun b hb _ => ⟨rfl, (tgo o h1 b).2 k hb⟩⟩⟩
    · refine Classical.byContradiction fun hne => ?_
      rcases tgn b hne with ⟨o, ho, hi⟩ | ⟨x, hx, ht⟩
      · rcases hz with hz | ⟨o', ho', hs, hi'⟩ | ⟨x', hx', hs, ht'⟩
        · have := hR.zt b hz
          rcases hi with hi | ⟨i, hi⟩ <;> rw [this] at hi <;> cases hi
        · exact hs ((inOb_uniq hi' hi) ▸ ho)
        · rcases hi with hi | ⟨i, hi⟩ <;> rw [ht'] at hi <;> cases hi
      · rcases hz with hz | ⟨o', ho', hs, hi'⟩ | ⟨x', hx', hs, ht'⟩
        · rw [hR.zt b hz] at ht; cases ht
        · rcases hi' with hi | ⟨i, hi⟩ <;> rw [ht] at hi <;> cases hi
        · rw [ht] at ht'; cases ht'; exact hs hx
    · rcases hb with hz | hb
      · rcases hz with hz | ⟨o', ho', hs, hi'⟩ | ⟨x', hx', hs, ht'⟩
        · exact hR.lt b (.inl hz)
        · exact hR.lt b (.inr fun e => by rcases hi' with hi | ⟨i, hi⟩ <;> rw [e] at hi <;> cases hi)
        · exact hR.lt b (.inr fun e => by rw [e] at ht'; cases ht')
      · exact hR.lt b (.inr fun e => hb (by show tg' b = none; simp only [tg', e]))
  have av1 : ∀ v ∈ A1.avs, ∃ v0, v = expAV A sel bsel v0 := fun v hv => by
    simp only [St.avs, List.mem_append, List.mem_flatMap] at hv
    rcases hv with ⟨p, hp, hv⟩ | ⟨p, hp, hv⟩
    · have : ∃ x ∈ tvs, p.2 = x.map (expAV A sel bsel) := by
        have : ∀ (l : List TV) k, p ∈ enum k (l.map (TV.map (expAV A sel bsel))) → ∃ x ∈ l, p.2 = x.map (expAV A sel bsel) := by
          intro l
          induction l with
          | nil => intro k h; simp [enum] at h
          | cons x l ih =>
            intro k h
            simp only [List.map_cons, enum, List.mem_cons] at h
            rcases h with rfl | h
            · exact ⟨x, by simp, rfl⟩
            · obtain ⟨x', h1, h2⟩ := ih _ h; exact ⟨x', by simp [h1], h2⟩
        exact this tvs 0 hp
      obtain ⟨x, _, e⟩ := this
      rw [e] at hv
      cases x with
      | c b => simp [TV.map, TV.avs] at hv; exact ⟨b, hv⟩
      | agg l => simp [TV.map, TV.avs] at hv; obtain ⟨b, _, e⟩ := hv; exact ⟨b, e.symm⟩
      | tup l =>
        simp only [TV.map, TV.avs, List.mem_flatMap, List.mem_map] at hv
        obtain ⟨p, ⟨q', _, rfl⟩, hp⟩ := hv
        simp only [List.mem_map] at hp
        obtain ⟨b, _, e⟩ := hp
        exact ⟨b, e.symm⟩
    · simp only [A1, List.mem_map] at hp
      obtain ⟨q, _, rfl⟩ := hp
      simp only [List.mem_map] at hv
      obtain ⟨b, _, e⟩ := hv
      exact ⟨b, e.symm⟩
  obtain ⟨γ2, k1, k2, k3, k4, k5⟩ := R1.renPos sel bsel (fun v hv o ho => by obtain ⟨v0, rfl⟩ := av1 v hv; exact exp_obs.1 o ho) (fun p hp => (mem_pick hp).1) (fun v hv b hb => by obtain ⟨v0, rfl⟩ := av1 v hv; exact exp_obs.2 b hb)
    (fun p hp => by
      simp only [A1, List.mem_map] at hp
      obtain ⟨q, hq, rfl⟩ := hp
      exact (mem_pick hq).1)
  exact ⟨γ2, k1, fun b hb => tgn b fun e => hb (k2 b e), fun b hb => by rw [k3] at hb; exact hb, k4, k5⟩
end
end Go.Tree
namespace Go.Tree
set_option linter.unusedVariables false
set_option linter.unusedSimpArgs false
set_option linter.constructorNameAsVariable false

theorem look_filter {α : Type} (p : Nat → Bool) (n : Nat) : ∀ l : List (Nat × α), look n (l.filter fun q => p q.1) = if p n then look n l else none
  | [] => by simp [look]
  | (m, a) :: l => by
    by_cases hm : p m = true
    · rw [List.filter_cons_of_pos (by simpa using hm)]
      simp only [look]
      split
      · rename_i e; subst e; simp [hm]
      · exact look_filter p n l
    · rw [List.filter_cons_of_neg (by simpa using hm), look_filter p n l]
      simp only [look]
      by_cases e : m = n
      · subst e; simp [hm]
      · rw [if_neg e]

theorem Rel.reduce {γ A tmps w} (h : Rel γ A tmps w) (ks bk kb bbk : List Nat) : Rel γ (A.reduce ks bk kb bbk) tmps w where
  tm := (h.map (forgets_killIf (gone ks bk kb bbk))).tm
  bx b l hl := by
    have hl : look b ((mapBx (killIf (gone ks bk kb bbk)) A.bx).filter fun p => !kb.contains p.1) = some l := hl
    rw [look_filter fun n => !kb.contains n] at hl
    split at hl
    · exact (h.map (forgets_killIf (gone ks bk kb bbk))).bx b l hl
    · cases hl
  ob o l hl := by
    have hl : look o (A.ob.filter fun p => !ks.contains p.1) = some l := hl
    rw [look_filter fun n => !ks.contains n] at hl
    split at hl
    · exact h.ob o l hl
    · cases hl
  zt := h.zt
  lt := h.lt

theorem reduce_avs {A : St} {ks bk kb bbk : List Nat} {a : AV} (h : a ∈ (A.reduce ks bk kb bbk).avs) : gone ks bk kb bbk a = false := by
  have hk : ∀ b, gone ks bk kb bbk (killIf (gone ks bk kb bbk) b) = false := fun b => killIf_not (by simp [gone, AV.obs, AV.bxs])
  simp only [St.avs, St.reduce, List.mem_append, List.mem_flatMap] at h
  rcases h with ⟨p, hp, ha⟩ | ⟨p, hp, ha⟩
  · simp only [mapTm, List.mem_map] at hp
    obtain ⟨q, _, rfl⟩ := hp
    have : ∃ b, a = killIf (gone ks bk kb bbk) b := by
      revert ha
      cases q.2 with
      | c x => intro ha; simp [TV.map, TV.avs] at ha; exact ⟨x, ha⟩
      | agg l => intro ha; simp [TV.map, TV.avs] at ha; obtain ⟨b, _, e⟩ := ha; exact ⟨b, e.symm⟩
      | tup l =>
        intro ha
        simp only [TV.map, TV.avs, List.mem_flatMap, List.mem_map] at ha
        obtain ⟨p, ⟨q', _, rfl⟩, hp⟩ := ha
        simp only [List.mem_map] at hp
        obtain ⟨b, _, e⟩ := hp
        exact ⟨b, e.symm⟩
    obtain ⟨b, rfl⟩ := this
    exact hk b
  · simp only [mapBx, List.mem_filter, List.mem_map] at hp
    obtain ⟨⟨q, _, rfl⟩, _⟩ := hp
    simp only [List.mem_map] at ha
    obtain ⟨b, _, rfl⟩ := ha
    exact hk b
theorem reduce_ob {A : St} {ks bk kb bbk : List Nat} {o : Nat} {l : Sl} (h : look o (A.reduce ks bk kb bbk).ob = some l) : o ∉ ks ∧ look o A.ob = some l := by
  have hl : look o (A.ob.filter fun p => !ks.contains p.1) = some l := h
  rw [look_filter fun n => !ks.contains n] at hl
  split at hl
  · rename_i hc; exact ⟨by simpa using hc, hl⟩
  · cases hl
theorem reduce_bx {A : St} {ks bk kb bbk : List Nat} {b : Nat} {l : List AV} (h : look b (A.reduce ks bk kb bbk).bx = some l) : b ∉ kb ∧ ∃ l', look b A.bx = some l' := by
  have hl : look b ((mapBx (killIf (gone ks bk kb bbk)) A.bx).filter fun p => !kb.contains p.1) = some l := h
  rw [look_filter fun n => !kb.contains n] at hl
  split at hl
  · rename_i hc
    rw [look_mapBx, Option.map_eq_some_iff] at hl
    obtain ⟨l', h1, _⟩ := hl
    exact ⟨by simpa using hc, l', h1⟩
  · cases hl

section
variable {γ : Gh} {A : St} {w : World} {a : Act}
/-- objects that are given up: their memory stays -/
theorem Rel.freezes (hR : Rel γ A a.tmps w) (L : List Nat) : ∃ γ1, Rel γ1 (A.freezes L) a.tmps w ∧ γ1.hd = γ.hd ∧ γ1.sz = γ.sz ∧ γ1.nh = γ.nh ∧ γ1.ns = γ.ns ∧ γ1.bb = γ.bb ∧
    (∀ b, γ1.z b ↔ γ.z b ∨ ∃ o ∈ L, γ.inOb o b) ∧ (∀ b, (γ1.tg b = γ.tg b ∧ ∀ o ∈ L, ¬ γ.inOb o b) ∨ (γ1.tg b = none ∧ ∃ o ∈ L, γ.inOb o b)) := by
  let tg' : Nat → Option Tag := fun b => match γ.tg b with | some (.ob o) => if L.contains o then none else some (.ob o) | some (.ne o i) => if L.contains o then none else some (.ne o i) | t => t
  let γ1 : Gh := ⟨γ.hd, γ.sz, γ.nh, γ.ns, γ.bb, tg', fun b => γ.z b ∨ ∃ o ∈ L, γ.inOb o b⟩
  have tgs : ∀ b, (tg' b = γ.tg b ∧ ∀ o ∈ L, ¬ γ.inOb o b) ∨ (tg' b = none ∧ ∃ o ∈ L, γ.inOb o b) := fun b => by
    simp only [tg', Gh.inOb]
    cases ht : γ.tg b with
    | none => exact .inl ⟨rfl, fun o _ => by simp⟩
    | some t => cases t with
      | ob p =>
        by_cases hp : p ∈ L
        · exact .inr ⟨by simp [hp], p, hp, by simp⟩
        · exact .inl ⟨by simp [hp], fun o ho => by
            rintro (e | ⟨i, e⟩)
            · cases e; exact hp ho
            · cases e⟩
      | ne p i =>
        by_cases hp : p ∈ L
        · exact .inr ⟨by simp [hp], p, hp, by simp⟩
        · exact .inl ⟨by simp [hp], fun o ho => by
            rintro (e | ⟨i, e⟩)
            · cases e
            · cases e; exact hp ho⟩
      | bx x => exact .inl ⟨rfl, fun o _ => by simp⟩
  have tbx : ∀ b x, γ.tg b = some (.bx x) → tg' b = some (.bx x) := fun b x h => by simp only [tg', h]
  have keep : ∀ o, o ∉ L → ∀ b, γ.inOb o b → γ1.tg b = γ.tg b ∧ γ1.inOb o b := fun o ho b hb => by
    rcases tgs b with ⟨e, h⟩ | ⟨e, p, hp, h⟩
    · exact ⟨e, hb.imp (fun hb => e.trans hb) fun ⟨i, hb⟩ => ⟨i, e.trans hb⟩⟩
    · exact absurd (inOb_uniq hb h ▸ hp) ho
  have inR : ∀ (s : List Nat) b, γ.inR s b → γ1.inR (s.filter fun o => !L.contains o) b := fun s b hb => by
    rcases hb with hb | ⟨o, ho, hb⟩
    · exact .inl (.inl hb)
    · by_cases hL : o ∈ L
      · exact .inl (.inr ⟨o, hL, hb⟩)
      · exact .inr ⟨o, by simp [ho, hL], (keep o hL b hb).2⟩
  have dat : ∀ (v : AV) y l p, srcs v = [p] → p ∈ L → AVrep γ w v y → A.data v = some l → AVrep γ1 w (.rd [] l) y := fun v y l p hs hp hv hl => by
    have := data_rep hR hv hl
    refine SlAt.mono this fun b hb => .inl ?_
    rw [hs] at hb
    rcases hb with hb | ⟨o, ho, hb⟩
    · exact .inl hb
    · simp at ho; subst ho; exact .inr ⟨o, hp, hb⟩
  have one : ∀ v y, AVrep γ w v y → AVrep γ1 w (freezeAV A L v) y := fun v y hv => by
    cases v with
    | unk => trivial
    | v x => exact hv
    | nil => exact hv
    | rd s l => exact SlAt.mono hv (inR s)
    | rad s c => exact RadAt.move hv fun b hb _ => ⟨rfl, inR s b hb⟩
    | own o =>
      simp only [freezeAV]
      split
      · rename_i hc
        split
        · rename_i l hl; exact dat _ y l o rfl (by simpa using hc) hv hl
        · trivial
      · exact hv
    | nest o i =>
      simp only [freezeAV]
      split
      · rename_i hc
        split
        · rename_i l hl; exact dat _ y l o rfl (by simpa using hc) hv hl
        · trivial
      · exact hv
    | box b k => exact hv
    | adr o i k => simp only [freezeAV]; split <;> first | trivial | exact hv
    | adn o i j k => simp only [freezeAV]; split <;> first | trivial | exact hv
    | fn f caps => exact hv
    | fnr f caps =>
      obtain ⟨vs, e, hv⟩ := hv
      exact ⟨vs, e, hv.radmove fun b hb _ => ⟨rfl, .inl hb⟩⟩
  refine ⟨γ1, ⟨fun t x hx => ?_, fun b l hl => ?_, fun o l hl => ?_, fun b hz => ?_, fun b hb => ?_⟩, rfl, rfl, rfl, rfl, rfl, fun b => Iff.rfl, tgs⟩
  · simp only [St.freezes, St.map, look_mapTm, Option.map_eq_some_iff] at hx
    obtain ⟨x', hx', rfl⟩ := hx
    exact (hR.tm t x' hx').map fun v y _ hy => one v y hy
  · simp only [St.freezes, St.map, look_mapBx, Option.map_eq_some_iff] at hl
    obtain ⟨l', hl', rfl⟩ := hl
    obtain ⟨cs, e, h1, h2, h3⟩ := hR.bx b l' hl'
    exact ⟨cs, e, h1, tbx _ _ h2, h3.map fun v y _ hy => one v y hy⟩
  · have hl : look o (A.ob.filter fun p => !L.contains p.1) = some l := hl
    rw [look_filter fun n => !L.contains n] at hl
    split at hl
    · rename_i hc
      have hc : o ∉ L := by simpa using hc
      exact (hR.ob o l hl).move (fun b hb _ => ⟨rfl, (keep o hc b hb).1⟩) ⟨rfl, rfl⟩ fun i => ⟨rfl, rfl⟩
    · cases hl
  · rcases tgs b with ⟨e, h⟩ | ⟨e, _⟩
    · rcases hz with hz | ⟨o, ho, hb⟩
      · exact e.trans (hR.zt b hz)
      · exact absurd hb (h o ho)
    · exact e
  · refine hR.lt b ?_
    rcases hb with (hz | ⟨o, ho, hb⟩) | hb
    · exact .inl hz
    · exact .inr fun e => by rcases hb with hb | ⟨i, hb⟩ <;> rw [e] at hb <;> cases hb
    · refine .inr fun e => hb ?_
      rcases tgs b with ⟨e', _⟩ | ⟨e', _⟩
      · exact e'.trans e
      · exact e'
end

/-- what is closed shares nothing -/
theorem closed_rep {γ γ' : Gh} {w w' : World} {a : AV} {y : Value} (h : AVrep γ w a y) (hc : closedAV a = true) (hd : ∀ o ∈ a.obs, γ'.hd o = γ.hd o) (hb : ∀ b ∈ a.bxs, γ'.bb b = γ.bb b) : AVrep γ' w' a y := by
  cases a with
  | unk => trivial
  | v x => exact h
  | nil => exact h
  | own o => exact ⟨h.1.trans (hd o (by simp [AV.obs])).symm, h.2⟩
  | box b k => simp only [AVrep] at *; rw [hb b (by simp [AV.bxs])]; exact h
  | rd s l =>
    obtain ⟨n, d⟩ := l
    cases d with
    | nil =>
      obtain ⟨h1, a, cap, h2, h3, h4, h5⟩ := h
      exact ⟨h1, a, cap, h2, h3, h4, fun hne => absurd rfl hne⟩
    | cons r d => simp [closedAV] at hc
  | _ => simp [closedAV] at hc
end Go.Tree
namespace Go.Tree
set_option linter.unusedVariables false
set_option linter.unusedSimpArgs false
set_option linter.constructorNameAsVariable false

theorem nodup_inj {f : Nat → Nat} : ∀ {l : List Nat}, nodup (l.map f) = true → ∀ {a b : Nat}, a ∈ l → b ∈ l → f a = f b → a = b
  | [], _, a, b, h, _, _ => by simp at h
  | m :: l, hn, a, b, ha, hb, e => by
    simp only [List.map_cons, nodup, Bool.and_eq_true, Bool.not_eq_true'] at hn
    have hm : ∀ c ∈ l, f c ≠ f m := fun c hc he => by
      have : f m ∈ l.map f := List.mem_map.2 ⟨c, hc, he⟩
      have h1 := hn.1
      rw [List.contains_eq_mem, decide_eq_false_iff_not] at h1
      exact h1 this
    rcases List.mem_cons.1 ha with ea | ha'
    · rcases List.mem_cons.1 hb with eb | hb'
      · exact ea.trans eb.symm
      · exact absurd (e.symm.trans (by rw [ea])) (hm b hb')
    · rcases List.mem_cons.1 hb with eb | hb'
      · exact absurd (e.trans (by rw [eb])) (hm a ha')
      · exact nodup_inj hn.2 ha' hb' e
def inv (f : Nat → Nat) (l : List Nat) (m : Nat) : Nat := (l.find? fun n => f n == m).getD 0
theorem inv_eq {f : Nat → Nat} {l : List Nat} (hi : ∀ a b, a ∈ l → b ∈ l → f a = f b → a = b) {n : Nat} (h : n ∈ l) : inv f l (f n) = n := by
  unfold inv
  cases hf : l.find? fun k => f k == f n with
  | none =>
    have := List.find?_eq_none.1 hf n h
    simp at this
  | some k =>
    have h1 := List.find?_some hf
    have h2 := List.mem_of_find?_eq_some hf
    simp only [Option.getD_some]
    exact hi k n h2 h (by simpa using h1)

/-- other names for all objects and variables -/
theorem Rel.renInv {γ : Gh} {A : St} {tmps : Array Value} {w : World} (h : Rel γ A tmps w) (sel bsel : List Nat) {f g : Nat → Nat} (hf : ∀ a b, a ∈ sel → b ∈ sel → f a = f b → a = b) (hg : ∀ a b, a ∈ bsel → b ∈ bsel → g a = g b → a = b)
    (ho : ∀ a ∈ A.avs, ∀ o ∈ a.obs, o ∈ sel) (hoo : ∀ p ∈ A.ob, p.1 ∈ sel) (hb : ∀ a ∈ A.avs, ∀ b ∈ a.bxs, b ∈ bsel) (hbb : ∀ p ∈ A.bx, p.1 ∈ bsel) :
    ∃ γ', Rel γ' (A.ren f g) tmps w ∧ (∀ b, γ.tg b = none → γ'.tg b = none) ∧ γ'.z = γ.z ∧ (∀ o ∈ sel, γ'.hd (f o) = γ.hd o) ∧ ∀ b ∈ bsel, γ'.bb (g b) = γ.bb b := by
  let tg' : Nat → Option Tag := fun b => match γ.tg b with | some (.ob o) => some (.ob (f o)) | some (.ne o i) => some (.ne (f o) i) | some (.bx x) => some (.bx (g x)) | none => none
  let γ' : Gh := ⟨fun m => γ.hd (inv f sel m), fun m => γ.sz (inv f sel m), fun m i => γ.nh (inv f sel m) i, fun m i => γ.ns (inv f sel m) i, fun m => γ.bb (inv g bsel m), tg', γ.z⟩
  have tg0 : ∀ b, γ.tg b = none → γ'.tg b = none := fun b e => by
    show tg' b = none
    simp only [tg', e]
  refine ⟨γ', h.ren (fun o hyp => ?_) (fun b hyp => ?_) (fun _ hz => hz) (fun b hz => tg0 b (h.zt b hz)) (fun b hyp => h.lt b ?_) (fun p hp q hq e => hf _ _ (hoo p hp) (hoo q hq) e) (fun p hp q hq e => hg _ _ (hbb p hp) (hbb q hq) e), tg0, rfl,
    fun o ho => by show γ.hd (inv f sel (f o)) = _; rw [inv_eq hf ho], fun b hb => by show γ.bb (inv g bsel (g b)) = _; rw [inv_eq hg hb]⟩
  · have hmem : o ∈ sel := by
      rcases hyp with ⟨a, ha, hoa⟩ | ⟨l, hl⟩
      · exact ho a ha o hoa
      · exact hoo _ (mem_of_look hl)
    have e := inv_eq hf hmem
    refine ⟨by show γ.hd _ = _; rw [e], by show γ.sz _ = _; rw [e], fun i => ⟨by show γ.nh _ i = _; rw [e], by show γ.ns _ i = _; rw [e]⟩, fun b => ⟨fun ht => ?_, fun i ht => ?_⟩⟩
    · show tg' b = _
      simp only [tg', ht]
    · show tg' b = _
      simp only [tg', ht]
  · have hmem : b ∈ bsel := by
      rcases hyp with ⟨a, ha, hba⟩ | ⟨l, hl⟩
      · exact hb a ha b hba
      · exact hbb _ (mem_of_look hl)
    refine ⟨by show γ.bb _ = _; rw [inv_eq hg hmem], fun ht => ?_⟩
    show tg' (γ.bb b) = _
    simp only [tg', ht]
  · rcases hyp with hz | ht
    · exact .inl hz
    · exact .inr fun e => ht (tg0 b e)

theorem look_append {α : Type} (n : Nat) : ∀ l m : List (Nat × α), look n (l ++ m) = match look n l with | some x => some x | none => look n m
  | [], m => rfl
  | (k, a) :: l, m => by
    simp only [List.cons_append, look]
    split
    · rfl
    · exact look_append n l m

section
variable {γ γ1 γ2 : Gh} {A R : St} {tmps rv : Array Value} {w w' : World} {NS BNS : List Nat} {nc : Prop}
theorem Rel.merge (hA : Rel γ A tmps w) (hR : Rel γ2 R rv w') (hH : Hist γ1 w γ2 w')
    (h1t : ∀ b, γ1.tg b ≠ none → γ.tg b ≠ none) (h1z : nc → ∀ b, γ1.z b → γ.z b ∨ γ.tg b ≠ none)
    (cA : ∀ a ∈ A.avs, (∃ o, a = .own o ∧ o ∈ NS ∧ γ2.hd o = γ.hd o) ∨ ∀ o ∈ a.obs, o ∉ NS ∧ ∀ b, γ.inOb o b → γ1.tg b = none)
    (cB : ∀ a ∈ A.avs, ∀ b ∈ a.bxs, b ∈ BNS → γ2.bb b = γ.bb b)
    (oA : ∀ o l, look o A.ob = some l → o ∉ NS ∧ ∀ b, γ.inOb o b → γ1.tg b = none ∧ ¬ (nc ∧ γ2.z b))
    (bA : ∀ b l, look b A.bx = some l → b ∉ BNS ∧ (γ.tg (γ.bb b) = some (.bx b) → γ1.tg (γ.bb b) = none ∧ ¬ (nc ∧ γ2.z (γ.bb b))))
    (cR : ¬ nc → ∀ a ∈ R.avs, closedAV a = true) (nR : ∀ a ∈ R.avs, (∀ o ∈ a.obs, o ∈ NS) ∧ ∀ b ∈ a.bxs, b ∈ BNS)
    (oR : ∀ o l, look o R.ob = some l → o ∈ NS) (bR : ∀ b l, look b R.bx = some l → b ∈ BNS) :
    ∃ γ', Rel γ' { A with bx := R.bx ++ A.bx, ob := R.ob ++ A.ob } tmps w' ∧ (∀ t x, look t R.tm = some x → TVrep γ' w' x (rv.getD t undef)) ∧ ∀ γ0 w0, Hist γ0 w0 γ w → Hist γ0 w0 γ' w' := by
  classical
  let tg' : Nat → Option Tag := fun b => match γ2.tg b with | some t => some t | none => if γ1.tg b = none ∧ ¬ (nc ∧ γ2.z b) then γ.tg b else none
  let γ' : Gh := ⟨fun o => if o ∈ NS then γ2.hd o else γ.hd o, fun o => if o ∈ NS then γ2.sz o else γ.sz o, fun o => if o ∈ NS then γ2.nh o else γ.nh o, fun o => if o ∈ NS then γ2.ns o else γ.ns o,
    fun b => if b ∈ BNS then γ2.bb b else γ.bb b, tg', fun b => γ.z b ∨ (nc ∧ γ2.z b)⟩
  have old : ∀ b, b < w.heap.size → γ1.tg b = none → w'.heap[b]? = w.heap[b]? ∧ γ2.tg b = none := fun b hb h => hH.block b hb h
  have keep : ∀ b, b < w.heap.size → γ1.tg b = none → ¬ (nc ∧ γ2.z b) → tg' b = γ.tg b := fun b hb h1 h2 => by
    have h3 := (old b hb h1).2
    simp only [tg', h3]
    rw [if_pos ⟨h1, h2⟩]
  have z1 : ∀ b, γ.z b → γ1.tg b = none := fun b hz => Classical.byContradiction fun h => h1t b h (hA.zt b hz)
  have tg2 : ∀ b, γ2.tg b ≠ none → tg' b = γ2.tg b := fun b h => by
    cases h3 : γ2.tg b with
    | none => exact absurd h3 h
    | some t => simp only [tg', h3]
  have oneA : ∀ a ∈ A.avs, ∀ y, AVrep γ w a y → AVrep γ' w' a y := fun a ha y hy => by
    rcases cA a ha with ⟨o, rfl, ho, he⟩ | hc
    · refine ⟨?_, hy.2⟩
      show y = if o ∈ NS then γ2.hd o else γ.hd o
      rw [if_pos ho, he]
      exact hy.1
    · refine hy.move ⟨fun b hb hlt => ?_, fun b hz hlt => ⟨(old b hlt (z1 b hz)).1, .inl hz⟩, fun o ho => ?_, fun o i hn => ?_, fun b hb => ?_⟩
      · rcases hb with hz | ⟨o, ho, hb⟩
        · exact ⟨(old b hlt (z1 b hz)).1, .inl (.inl hz)⟩
        · have h1 := (hc o (reads_obs ho)).2 b hb
          refine ⟨(old b hlt h1).1, ?_⟩
          by_cases hn : nc ∧ γ2.z b
          · exact .inl (.inr hn)
          · have e := keep b hlt h1 hn
            exact .inr ⟨o, ho, hb.imp (fun hb => e.trans hb) fun ⟨i, hb⟩ => ⟨i, e.trans hb⟩⟩
      · have := (hc o ho).1
        exact ⟨if_neg this, if_neg this⟩
      · have := (hc o (nests_obs hn)).1
        exact ⟨by show (if o ∈ NS then γ2.nh o else γ.nh o) i = _; rw [if_neg this], by show (if o ∈ NS then γ2.ns o else γ.ns o) i = _; rw [if_neg this]⟩
      · show (if b ∈ BNS then γ2.bb b else γ.bb b) = _
        split
        · rename_i hb'; exact cB a ha b hb hb'
        · rfl
  have oneR : ∀ a ∈ R.avs, ∀ y, AVrep γ2 w' a y → AVrep γ' w' a y := fun a ha y hy => by
    obtain ⟨n1, n2⟩ := nR a ha
    by_cases hn : nc
    · refine hy.move ⟨fun b hb _ => ⟨rfl, ?_⟩, fun b hz _ => ⟨rfl, .inr ⟨hn, hz⟩⟩, fun o ho => ⟨if_pos (n1 o ho), if_pos (n1 o ho)⟩, fun o i hi => ?_, fun b hb => if_pos (n2 b hb)⟩
      · rcases hb with hz | ⟨o, ho, hb⟩
        · exact .inl (.inr ⟨hn, hz⟩)
        · refine .inr ⟨o, ho, ?_⟩
          rcases hb with hb | ⟨i, hb⟩
          · exact .inl ((tg2 b (by rw [hb]; simp)).trans hb)
          · exact .inr ⟨i, (tg2 b (by rw [hb]; simp)).trans hb⟩
      · have := n1 o (nests_obs hi)
        exact ⟨by show (if o ∈ NS then γ2.nh o else γ.nh o) i = _; rw [if_pos this], by show (if o ∈ NS then γ2.ns o else γ.ns o) i = _; rw [if_pos this]⟩
    · exact closed_rep hy (cR hn a ha) (fun o ho => if_pos (n1 o ho)) (fun b hb => if_pos (n2 b hb))
  refine ⟨γ', ⟨fun t x hx => ?_, fun b l hl => ?_, fun o l hl => ?_, fun b hz => ?_, fun b hb => ?_⟩, fun t x hx => ?_, fun γ0 w0 h0 => ?_⟩
  · exact (hA.tm t x hx).mono fun a y ha hy => oneA a (List.mem_append_left _ (List.mem_flatMap.2 ⟨_, mem_of_look hx, ha⟩)) y hy
  · have hl : look b (R.bx ++ A.bx) = some l := hl
    rw [look_append] at hl
    split at hl
    · rename_i l' hl'
      cases hl
      obtain ⟨cs, e, h1, h2, h3⟩ := hR.bx b l hl'
      have hb := bR b l hl'
      have ebb : γ'.bb b = γ2.bb b := if_pos hb
      exact ⟨cs, e, by rw [ebb]; exact h1, by rw [ebb]; exact (tg2 _ (by rw [h2]; simp)).trans h2, h3.mono fun a y ha hy => oneR a (List.mem_append_right _ (List.mem_flatMap.2 ⟨_, mem_of_look hl', ha⟩)) y hy⟩
    · obtain ⟨cs, e, h1, h2, h3⟩ := hA.bx b l hl
      obtain ⟨hb, hb'⟩ := bA b l hl
      obtain ⟨q1, q2⟩ := hb' h2
      have ebb : γ'.bb b = γ.bb b := if_neg hb
      have hlt := heap_lt h1
      exact ⟨cs, e, by rw [ebb, (old _ hlt q1).1]; exact h1, by rw [ebb]; exact (keep _ hlt q1 q2).trans h2, h3.mono fun a y ha hy => oneA a (List.mem_append_right _ (List.mem_flatMap.2 ⟨_, mem_of_look hl, ha⟩)) y hy⟩
  · have hl : look o (R.ob ++ A.ob) = some l := hl
    rw [look_append] at hl
    split at hl
    · rename_i l' hl'
      cases hl
      have ho := oR o l hl'
      refine (hR.ob o l hl').move (fun b hb _ => ⟨rfl, tg2 b ?_⟩) ⟨if_pos ho, if_pos ho⟩ fun i => ⟨by show (if o ∈ NS then γ2.nh o else γ.nh o) i = _; rw [if_pos ho], by show (if o ∈ NS then γ2.ns o else γ.ns o) i = _; rw [if_pos ho]⟩
      rcases hb with hb | ⟨i, hb⟩ <;> rw [hb] <;> simp
    · obtain ⟨ho, hb'⟩ := oA o l hl
      exact (hA.ob o l hl).move (fun b hb hlt => ⟨(old b hlt (hb' b hb).1).1, keep b hlt (hb' b hb).1 (hb' b hb).2⟩) ⟨if_neg ho, if_neg ho⟩ fun i => ⟨by show (if o ∈ NS then γ2.nh o else γ.nh o) i = _; rw [if_neg ho], by show (if o ∈ NS then γ2.ns o else γ.ns o) i = _; rw [if_neg ho]⟩
  · show tg' b = none
    rcases hz with hz | ⟨hn, hz⟩
    · have h2 := (old b (hA.lt b (.inl hz)) (z1 b hz)).2
      simp only [tg', h2]
      split
      · exact hA.zt b hz
      · rfl
    · have h2 := hR.zt b hz
      simp only [tg', h2]
      rw [if_neg fun h => h.2 ⟨hn, hz⟩]
  · rcases hb with (hz | ⟨hn, hz⟩) | hb
    · exact Nat.lt_of_lt_of_le (hA.lt b (.inl hz)) hH.size
    · exact hR.lt b (.inl hz)
    · have hb : tg' b ≠ none := hb
      cases h3 : γ2.tg b with
      | some t => exact hR.lt b (.inr (by rw [h3]; simp))
      | none =>
        simp only [tg', h3] at hb
        split at hb
        · exact Nat.lt_of_lt_of_le (hA.lt b (.inr hb)) hH.size
        · exact absurd rfl hb
  · exact (hR.tm t x hx).mono fun a y ha hy => oneR a (List.mem_append_left _ (List.mem_flatMap.2 ⟨_, mem_of_look hx, ha⟩)) y hy
  · refine ⟨Nat.le_trans h0.size hH.size, hH.os.trans h0.os, hH.tape.trans h0.tape, hH.output.trans h0.output, fun b hb ht => ?_, fun b hb hz => ?_⟩
    · obtain ⟨e1, e2⟩ := h0.block b hb ht
      have h1 : γ1.tg b = none := Classical.byContradiction fun h => h1t b h e2
      have hlt := Nat.lt_of_lt_of_le hb h0.size
      obtain ⟨e3, e4⟩ := old b hlt h1
      refine ⟨e3.trans e1, ?_⟩
      show tg' b = none
      simp only [tg', e4]
      split
      · exact e2
      · rfl
    · have hlt := Nat.lt_of_lt_of_le hb h0.size
      have fin : γ.z b ∨ γ.tg b ≠ none → γ0.z b ∨ γ0.tg b ≠ none := fun h => by
        rcases h with h | h
        · exact h0.z b hb h
        · exact .inr fun e => h (h0.block b hb e).2
      rcases hz with hz | ⟨hn, hz⟩
      · exact fin (.inl hz)
      · rcases hH.z b hlt hz with h | h
        · exact fin (h1z hn b h)
        · exact fin (.inr (h1t b h))
end
end Go.Tree
namespace Go.Tree
set_option linter.unusedVariables false
set_option linter.unusedSimpArgs false
set_option linter.constructorNameAsVariable false

def back (m : Mode) (vs : List Value) : List Value := if m = 1 ∨ m = 2 then [vs.getD 0 undef] else []
def resVal : List Value → Value
  | [v] => v
  | l => .tuple l.toArray
/-- what the evaluator tells of a call, Go does -/
def Tells (P : Program) (f : FuncId) (m : Mode) (nres : Nat) (S R : St) : Prop :=
  ∀ γ0 (vs : List Value) w, Rel γ0 S vs.toArray w → Calls P f vs.toArray w fun e w' =>
    ∃ vals γ', e = .returned (resVal vals) ∧ vals.length = nres ∧ Rel γ' R (vals ++ back m vs).toArray w' ∧ Hist γ0 w γ' w'

theorem all_avs (x : TV) : x.all = x.avs := by cases x <;> rfl

theorem zipOwn_rep {γ γ' : Gh} {w w' : World} {n o : Nat} : ∀ {l r : List AV} {cs : List Value}, Cells γ w l cs → Cells γ' w' r cs → (n, o) ∈ zipOwn l r → γ'.hd n = γ.hd o
  | [], _, _, _, _, h => by simp [zipOwn] at h
  | a :: l, [], _, _, _, h => by cases a <;> simp [zipOwn] at h
  | a :: l, b :: r, c :: cs, .cons h1 hl, .cons h2 hr, h => by
    have ihr := zipOwn_rep hl hr (n := n) (o := o)
    cases a <;> cases b <;> simp only [zipOwn, List.mem_cons, Prod.mk.injEq] at h <;> first
      | (rcases h with ⟨rfl, rfl⟩ | h
         · exact h2.1.1.symm.trans h1.1.1
         · exact ihr h)
      | exact ihr h
theorem backPairs_rep {γ γ' : Gh} {w w' : World} {n o : Nat} {x y : TV} {v : Value} (hx : TVrep γ w x v) (hy : TVrep γ' w' y v) (h : (n, o) ∈ backPairs x y) : γ'.hd n = γ.hd o := by
  cases x with
  | c a => cases y with
    | c b =>
      cases a <;> cases b <;> simp only [backPairs, zipOwn, List.mem_cons, Prod.mk.injEq, List.not_mem_nil, or_false] at h
      obtain ⟨rfl, rfl⟩ := h
      exact hy.1.symm.trans hx.1
    | _ => simp [backPairs] at h
  | agg l => cases y with
    | agg r =>
      obtain ⟨cs, e, hl⟩ := hx
      obtain ⟨cs', e', hr⟩ := hy
      rw [e] at e'
      have : cs = cs' := by simpa using e'
      subst this
      exact zipOwn_rep hl hr h
    | _ => simp [backPairs] at h
  | tup l => simp [backPairs] at h
theorem backBoxes_rep {γ γ' : Gh} {w w' : World} {n b : Nat} {x y : TV} {v : Value} (hx : TVrep γ w x v) (hy : TVrep γ' w' y v) (h : (n, b) ∈ backBoxes x y) : γ'.bb n = γ.bb b := by
  unfold backBoxes at h
  split at h
  · rename_i b' n'
    simp only [List.mem_cons, Prod.mk.injEq, List.not_mem_nil, or_false] at h
    obtain ⟨rfl, rfl⟩ := h
    have hx : v = _ := hx
    have hy : v = _ := hy
    rw [hx] at hy
    simpa using hy.symm
  · simp at h

theorem named_avs {R : St} {ns bns : List Nat} (h : R.named ns bns = true) {a : AV} (ha : a ∈ R.avs) : (∀ o ∈ a.obs, o ∈ ns) ∧ ∀ b ∈ a.bxs, b ∈ bns := by
  simp only [St.named, Bool.and_eq_true, List.all_eq_true] at h
  have conv : avNamed ns bns a = true → (∀ o ∈ a.obs, o ∈ ns) ∧ ∀ b ∈ a.bxs, b ∈ bns := fun h => by
    simp only [avNamed, Bool.and_eq_true, List.all_eq_true] at h
    exact ⟨fun o ho => by simpa using h.1 o ho, fun b hb => by simpa using h.2 b hb⟩
  refine conv ?_
  simp only [St.avs, List.mem_append, List.mem_flatMap] at ha
  rcases ha with ⟨p, hp, ha⟩ | ⟨p, hp, ha⟩
  · have h1 := h.1 p hp
    revert h1 ha
    cases p.2 with
    | c x => intro ha h1; simp [TV.avs] at ha; subst ha; exact h1
    | agg l => intro ha h1; simp only [tvNamed, List.all_eq_true] at h1; exact h1 a ha
    | tup l =>
      intro ha h1
      simp only [TV.avs, List.mem_flatMap] at ha
      obtain ⟨q, hq, ha⟩ := ha
      simp only [tvNamed, List.all_eq_true] at h1
      exact h1 q hq a ha
  · exact h.2 p hp a ha
theorem closed_avs {R : St} (h : R.closed = true) {a : AV} (ha : a ∈ R.avs) : closedAV a = true := by
  simp only [St.closed, Bool.and_eq_true, List.all_eq_true] at h
  simp only [St.avs, List.mem_append, List.mem_flatMap] at ha
  rcases ha with ⟨p, hp, ha⟩ | ⟨p, hp, ha⟩
  · have h1 := h.1 p hp
    revert h1 ha
    cases p.2 with
    | c x => intro ha h1; simp [TV.avs] at ha; subst ha; exact h1
    | agg l => intro ha h1; simp only [closedTV, List.all_eq_true] at h1; exact h1 a ha
    | tup l =>
      intro ha h1
      simp only [TV.avs, List.mem_flatMap] at ha
      obtain ⟨q, hq, ha⟩ := ha
      simp only [closedTV, List.all_eq_true] at h1
      exact h1 q hq a ha
  · exact h.2 p hp a ha
theorem ren_avs {R : St} {f g : Nat → Nat} {a : AV} (ha : a ∈ (R.ren f g).avs) : ∃ b ∈ R.avs, a = renAV f g b := by
  simp only [St.avs, St.ren, mapTm, List.mem_append, List.mem_flatMap, List.mem_map] at ha
  simp only [St.avs, List.mem_append, List.mem_flatMap]
  rcases ha with ⟨p, ⟨q, hq, rfl⟩, ha⟩ | ⟨p, ⟨q, hq, rfl⟩, ha⟩
  · have : ∃ b ∈ q.2.avs, a = renAV f g b := by
      revert ha
      cases q.2 with
      | c x => intro ha; simp [TV.map, TV.avs] at ha; exact ⟨x, by simp [TV.avs], ha⟩
      | agg l => intro ha; simp [TV.map, TV.avs] at ha; obtain ⟨b, hb, e⟩ := ha; exact ⟨b, by simpa [TV.avs] using hb, e.symm⟩
      | tup l =>
        intro ha
        simp only [TV.map, TV.avs, List.mem_flatMap, List.mem_map] at ha
        obtain ⟨p, ⟨q', hq', rfl⟩, hp⟩ := ha
        simp only [List.mem_map] at hp
        obtain ⟨b, hb, e⟩ := hp
        exact ⟨b, by simp only [TV.avs, List.mem_flatMap]; exact ⟨q', hq', hb⟩, e.symm⟩
    obtain ⟨b, hb, e⟩ := this
    exact ⟨b, .inl ⟨q, hq, hb⟩, e⟩
  · simp only [List.mem_map] at ha
    obtain ⟨b, hb, e⟩ := ha
    exact ⟨b, .inr ⟨q, hq, hb⟩, e.symm⟩
theorem ren_closed {f g : Nat → Nat} {a : AV} (h : closedAV a = true) : closedAV (renAV f g a) = true := by
  cases a with
  | rd s l => obtain ⟨n, d⟩ := l; cases d <;> simp_all [renAV, closedAV]
  | _ => simp_all [renAV, closedAV]
theorem ren_obs {f g : Nat → Nat} (a : AV) : (renAV f g a).obs = a.obs.map f ∧ (renAV f g a).bxs = a.bxs.map g := by cases a <;> simp [renAV, AV.obs, AV.bxs]

theorem toTup_rep {γ : Gh} {w : World} {x : TV} {u : Value} (h : TVrep γ w x u) :
    ((toTup x).1 = true ∧ ∃ cs : List Value, u = .agg cs.toArray ∧ Cells γ w (toTup x).2 cs) ∨ ((toTup x).1 = false ∧ ∃ a, (toTup x).2 = [a] ∧ AVrep γ w a u) := by
  cases x with
  | c a => exact .inr ⟨rfl, a, rfl, h⟩
  | agg l => exact .inl ⟨rfl, h⟩
  | tup l => exact .inr ⟨rfl, .unk, rfl, trivial⟩
theorem res_rep {γ : Gh} {w : World} {l : List (Nat × TV)} {vals : List Value} (h : F2 (fun p u => TVrep γ w p.2 u) l vals) : TVrep γ w (resTV l) (resVal vals) := by
  have gen : ∀ {l : List (Nat × TV)} {vals : List Value}, F2 (fun p u => TVrep γ w p.2 u) l vals → TVrep γ w (.tup (l.map fun p => toTup p.2)) (.tuple vals.toArray) := fun h => by
    refine ⟨_, rfl, ?_⟩
    induction h with
    | nil => exact .nil
    | cons r _ ih => exact .cons (toTup_rep r) ih
  cases h with
  | nil => exact gen .nil
  | cons r h => cases h with
    | nil => exact r
    | cons r' h => exact gen (.cons r (.cons r' h))
theorem F2.range {γ : Gh} {w : World} {l : List (Nat × TV)} {vals : List Value} (h : ∀ i v, vals[i]? = some v → TVrep γ w ((look i l).getD (.c .unk)) v) :
    F2 (fun (p : Nat × TV) u => TVrep γ w p.2 u) ((List.range vals.length).map fun i => (i, (look i l).getD (.c .unk))) vals := by
  refine F2.of_get (by simp) fun i p v hp hv => ?_
  simp only [List.getElem?_map, Option.map_eq_some_iff] at hp
  obtain ⟨j, hj, rfl⟩ := hp
  have hlt : i < vals.length := (List.getElem?_eq_some_iff.1 hv).1
  rw [List.getElem?_range hlt] at hj
  cases hj
  exact h i v hv
end Go.Tree
