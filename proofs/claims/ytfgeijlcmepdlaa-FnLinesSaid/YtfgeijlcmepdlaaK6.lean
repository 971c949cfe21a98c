/- Part 6 of the tree calculus: symbolic execution of the model's code over typed lists, proved sound. No condition. -/
import Derived.Test.YtfgeijlcmepdlaaK5
import Derived.Laws.Cover3
namespace Go.Tree
set_option linter.unusedVariables false
set_option linter.unusedSimpArgs false
set_option linter.constructorNameAsVariable false

def TW.all : TW → List AW
  | .c a => [a] | .agg l => l | .tup l => l.flatMap (·.2)
def BW.all : BW → List AW
  | .cells l => l | .arr _ => []
def renAW (f g : Nat → Nat) : AW → AW
  | .own o => .own (f o) | .nest o i => .nest (f o) i | .adr o i k => .adr (f o) i k | .adn o i j k => .adn (f o) i j k
  | .rd s l => .rd (s.map f) l | .rad s l => .rad (s.map f) l | .box b k => .box (g b) k | .boxi b k => .boxi (g b) k | .fn h l => .fn h (l.map g) | a => a
def Wt.ren (f g : Nat → Nat) (A : Wt) : Wt :=
  { tm := encL (TW.map (renAW f g)) A.tm, bx := A.bx.map fun p => (g p.1, p.2.map (renAW f g)), ob := A.ob.map fun p => (f p.1, p.2) }
theorem renAW_goes (f g : Nat → Nat) : Goes (renAW f g) (renAV f g) := ⟨fun a => by cases a <;> rfl, fun _ => rfl⟩
theorem Wt.ren_enc (f g : Nat → Nat) (A : Wt) : (A.ren f g).enc = A.enc.ren f g := by
  simp only [Wt.ren, Wt.enc, St.ren, tm_enc (renAW_goes f g)]
  congr 1
  · simp only [encL, List.map_map]
    exact List.map_congr_left fun p _ => by simp [BW.map_enc (renAW_goes f g)]
  · simp [encL, List.map_map, Function.comp_def]

theorem all_enc (x : TW) : x.enc.all = x.all.map AW.enc := by
  cases x <;> simp [TW.enc, TV.all, TW.all, List.map_flatMap, List.flatMap_map]
theorem flat_obs (l : List AW) : (l.map AW.enc).flatMap AV.obs = l.flatMap AW.obs := by
  rw [List.flatMap_map]
  exact congrArg (fun g => l.flatMap g) (funext fun a => enc_obs a)
theorem flat_bxs (l : List AW) : (l.map AW.enc).flatMap AV.bxs = l.flatMap AW.bxs := by
  rw [List.flatMap_map]
  exact congrArg (fun g => l.flatMap g) (funext fun a => enc_bxs a)
theorem barr_obs (x : BW) : x.enc.flatMap AV.obs = x.all.flatMap AW.obs := by
  cases x with
  | cells l => exact flat_obs l
  | arr l => simp [BW.enc, BW.all, List.flatMap_map, AV.obs]
theorem barr_bxs (x : BW) : x.enc.flatMap AV.bxs = x.all.flatMap AW.bxs := by
  cases x with
  | cells l => exact flat_bxs l
  | arr l => simp [BW.enc, BW.all, List.flatMap_map, AV.bxs]
theorem pick_encL {α β : Type} {f : α → β} (l : List (Nat × α)) : ∀ ns : List Nat, pick (encL f l) ns = encL f (pick l ns)
  | [] => rfl
  | n :: ns => by
    simp only [pick, look_encL]
    cases look n l with
    | none => exact pick_encL l ns
    | some a => simp only [Option.map_some, pick_encL l ns]; rfl
def canonBW (live : List Nat) (A : Wt) : List Nat :=
  let b1 := (pick A.tm live).flatMap fun p => p.2.all.flatMap AW.bxs
  (dedup (b1 ++ b1.flatMap fun b => match look b A.bx with | some x => x.all.flatMap AW.bxs | none => []).reverse).reverse
theorem canonBW_enc (live : List Nat) (A : Wt) : canonB live A.enc = canonBW live A := by
  have e1 : ((pick A.enc.tm live).flatMap fun p => p.2.all.flatMap AV.bxs) = (pick A.tm live).flatMap fun p => p.2.all.flatMap AW.bxs := by
    show ((pick (encL TW.enc A.tm) live).flatMap fun p => p.2.all.flatMap AV.bxs) = _
    rw [pick_encL]
    simp only [encL, List.flatMap_map, all_enc, enc_bxs]
  have e2 : (fun b => ((look b A.enc.bx).getD []).flatMap AV.bxs) = fun b => match look b A.bx with | some x => x.all.flatMap AW.bxs | none => [] := by
    funext b
    show ((look b (encL BW.enc A.bx)).getD []).flatMap AV.bxs = _
    rw [look_encL]
    cases look b A.bx with
    | none => rfl
    | some x => exact barr_bxs x
  simp only [canonB, canonBW, e1, e2]
def keepLiveW (live : List Nat) (A : Wt) : Wt :=
  { tm := pick A.tm live, bx := encL (BW.map (killW fun a => !a.bxs.all (canonBW live A).contains)) (pick A.bx (canonBW live A)), ob := A.ob }
theorem keepLiveW_enc (live : List Nat) (A : Wt) : (keepLiveW live A).enc = keepLive live A.enc := by
  have hg : Goes (killW fun a => !a.bxs.all (canonBW live A).contains) (killIf fun a => !a.bxs.all (canonBW live A).contains) := goes_kill (fun a => by rw [enc_bxs]) fun x => rfl
  unfold keepLive
  rw [canonBW_enc]
  show St.mk _ _ _ = St.mk _ _ _
  congr 1
  · exact (pick_encL A.tm live).symm
  · show _ = (pick (encL BW.enc A.bx) _).map _
    rw [pick_encL]
    simp only [keepLiveW, encL, List.map_map]
    exact List.map_congr_left fun p _ => by simp [BW.map_enc hg]
def canonOW (A : Wt) : List Nat := (dedup ((A.tm.flatMap fun p => p.2.all.flatMap AW.obs) ++ A.bx.flatMap fun p => p.2.all.flatMap AW.obs).reverse).reverse
theorem canonOW_enc (A : Wt) : canonO A.enc = canonOW A := by
  have e1 : (A.enc.tm.flatMap fun p => p.2.all.flatMap AV.obs) = A.tm.flatMap fun p => p.2.all.flatMap AW.obs := by
    show ((encL TW.enc A.tm).flatMap fun p => p.2.all.flatMap AV.obs) = _
    simp only [encL, List.flatMap_map, all_enc, enc_obs]
  have e2 : (A.enc.bx.flatMap fun p => p.2.flatMap AV.obs) = A.bx.flatMap fun p => p.2.all.flatMap AW.obs := by
    show ((encL BW.enc A.bx).flatMap fun p => p.2.flatMap AV.obs) = _
    simp only [encL, List.flatMap_map, barr_obs]
  simp only [canonO, canonOW, e1, e2]
/-- the state at the head of a loop -/
def canonW (live : List Nat) (A : Wt) : Wt :=
  Wt.ren (fun o => pos o (canonOW (keepLiveW live A)) 0) (fun b => pos b (canonBW live A) 0) { keepLiveW live A with ob := pick A.ob (canonOW (keepLiveW live A)) }
theorem canonW_enc (live : List Nat) (A : Wt) : (canonW live A).enc = canon live A.enc := by
  unfold canonW canon
  rw [Wt.ren_enc, ← canonBW_enc, ← keepLiveW_enc, ← canonOW_enc]
  congr 1
  show St.mk _ _ _ = St.mk _ _ _
  congr 1
  exact (pick_encL A.ob _).symm

/-- a cell, as something that is read -/
def avCW (A : Wt) (sel : List Nat) (a : AW) : CW := match a with
  | .v x => if single x then .v x else .u
  | .rd s l => if s.any sel.contains then .u else if l.t.flat then .s l else .u
  | .own o => if sel.contains o then .u else match look o A.ob with | some (.f l) => if l.t.flat then .s l else .u | _ => .u
  | _ => .u
def boxCW (A : Wt) (sel : List Nat) (b off : Nat) : List CW := match look b A.bx with | some (.cells l) => (l.drop off).map (avCW A sel) | some (.arr l) => (l.drop off).map fun _ => .u | none => []
/-- a value, as another frame sees it -/
def expAW (A : Wt) (sel bsel : List Nat) (a : AW) : AW := match a with
  | .own o => if sel.contains o then .own o else match look o A.ob with | some (.f l) => .rd [] l | _ => .unk
  | .nest _ _ => .unk
  | .rd s l => if s.any sel.contains then .unk else .rd [] l
  | .rad s c => if s.any sel.contains then .unk else .rad [] c
  | .box b off => if bsel.contains b then .box b off else .rad [] (boxCW A sel b off)
  | .boxi _ _ => .unk
  | .adr _ _ _ => .unk
  | .adn _ _ _ _ => .unk
  | .fn f caps => if caps.any bsel.contains then .unk else .fnr f (caps.map fun b => boxCW A sel b 0)
  | a => a
/-- what is known of something less -/
inductive CLe : C → C → Prop
  | refl (c : C) : CLe c c
  | x (c : C) : CLe c .x
inductive ALe : AV → AV → Prop
  | refl (a : AV) : ALe a a
  | unk (a : AV) : ALe a .unk
  | rad (s : List Nat) {c d : List C} (h : F2 CLe c d) : ALe (.rad s c) (.rad s d)
  | fnr (f : FuncId) {c d : List (List C)} (h : F2 (F2 CLe) c d) : ALe (.fnr f c) (.fnr f d)
theorem F2.refl_of {α : Type} {R : α → α → Prop} (h : ∀ a, R a a) : ∀ l : List α, F2 R l l
  | [] => .nil
  | a :: l => .cons (h a) (F2.refl_of h l)
theorem F2.map2 {α β γ : Type} {R : β → γ → Prop} {f : α → β} {g : α → γ} : ∀ (l : List α), (∀ a ∈ l, R (f a) (g a)) → F2 R (l.map f) (l.map g)
  | [], _ => .nil
  | a :: l, h => .cons (h a (by simp)) (F2.map2 l fun b hb => h b (by simp [hb]))
theorem CAt.le {w : World} {R : Nat → Prop} {c d : C} {y : Value} (h : CAt w R c y) (hl : CLe c d) : CAt w R d y := by
  cases hl with
  | refl => exact h
  | x =>
    cases c with
    | v x => obtain ⟨rfl, h⟩ := h; exact h
    | s n rows => obtain ⟨_, a, cap, e, _⟩ := h; subst e; rfl
    | x => exact h
theorem RadAt.le {w : World} {R : Nat → Prop} {c d : List C} {y : Value} (h : RadAt w R y c) (hl : F2 CLe c d) : RadAt w R y d := by
  obtain ⟨blk, off, h1, h2, h3⟩ := h
  refine ⟨blk, off, h1, fun hd => h2 fun hc => ?_, fun j x hx => ?_⟩
  · subst hc; cases hl; exact hd rfl
  · have hlen := hl.length
    have hj : j < c.length := by rw [hlen]; exact (List.getElem?_eq_some_iff.1 hx).1
    obtain ⟨u, hu, hx'⟩ := h3 j c[j] (List.getElem?_eq_getElem hj)
    obtain ⟨x2, g1, g2⟩ := hl.get (List.getElem?_eq_getElem hj)
    rw [hx] at g1
    cases g1
    exact ⟨u, hu, hx'.le g2⟩
theorem AVrep.le {γ : Gh} {w : World} {a b : AV} {y : Value} (h : AVrep γ w a y) (hl : ALe a b) : AVrep γ w b y := by
  cases hl with
  | refl => exact h
  | unk => trivial
  | rad s hc => exact RadAt.le h hc
  | fnr f hc =>
    obtain ⟨vs, e, h⟩ := h
    refine ⟨vs, e, ?_⟩
    clear e
    revert vs
    rename_i c d
    induction hc with
    | nil => intro vs h; exact h
    | cons r _ ih =>
      intro vs h
      cases h with
      | cons r' h => exact .cons (RadAt.le r' r) (ih _ h)

section
variable {A : Wt}
theorem ob_data {o : Nat} {x : OW} (h : look o A.ob = some x) : A.enc.data (.own o) = some x.enc := obEnc h
theorem avCW_le (sel : List Nat) (a : AW) : CLe (avC A.enc sel a.enc) (avCW A sel a).enc := by
  unfold avCW
  split
  · simp only [enc_v, avC]; split <;> exact .refl _
  · rename_i s l
    split
    · exact .x _
    · rename_i hs
      split
      · rename_i hf
        simp only [enc_rd, avC, srcs, if_neg hs, St.data, TL.lower l hf, CW.enc, if_pos hf]
        exact .refl _
      · exact .x _
  · rename_i o
    split
    · exact .x _
    · rename_i hs
      split
      · rename_i l hl
        split
        · rename_i hf
          have : ¬ ([o].any sel.contains) = true := by simpa using hs
          simp only [enc_own, avC, srcs, if_neg this, ob_data hl, OW.enc, TL.lower l hf, CW.enc, if_pos hf]
          exact .refl _
        · exact .x _
      · exact .x _
  · exact .x _
theorem boxCW_le (sel : List Nat) (b off : Nat) : F2 CLe (boxC A.enc sel b off) ((boxCW A sel b off).map CW.enc) := by
  unfold boxC boxCW
  cases hb : look b A.bx with
  | none => simp only [Wt.enc, look_encL, hb, Option.map_none]; exact .nil
  | some x => cases x with
    | cells l =>
      simp only [bxEnc hb, BW.enc, ← List.map_drop, List.map_map]
      exact F2.map2 _ fun a _ => avCW_le sel a
    | arr l =>
      simp only [bxEnc hb, BW.enc, ← List.map_drop, List.map_map]
      exact F2.map2 _ fun a _ => .x _
theorem expAW_le (sel bsel : List Nat) (a : AW) : ALe (expAV A.enc sel bsel a.enc) (expAW A sel bsel a).enc := by
  unfold expAW
  split
  · rename_i o
    simp only [enc_own, expAV]
    split
    · exact .refl _
    · cases ho : look o A.ob with
      | none => exact .unk _
      | some x => cases x with
        | f l => simp only [ob_data ho]; exact .refl _
        | h l k => exact .unk _
  · exact .unk _
  · simp only [enc_rd, expAV]
    split
    · exact .refl _
    · exact .refl _
  · simp only [enc_rad, expAV]
    split
    · exact .refl _
    · exact .refl _
  · simp only [enc_box, expAV]
    split
    · exact .refl _
    · exact .rad _ (boxCW_le sel _ _)
  · exact .unk _
  · exact .unk _
  · exact .unk _
  · simp only [enc_fn, expAV]
    split
    · exact .refl _
    · refine .fnr _ ?_
      rw [List.map_map]
      exact F2.map2 _ fun b _ => boxCW_le sel b 0
  · rename_i h1 h2 h3 h4 h5 h6 h7 h8 h9
    cases a <;> first | exact .refl _ | exact absurd rfl (h1 _) | exact absurd rfl (h2 _ _) | exact absurd rfl (h3 _ _) | exact absurd rfl (h4 _ _) | exact absurd rfl (h5 _ _) | exact absurd rfl (h6 _ _) | exact absurd rfl (h7 _ _ _) | exact absurd rfl (h8 _ _ _ _) | exact absurd rfl (h9 _ _)
end

inductive TLe : TV → TV → Prop
  | c {a b : AV} (h : ALe a b) : TLe (.c a) (.c b)
  | agg {l m : List AV} (h : F2 ALe l m) : TLe (.agg l) (.agg m)
  | tup {l m : List (Bool × List AV)} (h : F2 (fun p q => p.1 = q.1 ∧ F2 ALe p.2 q.2) l m) : TLe (.tup l) (.tup m)
theorem Cells.le {γ : Gh} {w : World} {l m : List AV} (hl : F2 ALe l m) : ∀ {cs : List Value}, Cells γ w l cs → Cells γ w m cs := by
  unfold Cells
  induction hl with
  | nil => intro cs h; exact h
  | cons r _ ih =>
    intro cs h
    cases h with
    | cons r' h => exact .cons ⟨r'.1.le r, r'.2⟩ (ih h)
theorem TVrep.le {γ : Gh} {w : World} {x y : TV} {v : Value} (h : TVrep γ w x v) (hl : TLe x y) : TVrep γ w y v := by
  cases hl with
  | c hl => exact AVrep.le h hl
  | agg hl => obtain ⟨cs, e, h⟩ := h; exact ⟨cs, e, Cells.le hl h⟩
  | tup hl =>
    obtain ⟨vs, e, h⟩ := h
    refine ⟨vs, e, ?_⟩
    clear e
    induction hl generalizing vs with
    | nil => exact h
    | @cons p q _ _ r _ ih =>
      cases h with
      | cons r' h =>
        refine .cons ?_ (ih _ h)
        obtain ⟨r1, r2⟩ := r
        rcases r' with ⟨k1, cs, k2, k3⟩ | ⟨k1, a, k2, k3⟩
        · exact .inl ⟨r1 ▸ k1, cs, k2, Cells.le r2 k3⟩
        · obtain ⟨l2, e2⟩ : ∃ l2, q.2 = l2 := ⟨_, rfl⟩
          rw [k2, e2] at r2
          cases r2 with
          | cons r3 r4 => cases r4; exact .inr ⟨r1 ▸ k1, _, e2, k3.le r3⟩
/-- a state that says less -/
structure SLe (A B : St) : Prop where
  tm : F2 (fun p q => p.1 = q.1 ∧ TLe p.2 q.2) A.tm B.tm
  bx : F2 (fun p q => p.1 = q.1 ∧ F2 ALe p.2 q.2) A.bx B.bx
  ob : A.ob = B.ob
theorem F2.look {α β : Type} {R : α → β → Prop} {l : List (Nat × α)} {m : List (Nat × β)} (h : F2 (fun p q => p.1 = q.1 ∧ R p.2 q.2) l m) {n : Nat} {y : β} (hy : look n m = some y) : ∃ x, look n l = some x ∧ R x y := by
  induction h with
  | nil => cases hy
  | @cons p q l m r _ ih =>
    obtain ⟨pn, px⟩ := p
    obtain ⟨qn, qx⟩ := q
    obtain ⟨r1, r2⟩ := r
    simp only at r1
    subst r1
    simp only [Tree.look] at hy ⊢
    split at hy
    · rename_i e; rw [if_pos e]; cases hy; exact ⟨_, rfl, r2⟩
    · rename_i e; rw [if_neg e]; exact ih hy
theorem Rel.le {γ : Gh} {A B : St} {tmps : Array Value} {w : World} (h : Rel γ A tmps w) (hl : SLe A B) : Rel γ B tmps w where
  tm t x hx := by
    obtain ⟨y, h1, h2⟩ := hl.tm.look hx
    exact (h.tm t y h1).le h2
  bx b l hb := by
    obtain ⟨m, h1, h2⟩ := hl.bx.look hb
    obtain ⟨cs, e, k1, k2, k3⟩ := h.bx b m h1
    exact ⟨cs, e, k1, k2, Cells.le h2 k3⟩
  ob o l ho := h.ob o l (hl.ob ▸ ho)
  zt := h.zt
  lt := h.lt
theorem ALe.ren {f g : Nat → Nat} {a b : AV} (h : ALe a b) : ALe (renAV f g a) (renAV f g b) := by
  cases h with
  | refl => exact .refl _
  | unk => exact .unk _
  | rad s h => exact .rad _ h
  | fnr k h => exact .fnr _ h
theorem F2.mapmap {α β γ δ : Type} {R : α → β → Prop} {S : γ → δ → Prop} {f : α → γ} {g : β → δ} {l : List α} {m : List β} (h : F2 R l m) (hf : ∀ a b, R a b → S (f a) (g b)) : F2 S (l.map f) (m.map g) := by
  induction h with
  | nil => exact .nil
  | cons r _ ih => exact .cons (hf _ _ r) ih
theorem TLe.ren {f g : Nat → Nat} {a b : TV} (h : TLe a b) : TLe (a.map (renAV f g)) (b.map (renAV f g)) := by
  cases h with
  | c h => exact .c h.ren
  | agg h => exact .agg (h.mapmap fun _ _ h => h.ren)
  | tup h => exact .tup (h.mapmap fun _ _ h => ⟨h.1, h.2.mapmap fun _ _ h => h.ren⟩)
theorem SLe.ren {f g : Nat → Nat} {A B : St} (h : SLe A B) : SLe (A.ren f g) (B.ren f g) where
  tm := h.tm.mapmap fun _ _ h => ⟨h.1, h.2.ren⟩
  bx := h.bx.mapmap fun _ _ h => ⟨by rw [h.1], h.2.mapmap fun _ _ h => h.ren⟩
  ob := by simp only [St.ren, h.ob]

/-- values for another frame -/
def packW (A : Wt) (sel bsel : List Nat) (tvs : List TW) : Wt :=
  Wt.ren (fun o => pos o sel 0) (fun b => pos b bsel 0)
    { tm := enum 0 (tvs.map (TW.map (expAW A sel bsel))), bx := encL (BW.map (expAW A sel bsel)) (pick A.bx bsel), ob := pick A.ob sel }
theorem exp_cells (A : Wt) (sel bsel : List Nat) (l : List AW) : F2 ALe ((l.map AW.enc).map (expAV A.enc sel bsel)) ((l.map (expAW A sel bsel)).map AW.enc) := by
  simp only [List.map_map]
  exact F2.map2 _ fun a _ => expAW_le sel bsel a
theorem exp_tv (A : Wt) (sel bsel : List Nat) (x : TW) : TLe (x.enc.map (expAV A.enc sel bsel)) (x.map (expAW A sel bsel)).enc := by
  cases x with
  | c a => exact .c (expAW_le sel bsel a)
  | agg l => exact .agg (exp_cells A sel bsel l)
  | tup l =>
    refine .tup ?_
    simp only [List.map_map]
    exact F2.map2 _ fun p _ => ⟨rfl, exp_cells A sel bsel p.2⟩
theorem exp_arr (A : Wt) (sel bsel : List Nat) (x : BW) : F2 ALe (x.enc.map (expAV A.enc sel bsel)) (x.map (expAW A sel bsel)).enc := by
  cases x with
  | cells l => exact exp_cells A sel bsel l
  | arr l =>
    simp only [BW.enc, BW.map, List.map_map]
    exact F2.map2 _ fun a _ => .refl _
theorem enum_map {α β : Type} (f : α → β) : ∀ (l : List α) (n : Nat), enum n (l.map f) = encL f (enum n l)
  | [], n => rfl
  | a :: l, n => by simp only [List.map_cons, enum, enum_map f l]; rfl
theorem packW_le (A : Wt) (sel bsel : List Nat) (tvs : List TW) : SLe (A.enc.pack sel bsel (tvs.map TW.enc)) (packW A sel bsel tvs).enc := by
  unfold packW St.pack
  rw [Wt.ren_enc]
  refine SLe.ren ⟨?_, ?_, ?_⟩
  · show F2 _ (enum 0 ((tvs.map TW.enc).map _)) (encL TW.enc (enum 0 (tvs.map _)))
    rw [List.map_map, enum_map, enum_map]
    simp only [encL, List.map_map]
    exact F2.map2 _ fun p _ => ⟨rfl, exp_tv A sel bsel p.2⟩
  · show F2 _ ((pick (encL BW.enc A.bx) bsel).map _) (encL BW.enc (encL _ (pick A.bx bsel)))
    rw [pick_encL]
    simp only [encL, List.map_map]
    exact F2.map2 _ fun p _ => ⟨rfl, exp_arr A sel bsel p.2⟩
  · exact pick_encL A.ob sel

def ownsAW : AW → List Nat
  | .own o => [o] | _ => []
def ownsTW : TW → List Nat
  | .c a => ownsAW a | .agg l => l.flatMap ownsAW | .tup _ => []
def boxesTW : TW → List Nat
  | .c (.box b 0) => [b] | _ => []
def selBoxesW (tvs : List TW) : List Nat := tvs.flatMap boxesTW
def selObsW (A : Wt) (tvs : List TW) : List Nat := tvs.flatMap ownsTW ++ (selBoxesW tvs).flatMap fun b => match look b A.bx with | some x => x.all.flatMap ownsAW | none => []
theorem ownsAW_enc (a : AW) : ownsAV a.enc = ownsAW a := by cases a <;> rfl
theorem flat_owns (l : List AW) : (l.map AW.enc).flatMap ownsAV = l.flatMap ownsAW := by
  rw [List.flatMap_map]
  exact congrArg (fun g => l.flatMap g) (funext fun a => ownsAW_enc a)
theorem ownsTW_enc (x : TW) : ownsTV x.enc = ownsTW x := by
  cases x with
  | c a => exact ownsAW_enc a
  | agg l => exact flat_owns l
  | tup l => rfl
/-- no pointers into arrays -/
def noBoxi : TW → Bool
  | .c (.boxi _ _) => false | _ => true
theorem boxesTW_enc {x : TW} (h : noBoxi x = true) : boxesTV x.enc = boxesTW x := by
  cases x with
  | c a => cases a <;> first | rfl | (rename_i b k; cases k <;> rfl) | cases h
  | agg l => rfl
  | tup l => rfl
theorem selBoxesW_enc : ∀ {tvs : List TW}, tvs.all noBoxi = true → selBoxes (tvs.map TW.enc) = selBoxesW tvs
  | [], _ => rfl
  | x :: l, h => by
    simp only [List.all_cons, Bool.and_eq_true] at h
    have := selBoxesW_enc h.2
    simp only [selBoxes, selBoxesW, List.map_cons, List.flatMap_cons, boxesTW_enc h.1] at this ⊢
    rw [this]
theorem selObsW_enc {A : Wt} {tvs : List TW} (h : tvs.all noBoxi = true) : selObs A.enc (tvs.map TW.enc) = selObsW A tvs := by
  unfold selObs selObsW
  rw [selBoxesW_enc h]
  congr 1
  · rw [List.flatMap_map]
    exact congrArg (fun g => tvs.flatMap g) (funext fun x => ownsTW_enc x)
  · congr 1
    funext b
    show ((look b (encL BW.enc A.bx)).getD []).flatMap ownsAV = _
    rw [look_encL]
    cases look b A.bx with
    | none => rfl
    | some x => cases x with
      | cells l => exact flat_owns l
      | arr l => simp [BW.enc, BW.all, List.flatMap_map, ownsAV]

/-- what a call's results do to the state -/
def goneW (ks bk kb bbk : List Nat) (a : AW) : Bool :=
  (match a with | .own o => ks.contains o && !bk.contains o | a => a.obs.any ks.contains) || a.bxs.any fun b => kb.contains b && !bbk.contains b
theorem goneW_enc (ks bk kb bbk : List Nat) (a : AW) : gone ks bk kb bbk a.enc = goneW ks bk kb bbk a := by
  unfold gone goneW
  rw [enc_bxs]
  congr 1
  cases a <;> rfl
def Wt.reduce (A : Wt) (ks bk kb bbk : List Nat) : Wt :=
  { tm := encL (TW.map (killW (goneW ks bk kb bbk))) A.tm, bx := (encL (BW.map (killW (goneW ks bk kb bbk))) A.bx).filter (fun p => !kb.contains p.1), ob := A.ob.filter fun p => !ks.contains p.1 }
theorem filter_encL {α β : Type} {f : α → β} (q : Nat → Bool) (l : List (Nat × α)) : encL f (l.filter fun p => q p.1) = (encL f l).filter fun p => q p.1 := by
  simp only [encL, List.filter_map]
  rfl
theorem Wt.reduce_enc (A : Wt) (ks bk kb bbk : List Nat) : (A.reduce ks bk kb bbk).enc = A.enc.reduce ks bk kb bbk := by
  have hg : Goes (killW (goneW ks bk kb bbk)) (killIf (gone ks bk kb bbk)) := goes_kill (fun a => goneW_enc ks bk kb bbk a) fun x => by simp [gone, AV.obs, AV.bxs]
  simp only [Wt.reduce, Wt.enc, St.reduce, tm_enc hg]
  congr 1
  · rw [← bx_enc hg]; exact filter_encL (fun n => !kb.contains n) _
  · exact filter_encL (fun n => !ks.contains n) _
end Go.Tree
namespace Go.Tree
set_option linter.unusedVariables false
set_option linter.unusedSimpArgs false
set_option linter.constructorNameAsVariable false

def zipOwnW : List AW → List AW → List (Nat × Nat)
  | a :: l, b :: r => match a, b with
    | .own o, .own n => (n, o) :: zipOwnW l r
    | _, _ => zipOwnW l r
  | _, _ => []
theorem zipOwn_cons (a b : AV) (l r : List AV) : zipOwn (a :: l) (b :: r) = match a, b with | .own o, .own n => (n, o) :: zipOwn l r | _, _ => zipOwn l r := by
  cases a <;> cases b <;> rfl
theorem zipOwnW_enc : ∀ l r : List AW, zipOwn (l.map AW.enc) (r.map AW.enc) = zipOwnW l r
  | [], r => by cases r <;> rfl
  | a :: l, [] => by simp only [List.map_cons, List.map_nil, zipOwnW]; cases a <;> rfl
  | a :: l, b :: r => by
    simp only [List.map_cons, zipOwn_cons, zipOwnW, zipOwnW_enc l r]
    cases a <;> cases b <;> rfl
def backPairsW : TW → TW → List (Nat × Nat)
  | .c a, .c b => zipOwnW [a] [b]
  | .agg l, .agg r => zipOwnW l r
  | _, _ => []
theorem backPairsW_enc (x y : TW) : backPairs x.enc y.enc = backPairsW x y := by
  cases x <;> cases y <;> first | rfl | exact zipOwnW_enc [_] [_] | exact zipOwnW_enc _ _
def backBoxesW : TW → TW → List (Nat × Nat)
  | .c (.box b k), .c (.box n j) => if k = 0 ∧ j = 0 then [(n, b)] else []
  | _, _ => []
theorem backBoxes_eq (b k n j : Nat) : backBoxes (.c (.box b k)) (.c (.box n j)) = if k = 0 ∧ j = 0 then [(n, b)] else [] := by
  cases k <;> cases j <;> simp [backBoxes]
theorem backBoxes_left {x : AV} (h : ∀ b k, x ≠ .box b k) (y : TV) : backBoxes (.c x) y = [] := by
  unfold backBoxes; split
  · simp_all
  · rfl
theorem backBoxes_right {y : AV} (h : ∀ b k, y ≠ .box b k) (x : TV) : backBoxes x (.c y) = [] := by
  unfold backBoxes; split
  · simp_all
  · rfl
theorem backBoxesW_enc {x y : TW} (hx : noBoxi x = true) (hy : noBoxi y = true) : backBoxes x.enc y.enc = backBoxesW x y := by
  cases x with
  | c a => cases y with
    | c b =>
      cases a with
      | boxi c k => exact absurd hx (by simp [noBoxi])
      | box c k => cases b with
        | boxi d j => exact absurd hy (by simp [noBoxi])
        | box d j => exact backBoxes_eq _ _ _ _
        | _ => exact backBoxes_right (fun _ _ e => by simp [AW.enc] at e) _
      | _ => exact (backBoxes_left (fun _ _ e => by simp [AW.enc] at e) _).trans (by cases b <;> rfl)
    | agg l => cases a with
      | box b k => cases k <;> rfl
      | boxi b k => exact absurd hx (by simp [noBoxi])
      | _ => rfl
    | tup l => cases a with
      | box b k => cases k <;> rfl
      | boxi b k => exact absurd hx (by simp [noBoxi])
      | _ => rfl
  | agg l => rfl
  | tup l => rfl
def prsOfW (m : Mode) (tvs : List TW) (y : Option TW) : List (Nat × Nat) := if m = 2 then (match tvs, y with | x :: _, some y => backPairsW x y | _, _ => []) else []
def bprsOfW (m : Mode) (tvs : List TW) (y : Option TW) : List (Nat × Nat) := if m = 1 then (match tvs, y with | x :: _, some y => backBoxesW x y | _, _ => []) else []
theorem prsOfW_enc (m : Mode) (tvs : List TW) (y : Option TW) : prsOf m (tvs.map TW.enc) (y.map TW.enc) = prsOfW m tvs y := by
  unfold prsOfW
  split
  · rename_i h; subst h
    cases tvs with
    | nil => cases y <;> rfl
    | cons x l => cases y with
      | none => rfl
      | some y => exact backPairsW_enc x y
  · rename_i h
    unfold prsOf
    split
    · exact absurd rfl h
    · rfl
theorem bprsOfW_enc {m : Mode} {tvs : List TW} {y : Option TW} (hx : tvs.all noBoxi = true) (hy : ∀ z, y = some z → noBoxi z = true) : bprsOf m (tvs.map TW.enc) (y.map TW.enc) = bprsOfW m tvs y := by
  unfold bprsOfW
  split
  · rename_i h; subst h
    cases tvs with
    | nil => cases y <;> rfl
    | cons x l => cases y with
      | none => rfl
      | some y =>
        simp only [List.all_cons, Bool.and_eq_true] at hx
        exact backBoxesW_enc hx.1 (hy _ rfl)
  · rename_i h
    unfold bprsOf
    split
    · exact absurd rfl h
    · rfl
def closedW : AW → Bool
  | .rd _ _ => false | .rad _ _ => false | .fnr _ _ => false | .fn _ _ => false | .adr _ _ _ => false | .adn _ _ _ _ => false | .nest _ _ => false
  | _ => true
def TW.allB (p : AW → Bool) : TW → Bool
  | .c a => p a | .agg l => l.all p | .tup l => l.all fun q => q.2.all p
def BW.allB (p : AW → Bool) : BW → Bool
  | .cells l => l.all p | .arr _ => true
def Wt.allB (p : AW → Bool) (A : Wt) : Bool := A.tm.all (fun q => q.2.allB p) && A.bx.all fun q => q.2.allB p
theorem all_imp {α β : Type} {p : α → Bool} {q : β → Bool} {f : α → β} (h : ∀ a, p a = true → q (f a) = true) {l : List α} (hl : l.all p = true) : (l.map f).all q = true := by
  simp only [List.all_eq_true, List.mem_map] at *
  rintro _ ⟨a, ha, rfl⟩
  exact h a (hl a ha)
theorem closedW_enc {a : AW} (h : closedW a = true) : closedAV a.enc = true := by cases a <;> first | rfl | cases h
theorem closed_enc {R : Wt} (h : R.allB closedW = true) : R.enc.closed = true := by
  simp only [Wt.allB, Bool.and_eq_true] at h
  simp only [St.closed, Bool.and_eq_true]
  refine ⟨all_imp (fun p hp => ?_) h.1, all_imp (fun p hp => ?_) h.2⟩
  · obtain ⟨n, x⟩ := p
    cases x with
    | c a => exact closedW_enc hp
    | agg l => exact all_imp (fun a ha => closedW_enc ha) hp
    | tup l => exact all_imp (p := fun q : Bool × List AW => q.2.all closedW) (f := fun q : Bool × List AW => (q.1, q.2.map AW.enc)) (fun q hq => all_imp (fun a ha => closedW_enc ha) hq) hp
  · obtain ⟨n, x⟩ := p
    cases x with
    | cells l => exact all_imp (fun a ha => closedW_enc ha) hp
    | arr l => exact all_imp (p := fun _ => true) (fun a ha => rfl) (by simp)
def namedW (ns bns : List Nat) (a : AW) : Bool := a.obs.all ns.contains && a.bxs.all bns.contains
theorem named_enc {R : Wt} {ns bns : List Nat} (h : R.allB (namedW ns bns) = true) : R.enc.named ns bns = true := by
  have one : ∀ a, namedW ns bns a = true → avNamed ns bns a.enc = true := fun a h => by unfold avNamed; rw [enc_obs, enc_bxs]; exact h
  simp only [Wt.allB, Bool.and_eq_true] at h
  simp only [St.named, Bool.and_eq_true]
  refine ⟨all_imp (fun p hp => ?_) h.1, all_imp (fun p hp => ?_) h.2⟩
  · obtain ⟨n, x⟩ := p
    cases x with
    | c a => exact one _ hp
    | agg l => exact all_imp (fun a ha => one _ ha) hp
    | tup l => exact all_imp (p := fun q : Bool × List AW => q.2.all (namedW ns bns)) (f := fun q : Bool × List AW => (q.1, q.2.map AW.enc)) (fun q hq => all_imp (fun a ha => one _ ha) hq) hp
  · obtain ⟨n, x⟩ := p
    cases x with
    | cells l => exact all_imp (fun a ha => one _ ha) hp
    | arr l => exact all_imp (p := fun _ => true) (fun a ha => by simp [avNamed, AV.obs, AV.bxs]) (by simp)
def toTupW : TW → Bool × List AW
  | .c a => (false, [a]) | .agg l => (true, l) | .tup _ => (false, [.unk])
def resTW (l : List (Nat × TW)) : TW := match l with
  | [p] => p.2
  | l => .tup (l.map fun p => toTupW p.2)
theorem resTW_enc (l : List (Nat × TW)) : (resTW l).enc = resTV (encL TW.enc l) := by
  have g : ∀ l : List (Nat × TW), (TW.tup (l.map fun p => toTupW p.2)).enc = .tup ((encL TW.enc l).map fun p => toTup p.2) := fun l => by
    simp only [TW.enc, encL, List.map_map]
    congr 1
    exact List.map_congr_left fun p _ => by cases hp : p.2 <;> simp [hp, toTupW, toTup, TW.enc] <;> rfl
  cases l with
  | nil => exact g []
  | cons p l => cases l with
    | nil => rfl
    | cons q l => exact g (p :: q :: l)

theorem look_getD_enc (i : Nat) (l : List (Nat × TW)) : (look i (encL TW.enc l)).getD (.c .unk) = ((look i l).getD (.c .unk)).enc := by
  rw [look_encL]
  cases look i l <;> rfl
theorem open_enc (R : Wt) : R.enc.closed = R.allB closedW := by
  have one : ∀ a : AW, closedAV a.enc = closedW a := fun a => by cases a <;> rfl
  have many : ∀ l : List AW, (l.map AW.enc).all closedAV = l.all closedW := fun l => by
    rw [List.all_map]; congr 1; funext a; exact one a
  simp only [St.closed, Wt.allB, Wt.enc, encL, List.all_map]
  congr 1
  · congr 1
    funext p
    obtain ⟨n, x⟩ := p
    cases x with
    | c a => exact one a
    | agg l => exact many l
    | tup l =>
      simp only [Function.comp, TW.enc, closedTV, TW.allB, List.all_map]
      congr 1
      funext q
      exact many q.2
  · congr 1
    funext p
    obtain ⟨n, x⟩ := p
    cases x with
    | cells l => exact many l
    | arr l =>
      simp only [Function.comp, BW.enc, BW.allB, List.all_map]
      exact List.all_eq_true.2 fun a _ => rfl
/-- what a call may look at -/
def cellsOfBox (A : Wt) (b : Nat) : List AW := match look b A.bx with | some (.cells l) => l | _ => []
def lentW (A : Wt) : AW → List Nat
  | .own o => [o] | .nest o _ => [o] | .rd s _ => s | .rad s _ => s
  | .box b _ => (cellsOfBox A b).flatMap srcsW | .boxi b _ => (cellsOfBox A b).flatMap srcsW
  | .fn _ caps => caps.flatMap fun b => (cellsOfBox A b).flatMap srcsW
  | _ => []
def sharedW (A : Wt) (bsel : List Nat) (tvs : List TW) : List AW := tvs.flatMap TW.all ++ bsel.flatMap (cellsOfBox A)
/-- the objects that are read by what a call may look at -/
def lentTo (A : Wt) (sel bsel : List Nat) (tvs : List TW) : List Nat := ((sharedW A bsel tvs).flatMap (lentW A)).filter fun o => !sel.contains o
def freezeAW (A : Wt) (L : List Nat) : AW → AW
  | .own p => if L.contains p then (match look p A.ob with | some (.f l) => .rd [] l | _ => .unk) else .own p
  | .nest p i => if L.contains p then (match look p A.ob with | some (.f ⟨.mats, ll⟩) => if i < ll.length then .rd [] ⟨.mat, ll.getD i []⟩ else .unk | _ => .unk) else .nest p i
  | .rd s d => .rd (s.filter fun o => !L.contains o) d
  | .rad s d => .rad (s.filter fun o => !L.contains o) d
  | .adr p i k => if L.contains p then .unk else .adr p i k
  | .adn p i j k => if L.contains p then .unk else .adn p i j k
  | a => a
def Wt.freezes (A : Wt) (L : List Nat) : Wt := { A.map (freezeAW A L) with ob := A.ob.filter fun p => !L.contains p.1 }
def noHole (A : Wt) (L : List Nat) : Bool := L.all fun o => match look o A.ob with | some (.h _ _) => false | _ => true
/-- what is shared leans on objects that are given up -/
def openW (A : Wt) (sel bsel : List Nat) (tvs : List TW) : Bool := noHole A (lentTo A sel bsel tvs) && ((sharedW A bsel tvs).flatMap AW.bxs).all bsel.contains
theorem srcsW_enc (a : AW) : srcs a.enc = srcsW a := by cases a <;> rfl
theorem flatMap_congr' {α β : Type} {l : List α} {f g : α → List β} (h : ∀ a ∈ l, f a = g a) : l.flatMap f = l.flatMap g := by
  induction l with
  | nil => rfl
  | cons a l ih => rw [List.flatMap_cons, List.flatMap_cons, h a (by simp), ih fun b hb => h b (by simp [hb])]
theorem flatMap_map' {α β γ : Type} (l : List α) (f : α → β) (g : β → List γ) : (l.map f).flatMap g = l.flatMap fun a => g (f a) := by
  induction l with
  | nil => rfl
  | cons a l ih => rw [List.map_cons, List.flatMap_cons, List.flatMap_cons, ih]
theorem box_flat {β : Type} (A : Wt) (b : Nat) (F : AV → List β) (hv : ∀ x, F (.v x) = []) : ((look b A.enc.bx).getD []).flatMap F = (cellsOfBox A b).flatMap fun a => F a.enc := by
  show ((look b (encL BW.enc A.bx)).getD []).flatMap F = _
  rw [look_encL]
  unfold cellsOfBox
  cases look b A.bx with
  | none => rfl
  | some x => cases x with
    | cells l => exact flatMap_map' l _ _
    | arr l =>
      show (l.map fun b => AV.v (.bool b)).flatMap F = []
      rw [flatMap_map']
      induction l with
      | nil => rfl
      | cons a l ih => rw [List.flatMap_cons, hv, ih]; rfl
theorem lentW_enc (A : Wt) (a : AW) : lentAV A.enc a.enc = lentW A a := by
  have hb : ∀ b, ((look b A.enc.bx).getD []).flatMap srcs = (cellsOfBox A b).flatMap srcsW := fun b => by
    rw [box_flat A b srcs fun x => rfl]
    exact flatMap_congr' fun a _ => srcsW_enc a
  cases a <;> simp only [AW.enc, lentAV, lentW, hb]
theorem flat_shared {β : Type} (A : Wt) (bsel : List Nat) (tvs : List TW) (F : AV → List β) (hv : ∀ x, F (.v x) = []) : (shared A.enc bsel (tvs.map TW.enc)).flatMap F = (sharedW A bsel tvs).flatMap fun a => F a.enc := by
  unfold shared sharedW
  rw [List.flatMap_append, List.flatMap_append]
  congr 1
  · rw [flatMap_map', List.flatMap_assoc, List.flatMap_assoc]
    exact flatMap_congr' fun x _ => by rw [all_enc, flatMap_map']
  · rw [List.flatMap_assoc, List.flatMap_assoc]
    exact flatMap_congr' fun b _ => box_flat A b F hv
theorem freezeAW_goes {A : Wt} {L : List Nat} (h : noHole A L = true) : Goes (freezeAW A L) (freezeAV A.enc L) := by
  refine ⟨fun a => ?_, fun _ => rfl⟩
  have hlk : ∀ p, look p A.enc.ob = (look p A.ob).map OW.enc := fun p => look_encL p A.ob
  cases a with
  | own p =>
    simp only [freezeAW, AW.enc, freezeAV]
    by_cases hp : L.contains p = true
    · rw [if_pos hp, if_pos hp]
      have hq := List.all_eq_true.1 h p (by simpa using hp)
      simp only [St.data, hlk]
      cases hl : look p A.ob with
      | none => rfl
      | some x => cases x with
        | f l => rfl
        | h l k => rw [hl] at hq; cases hq
    · rw [if_neg hp, if_neg hp]
  | nest p i =>
    simp only [freezeAW, AW.enc, freezeAV]
    by_cases hp : L.contains p = true
    · rw [if_pos hp, if_pos hp]
      have hq := List.all_eq_true.1 h p (by simpa using hp)
      simp only [St.data, hlk]
      cases hl : look p A.ob with
      | none => rfl
      | some x => cases x with
        | h l k => rw [hl] at hq; cases hq
        | f l =>
          obtain ⟨t, ll⟩ := l
          simp only [Option.map_some, OW.enc, TL.sl]
          have hget : (ll.map t.enc)[i]? = ll[i]?.map t.enc := List.getElem?_map ..
          rw [hget]
          cases hi : ll[i]? with
          | none =>
            have hle : ¬ i < ll.length := by simpa using hi
            have e : ∀ y : AW, (if i < ll.length then y else AW.unk) = AW.unk := fun y => if_neg hle
            cases t <;> first | rfl | (simp only [e]; rfl)
          | some x =>
            obtain ⟨hlt, hx⟩ := List.getElem?_eq_some_iff.1 hi
            cases t with
            | mats =>
              have e : ∀ y : AW, (if i < ll.length then y else AW.unk) = y := fun y => if_pos hlt
              have e2 : ll.getD i [] = x := by rw [List.getD_eq_getElem?_getD, hi]; rfl
              simp only [e, e2]
              have := TL.lift ⟨.mat, x⟩ rfl
              simp only [Option.map_some, Ty.enc]
              exact congrArg (AV.rd []) (congrArg (Sl.mk 2) this.symm)
            | _ => rfl
    · rw [if_neg hp, if_neg hp]
  | rd s d => rfl
  | rad s d => rfl
  | adr p i k => simp only [freezeAW, AW.enc, freezeAV]; by_cases hp : L.contains p = true <;> simp only [hp] <;> rfl
  | adn p i j k => simp only [freezeAW, AW.enc, freezeAV]; by_cases hp : L.contains p = true <;> simp only [hp] <;> rfl
  | _ => rfl
theorem Wt.freezes_enc {A : Wt} {L : List Nat} (h : noHole A L = true) : (A.freezes L).enc = A.enc.freezes L := by
  have := Wt.map_enc (freezeAW_goes h) A
  simp only [Wt.freezes, St.freezes, ← this]
  show St.mk _ _ _ = St.mk _ _ _
  congr 1
  exact filter_encL (fun n => !L.contains n) A.ob
def headW (m : Mode) (tvs : List TW) : List TW := if m = 0 then [] else tvs.take 1
def noBoxiO : Option TW → Bool | some z => noBoxi z | none => true
/-- behind a call that told R -/
def takeW (A : Wt) (dst : Option Nat) (m : Mode) (tvs : List TW) (nres : Nat) (R : Wt) : Option Wt :=
  let t := dst.getD 99999
  let prs := prsOfW m tvs (look nres R.tm)
  let bprs := bprsOfW m tvs (look nres R.tm)
  let ns := R.ob.map (·.1)
  let bns := R.bx.map (·.1)
  let f := fun n => (look n prs).getD (n + nm t 0)
  let g := fun n => (look n bprs).getD (n + (nm t 0 + 1000000))
  let hd := headW m tvs
  let sel := selObsW A hd
  let bsel := selBoxesW hd
  let bk := ns.filterMap fun n => look n prs
  let bbk := bns.filterMap fun n => look n bprs
  if (R.allB closedW || openW A sel bsel tvs) && R.allB (namedW ns bns) && nodup (ns.map f) && nodup (bns.map g) && tvs.all noBoxi && noBoxiO (look nres R.tm) then
    let A := if R.allB closedW then A else A.freezes (lentTo A sel bsel tvs)
    let A := A.reduce (sel ++ ns.map f) bk (bsel ++ bns.map g) bbk
    let R := R.ren f g
    let A : Wt := { A with bx := R.bx ++ A.bx, ob := R.ob ++ A.ob }
    some (A.dst dst (resTW ((List.range nres).map fun i => (i, (look i R.tm).getD (.c .unk)))))
  else none
theorem encL_append {α β : Type} {f : α → β} (l m : List (Nat × α)) : encL f (l ++ m) = encL f l ++ encL f m := by simp [encL]
theorem keys_encL {α β : Type} {f : α → β} (l : List (Nat × α)) : (encL f l).map (·.1) = l.map (·.1) := by simp [encL, Function.comp_def]
theorem takeW_enc {A A' R : Wt} {dst : Option Nat} {m : Mode} {tvs : List TW} {nres : Nat} (h : takeW A dst m tvs nres R = some A') : A.enc.take dst m false (tvs.map TW.enc) nres R.enc = some A'.enc := by
  unfold takeW at h
  dsimp only at h
  split at h
  · rename_i hc
    simp only [Bool.and_eq_true] at hc
    obtain ⟨⟨⟨⟨⟨h1, h2⟩, h3⟩, h4⟩, h5⟩, h6⟩ := hc
    cases h
    have hl : look nres R.enc.tm = (look nres R.tm).map TW.enc := look_encL nres R.tm
    have hns : R.enc.ob.map (·.1) = R.ob.map (·.1) := keys_encL R.ob
    have hbns : R.enc.bx.map (·.1) = R.bx.map (·.1) := keys_encL R.bx
    have hprs : prsOf m (tvs.map TW.enc) (look nres R.enc.tm) = prsOfW m tvs (look nres R.tm) := by rw [hl]; exact prsOfW_enc m tvs _
    have hbprs : bprsOf m (tvs.map TW.enc) (look nres R.enc.tm) = bprsOfW m tvs (look nres R.tm) := by
      rw [hl]
      exact bprsOfW_enc h5 fun z hz => by rw [hz] at h6; exact h6
    have hhd : handed m (tvs.map TW.enc) = (headW m tvs).map TW.enc := by
      unfold handed headW
      split
      · rfl
      · rw [List.map_take]
    have hhb : (headW m tvs).all noBoxi = true := by
      unfold headW
      split
      · rfl
      · simp only [List.all_eq_true] at h5 ⊢
        exact fun x hx => h5 x (List.mem_of_mem_take hx)
    have hlent : ∀ sel bsel, ((shared A.enc bsel (tvs.map TW.enc)).flatMap (lentAV A.enc)).filter (fun o => !sel.contains o) = lentTo A sel bsel tvs := fun sel bsel => by
      rw [flat_shared A bsel tvs (lentAV A.enc) fun x => rfl]
      have : (sharedW A bsel tvs).flatMap (fun a => lentAV A.enc a.enc) = (sharedW A bsel tvs).flatMap (lentW A) := flatMap_congr' fun a _ => lentW_enc A a
      rw [this]; rfl
    have hcl : ∀ sel bsel, (R.allB closedW || openW A sel bsel tvs) = true → ((R.enc.closed || ((shared A.enc bsel (tvs.map TW.enc)).flatMap AV.bxs).all bsel.contains) = true ∧
        (if R.enc.closed = true then A.enc else A.enc.freezes (((shared A.enc bsel (tvs.map TW.enc)).flatMap (lentAV A.enc)).filter (fun o => !sel.contains o))) = (if R.allB closedW then A else A.freezes (lentTo A sel bsel tvs)).enc) := fun sel bsel hh => by
      cases hcc : R.allB closedW with
      | true => rw [closed_enc hcc]; exact ⟨rfl, rfl⟩
      | false =>
        rw [hcc, Bool.false_or] at hh
        simp only [openW, Bool.and_eq_true] at hh
        have hb : ((shared A.enc bsel (tvs.map TW.enc)).flatMap AV.bxs).all bsel.contains = true := by
          rw [flat_shared A bsel tvs AV.bxs fun x => rfl]
          have : (sharedW A bsel tvs).flatMap (fun a => a.enc.bxs) = (sharedW A bsel tvs).flatMap AW.bxs := flatMap_congr' fun a _ => enc_bxs a
          rw [this]; exact hh.2
        have hnc : R.enc.closed = false := by rw [open_enc, hcc]
        rw [hb, hlent, Bool.or_true, hnc]
        refine ⟨rfl, ?_⟩
        simp only [Bool.false_eq_true, if_false]
        exact (Wt.freezes_enc hh.1).symm
    obtain ⟨hc1, hc2⟩ := hcl _ _ h1
    unfold St.take
    dsimp only
    simp only [Bool.false_eq_true, if_false, hns, hbns, hprs, hbprs, hhd, selObsW_enc hhb, selBoxesW_enc hhb, hc1, hc2, Bool.true_and, named_enc h2, h3, h4, Bool.and_self, if_true]
    refine congrArg some ?_
    rw [Wt.dst_enc, resTW_enc, ← Wt.reduce_enc, ← Wt.ren_enc]
    congr 1
    · show St.mk _ _ _ = St.mk _ _ _
      congr 1
      · exact (encL_append _ _).symm
      · exact (encL_append _ _).symm
    · congr 1
      simp only [encL, List.map_map]
      refine List.map_congr_left fun i _ => ?_
      exact Prod.ext rfl (look_getD_enc i _)
  · cases h
end Go.Tree
namespace Go.Tree
set_option linter.unusedVariables false
set_option linter.unusedSimpArgs false
set_option linter.constructorNameAsVariable false

/-- a tuple -/
abbrev denL {α : Type} (f : α → Type) : List α → Type
  | [] => Unit
  | a :: l => f a × denL f l
def mkL {α β : Type} {f : α → Type} (m : (a : α) → f a → β) : (l : List α) → denL f l → List β
  | [], _ => []
  | a :: l, x => m a x.1 :: mkL m l x.2
def decL {α β : Type} {f : α → Type} (d : (a : α) → β → Option (f a)) : (l : List α) → List β → Option (denL f l)
  | [], [] => some ()
  | a :: l, b :: m => match d a b, decL d l m with | some x, some y => some (x, y) | _, _ => none
  | _, _ => none
theorem decL_rel {α β γ : Type} {f : α → Type} {d : (a : α) → β → Option (f a)} {m : (a : α) → f a → γ} {R : β → γ → Prop} (h : ∀ a b x, d a b = some x → R b (m a x)) :
    ∀ {l : List α} {bs : List β} {x : denL f l}, decL d l bs = some x → F2 R bs (mkL m l x)
  | [], [], _, _ => .nil
  | a :: l, b :: bs, x, e => by
    simp only [decL] at e
    split at e
    · rename_i y z h1 h2; cases e; exact .cons (h _ _ _ h1) (decL_rel h h2)
    · cases e
  | [], _ :: _, _, e => by cases e
  | _ :: _, [], _, e => by cases e

inductive CS where
  | int (k : IntKind) | bool | str | s (t : Ty) | u
abbrev CS.den : CS → Type
  | .int _ => Int | .bool => Bool | .str => ByteArray | .s t => List t.den | .u => Unit
def CS.mk : (s : CS) → s.den → CW
  | .int k, n => .v (.int k n) | .bool, b => .v (.bool b) | .str, z => .v (.string z) | .s t, l => .s ⟨t, l⟩ | .u, _ => .u
def castTL (t : Ty) (l : TL) : Option (List t.den) := if h : l.t = t then some (h ▸ l.l) else none
def CS.dec : (s : CS) → CW → Option s.den
  | .int k, .v (.int k' n) => if k' = k then some n else none
  | .bool, .v (.bool b) => some b
  | .str, .v (.string z) => some z
  | .s t, .s l => castTL t l
  | .u, _ => some ()
  | _, _ => none
theorem castTL_eq {t : Ty} {l : TL} {x : List t.den} (h : castTL t l = some x) : l = ⟨t, x⟩ := by
  unfold castTL at h
  split at h
  · rename_i e; cases h; obtain ⟨t', l⟩ := l; cases e; rfl
  · cases h
theorem CS.dec_le (s : CS) (c : CW) (x : s.den) (h : s.dec c = some x) : CLe c.enc (s.mk x).enc := by
  unfold CS.dec at h
  split at h
  · split at h
    · rename_i e; cases h; subst e; exact .refl _
    · cases h
  · cases h; exact .refl _
  · cases h; exact .refl _
  · rw [castTL_eq h]; exact .refl _
  · exact .x _
  · cases h

inductive AS where
  | unk | int (k : IntKind) | bool | lit (b : Bool) | str | nil
  | rd (s : List Nat) (t : Ty) | own (o : Nat) | box (b off : Nat) | rad (s : List Nat) (c : List CS) | fn (f : FuncId) (caps : List Nat) | fnr (f : FuncId) (caps : List (List CS))
abbrev AS.den : AS → Type
  | .int _ => Int | .bool => Bool | .str => ByteArray | .rd _ t => List t.den | .rad _ c => denL CS.den c | .fnr _ caps => denL (denL CS.den) caps | _ => Unit
def AS.mk : (s : AS) → s.den → AW
  | .unk, _ => .unk | .int k, n => .v (.int k n) | .bool, b => .v (.bool b) | .lit b, _ => .v (.bool b) | .str, s => .v (.string s) | .nil, _ => .nil
  | .rd s t, l => .rd s ⟨t, l⟩ | .own o, _ => .own o | .box b k, _ => .box b k | .rad s c, x => .rad s (mkL CS.mk c x) | .fn f l, _ => .fn f l | .fnr f caps, x => .fnr f (mkL (mkL CS.mk) caps x)
def AS.dec (ob : List (Nat × OW)) : (s : AS) → AW → Option s.den
  | .unk, _ => some ()
  | .int k, .v (.int k' n) => if k' = k then some n else none
  | .bool, .v (.bool b) => some b
  | .lit b, .v (.bool c) => if c = b then some () else none
  | .str, .v (.string s) => some s
  | .nil, .nil => some ()
  | .rd s t, .rd s' l => if s'.all s.contains then castTL t l else none
  | .rd _ _, .nil => some []
  | .rd s t, .own o => if s.contains o then (match look o ob with | some (.f l) => castTL t l | _ => none) else none
  | .own o, .own o' => if o' = o then some () else none
  | .box b k, .box b' k' => if b' = b ∧ k' = k then some () else none
  | .rad s c, .rad s' c' => if s'.all s.contains then decL CS.dec c c' else none
  | .fn f l, .fn f' l' => if f' = f ∧ l' = l then some () else none
  | .fnr f caps, .fnr f' caps' => if f' = f then decL (decL CS.dec) caps caps' else none
  | _, _ => none
inductive TS where
  | c (a : AS) | agg (l : List AS)
abbrev TS.den : TS → Type
  | .c a => a.den | .agg l => denL AS.den l
def TS.mk : (s : TS) → s.den → TW
  | .c a, x => .c (a.mk x) | .agg l, x => .agg (mkL AS.mk l x)
def TS.dec (ob : List (Nat × OW)) : (s : TS) → TW → Option s.den
  | .c a, .c x => a.dec ob x | .agg l, .agg x => decL (AS.dec ob) l x
  | .c .unk, _ => some ()
  | _, _ => none
inductive BS where
  | cells (l : List AS) | arr
abbrev BS.den : BS → Type
  | .cells l => denL AS.den l | .arr => List Bool
def BS.mk : (s : BS) → s.den → BW
  | .cells l, x => .cells (mkL AS.mk l x) | .arr, x => .arr x
def BS.dec (ob : List (Nat × OW)) : (s : BS) → BW → Option s.den
  | .cells l, .cells x => decL (AS.dec ob) l x | .arr, .arr x => some x
  | _, _ => none
structure Sh where
  tm : List (Nat × TS)
  bx : List (Nat × BS)
  ob : List (Nat × Ty)
abbrev Sh.den (s : Sh) : Type := denL (fun p : Nat × TS => p.2.den) s.tm × denL (fun p : Nat × BS => p.2.den) s.bx × denL (fun p : Nat × Ty => List p.2.den) s.ob
def Sh.mk' (s : Sh) (x : s.den) : Wt :=
  { tm := mkL (fun p y => (p.1, TS.mk p.2 y)) s.tm x.1, bx := mkL (fun p y => (p.1, BS.mk p.2 y)) s.bx x.2.1, ob := mkL (fun p y => (p.1, OW.f ⟨p.2, y⟩)) s.ob x.2.2 }
/-- what a list of named things holds -/
def decN {α : Type} {f : α → Type} (d : (a : α) → Option (f a)) : (l : List α) → Option (denL f l)
  | [] => some ()
  | a :: l => match d a, decN d l with | some x, some y => some (x, y) | _, _ => none
def Sh.dec (s : Sh) (A : Wt) : Option s.den :=
  match decN (f := fun p : Nat × TS => p.2.den) (fun p => TS.dec A.ob p.2 (A.get p.1)) s.tm,
    decN (f := fun p : Nat × BS => p.2.den) (fun p => match look p.1 A.bx with | some x => BS.dec A.ob p.2 x | none => none) s.bx,
    decN (f := fun p : Nat × Ty => List p.2.den) (fun p => match look p.1 A.ob with | some (.f l) => castTL p.2 l | _ => none) s.ob with
  | some x, some y, some z => some (x, y, z)
  | _, _, _ => none
theorem decN_look {α β : Type} {f : Nat × α → Type} {d : (a : Nat × α) → Option (f a)} {m : (a : Nat × α) → f a → β} {n : Nat} {y : β} :
    ∀ {l : List (Nat × α)} {x : denL f l}, decN d l = some x → look n (mkL (fun p y => (p.1, m p y)) l x) = some y → ∃ p z, p ∈ l ∧ p.1 = n ∧ d p = some z ∧ y = m p z
  | [], _, _, h => by cases h
  | a :: l, x, e, h => by
    simp only [decN] at e
    split at e
    · rename_i u v h1 h2
      cases e
      simp only [mkL, look] at h
      split at h
      · rename_i e; cases h; exact ⟨a, u, by simp, e, h1, rfl⟩
      · obtain ⟨p, z, k1, k2⟩ := decN_look h2 h
        exact ⟨p, z, List.mem_cons_of_mem _ k1, k2⟩
    · cases e

section
variable {γ : Gh} {A : Wt} {tmps : Array Value} {w : World}
theorem inR_sub {s s' : List Nat} (h : s'.all s.contains = true) {b : Nat} (hb : γ.inR s' b) : γ.inR s b := by
  rcases hb with hz | ⟨o, ho, hb⟩
  · exact .inl hz
  · exact .inr ⟨o, by simpa using List.all_eq_true.1 h o ho, hb⟩
theorem AS.dec_rep (hR : Rel γ A.enc tmps w) (s : AS) (a : AW) (x : s.den) (h : s.dec A.ob a = some x) {y : Value} (hy : AVrep γ w a.enc y) : AVrep γ w (s.mk x).enc y := by
  unfold AS.dec at h
  split at h
  · trivial
  · split at h
    · rename_i e; cases h; subst e; exact hy
    · cases h
  · cases h; exact hy
  · split at h
    · rename_i e; subst e; exact hy
    · cases h
  · cases h; exact hy
  · exact hy
  · split at h
    · rename_i e; rw [castTL_eq h] at hy; exact SlAt.mono hy fun b hb => inR_sub e hb
    · cases h
  · cases h
    have hy : y = .slice none 0 0 := hy
    subst hy
    exact SlAt.nilv
  · split at h
    · rename_i o hs
      split at h
      · rename_i l hl
        have hd := data_rep (a := ⟨tmps, []⟩) hR hy (ob_data hl)
        rw [castTL_eq h] at hd
        exact SlAt.mono hd fun b hb => inR_sub (s' := [o]) (by simpa using hs) hb
      · cases h
    · cases h
  · split at h
    · rename_i e; subst e; exact hy
    · cases h
  · split at h
    · rename_i e; obtain ⟨rfl, rfl⟩ := e; exact hy
    · cases h
  · split at h
    · rename_i e
      have hf : F2 (fun a b : CW => CLe a.enc b.enc) _ _ := decL_rel (R := fun a b : CW => CLe a.enc b.enc) CS.dec_le h
      exact RadAt.le (RadAt.move hy fun b hb _ => ⟨rfl, inR_sub e hb⟩) (hf.mapmap fun _ _ h => h)
    · cases h
  · split at h
    · rename_i e; obtain ⟨rfl, rfl⟩ := e; exact hy
    · cases h
  · split at h
    · rename_i e
      subst e
      have hf : F2 (fun a b : List CW => F2 (fun a b : CW => CLe a.enc b.enc) a b) _ _ := decL_rel (d := decL CS.dec) (m := mkL CS.mk) (R := fun a b : List CW => F2 (fun a b : CW => CLe a.enc b.enc) a b) (fun a b x h => decL_rel (R := fun a b : CW => CLe a.enc b.enc) CS.dec_le h) h
      exact AVrep.le hy (.fnr _ (hf.mapmap fun _ _ h => h.mapmap fun _ _ h => h))
    · cases h
  · cases h
theorem decL_cells (hR : Rel γ A.enc tmps w) {l : List AS} {m : List AW} {x : denL AS.den l} (h : decL (AS.dec A.ob) l m = some x) {cs : List Value} (hc : Cells γ w (m.map AW.enc) cs) : Cells γ w ((mkL AS.mk l x).map AW.enc) cs := by
  have hf : F2 (fun a b : AW => ∀ y, AVrep γ w a.enc y → AVrep γ w b.enc y) m (mkL AS.mk l x) := decL_rel (R := fun a b : AW => ∀ y, AVrep γ w a.enc y → AVrep γ w b.enc y) (fun s a x h y hy => AS.dec_rep hR s a x h hy) h
  unfold Cells at *
  generalize mkL AS.mk l x = m' at hf
  clear h
  induction hf generalizing cs with
  | nil => exact hc
  | cons r _ ih =>
    cases hc with
    | cons r' hc => exact .cons ⟨r _ r'.1, r'.2⟩ (ih hc)
theorem TS.dec_rep (hR : Rel γ A.enc tmps w) (s : TS) (a : TW) (x : s.den) (h : s.dec A.ob a = some x) {y : Value} (hy : TVrep γ w a.enc y) : TVrep γ w (s.mk x).enc y := by
  unfold TS.dec at h
  split at h
  · exact AS.dec_rep hR _ _ _ h hy
  · obtain ⟨cs, e, hc⟩ := hy
    exact ⟨cs, e, decL_cells hR h hc⟩
  · trivial
  · cases h
theorem BS.dec_rep (hR : Rel γ A.enc tmps w) (s : BS) (a : BW) (x : s.den) (h : s.dec A.ob a = some x) {cs : List Value} (hc : Cells γ w a.enc cs) : Cells γ w (s.mk x).enc cs := by
  unfold BS.dec at h
  split at h
  · exact decL_cells hR h hc
  · cases h; exact hc
  · cases h
/-- A state holds what its shape says. -/
theorem Sh.dec_rel (s : Sh) {x : s.den} (hR : Rel γ A.enc tmps w) (h : s.dec A = some x) : Rel γ (s.mk' x).enc tmps w := by
  unfold Sh.dec at h
  split at h
  · rename_i a b c h1 h2 h3
    cases h
    refine ⟨fun t y hy => ?_, fun t y hy => ?_, fun t y hy => ?_, hR.zt, hR.lt⟩
    · have hy : look t (encL TW.enc (mkL (fun p y => (p.1, TS.mk p.2 y)) s.tm a)) = some y := hy
      rw [look_encL, Option.map_eq_some_iff] at hy
      obtain ⟨z, hz, rfl⟩ := hy
      obtain ⟨p, u, k1, k2, k3, rfl⟩ := decN_look (m := fun (p : Nat × TS) y => TS.mk p.2 y) h1 hz
      subst k2
      refine TS.dec_rep hR p.2 _ u k3 ?_
      have := hR.eval (d := []) (.tmp p.1)
      rw [← A.ev_enc] at this
      exact this
    · have hy : look t (encL BW.enc (mkL (fun p y => (p.1, BS.mk p.2 y)) s.bx b)) = some y := hy
      rw [look_encL, Option.map_eq_some_iff] at hy
      obtain ⟨z, hz, rfl⟩ := hy
      obtain ⟨p, u, k1, k2, k3, rfl⟩ := decN_look (m := fun (p : Nat × BS) y => BS.mk p.2 y) h2 hz
      subst k2
      split at k3
      · rename_i bw hbw
        obtain ⟨cs, e, g1, g2, g3⟩ := hR.bx p.1 _ (bxEnc hbw)
        exact ⟨cs, e, g1, g2, BS.dec_rep hR p.2 _ u k3 g3⟩
      · cases k3
    · have hy : look t (encL OW.enc (mkL (fun p y => (p.1, OW.f ⟨p.2, y⟩)) s.ob c)) = some y := hy
      rw [look_encL, Option.map_eq_some_iff] at hy
      obtain ⟨z, hz, rfl⟩ := hy
      obtain ⟨p, u, k1, k2, k3, rfl⟩ := decN_look (m := fun (p : Nat × Ty) y => OW.f ⟨p.2, y⟩) h3 hz
      subst k2
      split at k3
      · rename_i l hl
        rw [← castTL_eq k3]
        exact hR.ob p.1 _ (obEnc hl)
      · cases k3
  · cases h
end

/-- nil becomes an empty object -/
inductive Pl where
  | tm (t : Nat) | ta (t i : Nat) | bx (t i : Nat)
def freshW (N : Nat) (A : Wt) : Bool := A.allB (fun a => !a.obs.contains N) && (look N A.ob).isNone
def isNil : AW → Bool | .nil => true | _ => false
def nilAt (l : List AW) (i : Nat) : Bool := match l[i]? with | some a => isNil a | none => false
def Wt.addOb (A : Wt) (N : Nat) (t : Ty) : Wt := { A with ob := (N, .f ⟨t, []⟩) :: A.ob }
def ownify1 (p : Pl) (N : Nat) (ty : Ty) (A : Wt) : Wt := match p with
  | .tm t => match look t A.tm with
    | some (.c .nil) => if freshW N A then { A.addOb N ty with tm := put t (.c (.own N)) A.tm } else A
    | _ => A
  | .ta t i => match look t A.tm with
    | some (.agg l) => if nilAt l i && freshW N A then { A.addOb N ty with tm := put t (.agg (l.set i (.own N))) A.tm } else A
    | _ => A
  | .bx t i => match A.get t with
    | .c (.box b 0) => match look b A.bx with
      | some (.cells l) => if nilAt l i && freshW N A then { A.addOb N ty with bx := put b (.cells (l.set i (.own N))) A.bx } else A
      | _ => A
    | _ => A
def ownify (l : List (Pl × Nat × Ty)) (A : Wt) : Wt := l.foldl (fun A p => ownify1 p.1 p.2.1 p.2.2 A) A

section
variable {γ : Gh} {A : Wt} {tmps : Array Value} {w : World}
theorem allB_avs {A : Wt} {p : AW → Bool} {q : AV → Prop} (h : A.allB p = true) (hpq : ∀ a, p a = true → q a.enc) (hv : ∀ x, q (.v x)) : ∀ a ∈ A.enc.avs, q a := by
  intro a ha
  simp only [Wt.allB, Bool.and_eq_true, List.all_eq_true] at h
  simp only [St.avs, List.mem_append, List.mem_flatMap, Wt.enc, encL, List.mem_map] at ha
  rcases ha with ⟨_, ⟨x, hx, rfl⟩, ha⟩ | ⟨_, ⟨x, hx, rfl⟩, ha⟩
  · have h1 := h.1 x hx
    rw [← all_avs, all_enc, List.mem_map] at ha
    obtain ⟨b, hb, rfl⟩ := ha
    refine hpq b ?_
    cases hx2 : x.2 with
    | c a => rw [hx2] at h1 hb; simp only [TW.all, List.mem_singleton] at hb; subst hb; exact h1
    | agg l => rw [hx2] at h1 hb; simp only [TW.allB, List.all_eq_true] at h1; exact h1 b hb
    | tup l =>
      rw [hx2] at h1 hb
      simp only [TW.allB, List.all_eq_true] at h1
      simp only [TW.all, List.mem_flatMap] at hb
      obtain ⟨q, hq, hb⟩ := hb
      exact h1 q hq b hb
  · have h1 := h.2 x hx
    cases hx2 : x.2 with
    | cells l =>
      rw [hx2] at h1 ha
      simp only [BW.allB, List.all_eq_true] at h1
      simp only [BW.enc, List.mem_map] at ha
      obtain ⟨b, hb, rfl⟩ := ha
      exact hpq b (h1 b hb)
    | arr l =>
      rw [hx2] at ha
      simp only [BW.enc, List.mem_map] at ha
      obtain ⟨b, hb, rfl⟩ := ha
      exact hv _
theorem Rel.addOb (hR : Rel γ A.enc tmps w) {N : Nat} {t : Ty} (hf : freshW N A = true) :
    ∃ γ', Rel γ' (A.addOb N t).enc tmps w ∧ (∀ γ0 w0, Hist γ0 w0 γ w → Hist γ0 w0 γ' w) ∧ AVrep γ' w (.own N) (.slice none 0 0) := by
  simp only [freshW, Bool.and_eq_true] at hf
  have hav : ∀ a ∈ A.enc.avs, N ∉ a.obs := allB_avs hf.1 (fun a h => by rw [enc_obs]; simpa using h) fun x => by simp [AV.obs]
  have hno : look N A.enc.ob = none := by
    show look N (encL OW.enc A.ob) = none
    rw [look_encL]
    simpa using hf.2
  let γ' : Gh := { γ with hd := fun o => if o = N then .slice none 0 0 else γ.hd o }
  have ne : ∀ o, o ≠ N → γ'.hd o = γ.hd o := fun o h => if_neg h
  have h0 : Rel γ' A.enc tmps w := by
    refine hR.move (fun a ha => ⟨fun b hb _ => ⟨rfl, hb⟩, fun b hb _ => ⟨rfl, hb⟩, fun o ho => ⟨ne o fun e => hav a ha (e ▸ ho), rfl⟩, fun o i _ => ⟨rfl, rfl⟩, fun b _ => rfl⟩)
      (fun b l _ => ⟨rfl, rfl, rfl⟩) (fun o l hl => ⟨fun b _ _ => ⟨rfl, rfl⟩, ⟨ne o fun e => (by rw [e, hno] at hl; cases hl), rfl⟩, fun i => ⟨rfl, rfl⟩⟩) hR.zt hR.lt
  refine ⟨γ', ⟨h0.tm, h0.bx, fun o l hl => ?_, h0.zt, h0.lt⟩, fun γ0 w0 hH => ⟨hH.size, hH.os, hH.tape, hH.output, hH.block, hH.z⟩, (if_pos rfl).symm, rfl⟩
  have hl : look o ((N, (OW.f ⟨t, []⟩).enc) :: A.enc.ob) = some l := hl
  simp only [look] at hl
  split at hl
  · rename_i e
    cases hl
    subst e
    exact ⟨by simp [OW.enc, TL.sl], .inl ⟨⟨none, if_pos rfl, fun _ => rfl⟩, rfl⟩⟩
  · exact h0.ob o l hl
theorem cells_nil {γ : Gh} {l : List AW} {i N : Nat} {cs : List Value} (hn : nilAt l i = true) (hN : AVrep γ w (.own N) (.slice none 0 0)) (hc : Cells γ w (l.map AW.enc) cs) : Cells γ w ((l.set i (.own N)).map AW.enc) cs := by
  unfold Cells at *
  have hlen := hc.length
  refine F2.of_get (by simpa using hlen) fun j a u ha hu => ?_
  rw [List.getElem?_map, List.getElem?_set] at ha
  unfold nilAt at hn
  split at hn
  · rename_i x hx
    have hxi : x = .nil := by cases x <;> first | rfl | cases hn
    subst hxi
    split at ha
    · rename_i e
      subst e
      split at ha
      · cases ha
        obtain ⟨u', hu', h1, h2⟩ := hc.get (i := i) (a := .nil) (by simp [hx, AW.enc])
        rw [hu] at hu'
        cases hu'
        have h1 : u = .slice none 0 0 := h1
        subst h1
        exact ⟨hN, rfl⟩
      · cases ha
    · obtain ⟨u', hu', h1⟩ := hc.get (i := j) (a := a) (by rw [List.getElem?_map]; exact ha)
      rw [hu] at hu'
      cases hu'
      exact h1
  · cases hn
theorem ownify1_rel (hR : Rel γ A.enc tmps w) (p : Pl) (N : Nat) (ty : Ty) : ∃ γ', Rel γ' (ownify1 p N ty A).enc tmps w ∧ ∀ γ0 w0, Hist γ0 w0 γ w → Hist γ0 w0 γ' w := by
  have same : ∃ γ', Rel γ' A.enc tmps w ∧ ∀ γ0 w0, Hist γ0 w0 γ w → Hist γ0 w0 γ' w := ⟨γ, hR, fun _ _ h => h⟩
  unfold ownify1
  split
  · rename_i t
    split
    · rename_i hl
      split
      · rename_i hf
        obtain ⟨γ', h1, h2, h3⟩ := hR.addOb (t := ty) hf
        refine ⟨γ', ⟨fun s x hx => ?_, h1.bx, h1.ob, h1.zt, h1.lt⟩, h2⟩
        have hx : look s (encL TW.enc (put t (.c (.own N)) A.tm)) = some x := hx
        rw [put_encL, look_put] at hx
        split at hx
        · rename_i e
          cases hx
          subst e
          have := h1.tm s (.c .nil) (by show look s (encL TW.enc A.tm) = _; rw [look_encL, hl]; rfl)
          have this : tmps.getD s undef = .slice none 0 0 := this
          rw [this]
          exact h3
        · exact h1.tm s x hx
      · exact same
    · exact same
  · rename_i t i
    split
    · rename_i l hl
      split
      · rename_i hc
        simp only [Bool.and_eq_true] at hc
        obtain ⟨γ', h1, h2, h3⟩ := hR.addOb (t := ty) hc.2
        refine ⟨γ', ⟨fun s x hx => ?_, h1.bx, h1.ob, h1.zt, h1.lt⟩, h2⟩
        have hx : look s (encL TW.enc (put t (.agg (l.set i (.own N))) A.tm)) = some x := hx
        rw [put_encL, look_put] at hx
        split at hx
        · rename_i e
          cases hx
          subst e
          have := h1.tm s (.agg (l.map AW.enc)) (by show look s (encL TW.enc A.tm) = _; rw [look_encL, hl]; rfl)
          obtain ⟨cs, e, hc'⟩ := this
          exact ⟨cs, e, cells_nil hc.1 h3 hc'⟩
        · exact h1.tm s x hx
      · exact same
    · exact same
  · rename_i t i
    split
    · rename_i b _
      split
      · rename_i l hl
        split
        · rename_i hc
          simp only [Bool.and_eq_true] at hc
          obtain ⟨γ', h1, h2, h3⟩ := hR.addOb (t := ty) hc.2
          refine ⟨γ', ⟨h1.tm, fun s x hx => ?_, h1.ob, h1.zt, h1.lt⟩, h2⟩
          have hx : look s (encL BW.enc (put b (.cells (l.set i (.own N))) A.bx)) = some x := hx
          rw [put_encL, look_put] at hx
          split at hx
          · rename_i e
            cases hx
            subst e
            obtain ⟨cs, e, g1, g2, g3⟩ := h1.bx s (l.map AW.enc) (by show look s (encL BW.enc A.bx) = _; rw [look_encL, hl]; rfl)
            exact ⟨cs, e, g1, g2, cells_nil hc.1 h3 g3⟩
          · exact h1.bx s x hx
        · exact same
      · exact same
    · exact same
theorem ownify_rel : ∀ (l : List (Pl × Nat × Ty)) {A : Wt} {γ : Gh}, Rel γ A.enc tmps w → ∃ γ', Rel γ' (ownify l A).enc tmps w ∧ ∀ γ0 w0, Hist γ0 w0 γ w → Hist γ0 w0 γ' w
  | [], A, γ, hR => ⟨γ, hR, fun _ _ h => h⟩
  | p :: l, A, γ, hR => by
    obtain ⟨γ1, h1, h2⟩ := ownify1_rel hR p.1 p.2.1 p.2.2
    obtain ⟨γ2, h3, h4⟩ := ownify_rel l h1
    exact ⟨γ2, h3, fun γ0 w0 h => h4 γ0 w0 (h2 γ0 w0 h)⟩
end
end Go.Tree
namespace Go.Tree
set_option linter.unusedVariables false
set_option linter.unusedSimpArgs false
set_option linter.constructorNameAsVariable false
set_option maxHeartbeats 200000

/-- one of several shapes -/
abbrev altDen : List Sh → Type
  | [] => Empty
  | [s] => s.den
  | s :: t :: l => s.den ⊕ altDen (t :: l)
def altMk : (l : List Sh) → altDen l → Wt
  | [], x => x.elim
  | [s], x => s.mk' x
  | s :: t :: l, x => match x with | .inl y => s.mk' y | .inr y => altMk (t :: l) y
def altK {β : Type} : (l : List Sh) → altDen l → (Wt → Option β) → Option β
  | [], x, K => none
  | [s], x, K => K (s.mk' x)
  | s :: t :: l, x, K => match x with | .inl y => K (s.mk' y) | .inr y => altK (t :: l) y K
def altDec : (l : List Sh) → Wt → Option (altDen l)
  | [], _ => none
  | [s], A => s.dec A
  | s :: t :: l, A => match s.dec A with
    | some x => some (.inl x)
    | none => (altDec (t :: l) A).map .inr
theorem altK_eq {β : Type} {K : Wt → Option β} : ∀ {l : List Sh} {x : altDen l}, altK l x K = K (altMk l x)
  | [], x => x.elim
  | [s], x => rfl
  | s :: t :: l, .inl y => rfl
  | s :: t :: l, .inr y => altK_eq (l := t :: l) (x := y)
theorem altDec_rel {γ : Gh} {A : Wt} {tmps : Array Value} {w : World} (hR : Rel γ A.enc tmps w) : ∀ {l : List Sh} {x : altDen l}, altDec l A = some x → Rel γ (altMk l x).enc tmps w
  | [], x, _ => x.elim
  | [s], x, h => s.dec_rel hR h
  | s :: t :: l, x, h => by
    simp only [altDec] at h
    split at h
    · rename_i y hy; cases h; exact s.dec_rel hR hy
    · simp only [Option.map_eq_some_iff] at h
      obtain ⟨y, hy, rfl⟩ := h
      exact altDec_rel hR (l := t :: l) hy

/-- what a function does -/
structure Ctr where
  f : FuncId
  arg : Sh
  res : List Sh
  F : arg.den → Option (altDen res)
  /-- the number of the arguments, where it counts -/
  ar : Option Nat
/-- the variables of the packages hold what they held at the start -/
def PkOk (E : Env) (γ : Gh) (w : World) : Prop := ∃ w1 : World, E.pk w1 ∧ ∀ b, b < w1.heap.size → b < w.heap.size ∧ w.heap[b]? = w1.heap[b]? ∧ γ.tg b = none
theorem PkOk.hist {E : Env} {γ0 γ : Gh} {w0 w : World} (h : PkOk E γ0 w0) (hH : Hist γ0 w0 γ w) : PkOk E γ w := by
  obtain ⟨w1, h1, h2⟩ := h
  refine ⟨w1, h1, fun b hb => ?_⟩
  obtain ⟨h3, h4, h5⟩ := h2 b hb
  obtain ⟨h6, h7⟩ := hH.block b h3 h5
  exact ⟨Nat.lt_of_lt_of_le h3 hH.size, h6.trans h4, h7⟩
theorem PkOk.tags {E : Env} {γ γ1 : Gh} {w : World} (h : PkOk E γ w) (ht : ∀ b, γ.tg b = none → γ1.tg b = none) : PkOk E γ1 w := by
  obtain ⟨w1, h1, h2⟩ := h
  exact ⟨w1, h1, fun b hb => ⟨(h2 b hb).1, (h2 b hb).2.1, ht b (h2 b hb).2.2⟩⟩
/-- what is told of a call with n arguments -/
def TellsN (E : Env) (f : FuncId) (m : Mode) (nres : Nat) (ar : Option Nat) (S R : St) : Prop :=
  ∀ γ0 (vs : List Value) w, (∀ n, ar = some n → vs.length = n) → PkOk E γ0 w → Rel γ0 S vs.toArray w → Calls E.P f vs.toArray w fun e w' =>
    ∃ vals γ', e = .returned (resVal vals) ∧ vals.length = nres ∧ Rel γ' R (vals ++ back m vs).toArray w' ∧ Hist γ0 w γ' w'
def Ctr.Ok (E : Env) (c : Ctr) : Prop := ∀ x y, c.F x = some y → TellsN E c.f (E.mode c.f) (E.nres c.f) c.ar (c.arg.mk' x).enc (altMk c.res y).enc
def arOk (ar : Option Nat) (n : Nat) : Bool := match ar with | none => true | some m => m == n

theorem bothD {α : Type} (x y : Option α) : Nonempty (Decidable (x = y)) := ⟨Classical.propDecidable _⟩
/-- two ways that come to the same -/
noncomputable def both {α : Type} (x y : Option α) : Option α := Decidable.rec (motive := fun _ : Decidable (x = y) => Option α) (fun _ : (x = y) → False => none) (fun _ : x = y => x) (Classical.choice (bothD x y))
theorem both_some {α : Type} {x y : Option α} {r : α} (h : both x y = some r) : x = some r ∧ y = some r := by
  unfold both at h
  generalize Classical.choice (bothD x y) = d at h
  cases d with
  | isFalse hn => cases h
  | isTrue e => exact ⟨h, e ▸ h⟩
theorem both_self {α : Type} (x : Option α) : both x x = x := by
  unfold both
  generalize Classical.choice (bothD x x) = d
  cases d with
  | isFalse hn => exact absurd rfl hn
  | isTrue e => rfl
/-- a list that is read, against nil -/
def nilTest (A : Wt) (o : Oper) : Bool := match o.op with
  | .binOp .eql t x y _ => (match A.ev x, A.ev y with
    | .c (.rd _ _), .c .nil => true
    | _, _ => false)
  | _ => false
def listAt (A : Wt) (o : Oper) : Option TL := match o.op with
  | .binOp .eql t x y _ => (match A.ev x with
    | .c (.rd _ l) => some l
    | _ => none)
  | _ => none
def sliceOp (P : Program) (o : Oper) : Bool := match o.op with
  | .binOp .eql t x y _ => isSliceT P t
  | _ => false
section
variable {β : Type}
def callK (T : List Ctr) (f : FuncId) (n : Nat) (S : Wt) (K : Wt → Option β) : Option β := match T with
  | [] => none
  | c :: T => if c.f = f then (match c.arg.dec S with
    | some x => if arOk c.ar n = true then (c.F x).bind fun y => altK c.res y K else none
    | none => callK T f n S K) else callK T f n S K
theorem callK_some {E : Env} {r : β} {f : FuncId} {n : Nat} {S : Wt} {K : Wt → Option β} : ∀ {T : List Ctr}, (∀ c ∈ T, c.Ok E) → callK T f n S K = some r →
    ∃ (arg : Sh) (x : arg.den) (R : Wt), arg.dec S = some x ∧ TellsN E f (E.mode f) (E.nres f) (some n) (arg.mk' x).enc R.enc ∧ K R = some r
  | [], _, h => by cases h
  | c :: T, hT, h => by
    have hT' : ∀ c ∈ T, c.Ok E := fun c hc => hT c (List.mem_cons_of_mem _ hc)
    simp only [callK] at h
    split at h
    · rename_i hf
      split at h
      · rename_i x hx
        split at h
        · rename_i har
          rw [Option.bind_eq_some_iff] at h
          obtain ⟨y, h1, h2⟩ := h
          rw [altK_eq] at h2
          subst hf
          refine ⟨c.arg, x, _, hx, fun γ0 vs w hn hPk hR => hT c (by simp) x y h1 γ0 vs w (fun m hm => ?_) hPk hR, h2⟩
          rw [hm] at har
          have : m = n := by simpa [arOk] using har
          rw [this]; exact hn n rfl
        · cases h
      · exact callK_some hT' h
    · exact callK_some hT' h
variable (E : Env) (T : List Ctr)
def handW (m : Mode) (tvs : List TW) : List TW := if m = 0 then [] else tvs.take 1
def giveW (A : Wt) (m : Mode) (tvs : List TW) : Wt := packW A (selObsW A (handW m tvs)) (selBoxesW (handW m tvs)) tvs
def callW (A : Wt) (o : Oper) (g : Operand) (xs : List Operand) (K : Wt → Option β) : Option β := match A.ev g with
  | .c (.fnr f caps) => if goF E.P f && (xs.map A.ev ++ caps.map fun c => TW.c (.rad [] c)).all noBoxi then
      callK T f (xs.length + caps.length) (giveW A (E.mode f) (xs.map A.ev ++ caps.map fun c => TW.c (.rad [] c))) fun R =>
        match takeW A o.dst (E.mode f) (xs.map A.ev ++ caps.map fun c => TW.c (.rad [] c)) (E.nres f) R with
        | some A => K A
        | none => none
    else none
  | _ => none
def isNestW : TW → Bool
  | .c (.nest _ _) => true
  | _ => false
/-- a value that points into object p -/
def slotOf (p : Nat) : List (Nat × TW) → Option Nat
  | [] => none
  | (s, .c (.adr q _ 0)) :: l => if q = p then some s else slotOf p l
  | _ :: l => slotOf p l
/-- a list inside a list is handed over, and given back to its place -/
noncomputable def callNW (A : Wt) (o : Oper) (g : Operand) (xs : List Operand) (K : Wt → Option β) : Option β := match xs with
  | .tmp t :: _ => (match A.ev (.tmp t) with
    | .c (.nest p i) => (match slotOf p A.tm with
      | some s => (match A.ev (.tmp s) with
        | .c (.adr p0 j0 0) => if p0 = p then ck (j0 = i) (A.extract p i (nm (o.dst.getD 0) 1) fun A1 => match (A1.dst (some t) (.c (.own (nm (o.dst.getD 0) 1)))).ev g, (A1.dst (some t) (.c (.own (nm (o.dst.getD 0) 1)))).ev (.tmp s), look p A1.ob with
          | .c (.fnr f caps), .c (.adr p1 j1 0), some (.h ll k) =>
            let hd := handW (E.mode f) (xs.map (A1.dst (some t) (.c (.own (nm (o.dst.getD 0) 1)))).ev ++ caps.map fun c => TW.c (.rad [] c))
            if p1 = p && (o.dst != some t && o.dst != some s) && decide (E.P.cellsOf 0 = 1) && !(selObsW (A1.dst (some t) (.c (.own (nm (o.dst.getD 0) 1)))) hd).contains p && hd.all noBoxi && !hd.any isNestW then
              ck (j1 = i ∧ i < ll.length) (callW E T (A1.dst (some t) (.c (.own (nm (o.dst.getD 0) 1)))) o g xs fun A2 => match A2.ev (.tmp t), A2.ev (.tmp s) with
                | .c (.own q), .c (.adr p2 j2 0) => A2.store (.adr p2 j2 0) [.own q] K
                | _, _ => none)
            else none
          | _, _, _ => none) else none
        | _ => none)
      | none => none)
    | _ => none)
  | _ => none
def headNest (A : Wt) : List Operand → Bool
  | x :: _ => isNestW (A.ev x)
  | [] => false
noncomputable def callAW (A : Wt) (o : Oper) (g : Operand) (xs : List Operand) (K : Wt → Option β) : Option β := match A.ev g with
  | .c (.fnr f caps) => if E.mode f = 2 && headNest A xs then callNW E T A o g xs K else callW E T A o g xs K
  | _ => none
noncomputable def nilK (A : Wt) (o : Oper) (K : Wt → Option β) : Option β := match listAt A o with
  | some l => if sliceOp E.P o then brA l.l.isEmpty (both (K (A.dst o.dst (.c (.v (.bool true))))) (K (A.dst o.dst (.c (.v (.bool false)))))) (K (A.dst o.dst (.c (.v (.bool false))))) else none
  | none => none
noncomputable def opStepW0 (h : Hint) (A : Wt) (o : Oper) (K : Wt → Option β) : Option β := if nilTest A o then nilK E A o K else match o.op with
  | .call c => (match c.callee with
    | .value g => callAW E T A o g c.args.toList K
    | _ => aopW E.P h A o K)
  | _ => aopW E.P h A o K
noncomputable def opStepW (h : Hint) (A : Wt) (o : Oper) (K : Wt → Option β) : Option β := match o.op with
  | .call c => (match c.callee with
    | .value g => callAW E T A o g c.args.toList K
    | _ => aopW E.P h A o K)
  | .binOp .eql _ _ _ _ => if nilTest A o then nilK E A o K else aopW E.P h A o K
  | _ => aopW E.P h A o K
theorem opStepW_eq {h : Hint} {A : Wt} {o : Oper} {K : Wt → Option β} : opStepW E T h A o K = opStepW0 E T h A o K := by
  unfold opStepW opStepW0
  split
  · rename_i c hop
    have : nilTest A o = false := by unfold nilTest; rw [hop]
    rw [if_neg (by rw [this]; decide)]
    simp only [hop]
  · rename_i hop
    simp only [hop]
  · rename_i h1 h2
    have : nilTest A o = false := by
      unfold nilTest
      split
      · rename_i t x y z hop; exact absurd hop (h2 t x y z)
      · rfl
    rw [if_neg (by rw [this]; decide)]
    split
    · rename_i c hop; exact absurd hop (h1 c)
    · rfl

/-- the operation leaves the block behind an address alone -/
noncomputable def safeK (h : Hint) (A : Wt) (o : Oper) (x : TW) (X : Option β) : Option β := match x with
  | .c v => A.at 1 v fun _ => (match o.op with
    | .call c => (match c.callee with
      | .value g => (match A.ev g with
        | .c (.fnr f caps) =>
          let hd := handW (E.mode f) (c.args.toList.map A.ev ++ caps.map fun c => TW.c (.rad [] c))
          if !(v.obs.any (selObsW A hd).contains) && !(v.bxs.any (selBoxesW hd).contains) && hd.all noBoxi && !hd.any isNestW then X else none
        | _ => none)
      | _ => aopW E.P h (A.reduce v.obs [] v.bxs []) o fun _ => X)
    | _ => aopW E.P h (A.reduce v.obs [] v.bxs []) o fun _ => X)
  | _ => none
end

section
variable {E : Env} {T : List Ctr} {β : Type} {r : β} {γ0 : Gh} {w0 : World} {n : Nat} {A : Wt} {a : Act} {w : World} {o : Oper} {h : Hint} {K : Wt → Option β}
theorem handW_enc (m : Mode) (tvs : List TW) : handed m (tvs.map TW.enc) = (handW m tvs).map TW.enc := by
  unfold handed handW
  split
  · rfl
  · rw [List.map_take]
theorem handW_all {m : Mode} {tvs : List TW} (h : tvs.all noBoxi = true) : (handW m tvs).all noBoxi = true := by
  unfold handW
  split
  · rfl
  · simp only [List.all_eq_true] at h ⊢
    exact fun x hx => h x (List.mem_of_mem_take hx)
theorem args_enc (xs : List Operand) (caps : List (List CW)) : (xs.map A.ev ++ caps.map fun c => TW.c (.rad [] c)).map TW.enc = xs.map A.enc.ev ++ (caps.map fun c => c.map CW.enc).map fun c => TV.c (.rad [] c) := by
  simp only [List.map_append, List.map_map]
  congr 1
  exact List.map_congr_left fun x _ => A.ev_enc x
theorem isNest_any (l : List TW) : (l.map TW.enc).any isNestT = l.any isNestW := by
  rw [List.any_map]
  congr 1
  funext x
  cases x with
  | c a => cases a <;> rfl
  | _ => rfl
theorem safeK_some {x : TW} {X : Option β} (hs : safeK E h A o x X = some r) : X = some r ∧ safeBlock E h A.enc o x.enc = true := by
  unfold safeK at hs
  split at hs
  · rename_i v
    obtain ⟨l, h1, h2⟩ := at_enc hs
    have hat : (A.enc.at 1 v.enc).isSome = true := by rw [h1]; rfl
    have viaA : (aopW E.P h (A.reduce v.obs [] v.bxs []) o fun _ => X) = some r → X = some r ∧ (aop E.P h (A.enc.reduce v.enc.obs [] v.enc.bxs []) o).isSome = true := fun hh => by
      obtain ⟨B, g1, g2⟩ := aopW_sound hh
      rw [Wt.reduce_enc] at g1
      rw [enc_obs, enc_bxs, g1]
      exact ⟨g2, rfl⟩
    have key : X = some r ∧ (match o.op with
        | .call c => (match c.callee with
          | .value g => (match A.enc.ev g with
            | .c (.fnr f caps) =>
              let hd := handed (E.mode f) (c.args.toList.map A.enc.ev ++ caps.map fun c => TV.c (.rad [] c))
              !(v.enc.obs.any (selObs A.enc hd).contains) && !(v.enc.bxs.any (selBoxes hd).contains) && !hd.any isNestT
            | _ => false)
          | _ => (aop E.P h (A.enc.reduce v.enc.obs [] v.enc.bxs []) o).isSome)
        | _ => (aop E.P h (A.enc.reduce v.enc.obs [] v.enc.bxs []) o).isSome) = true := by
      split at h2
      · rename_i c hop
        split at h2
        · rename_i g hg
          split at h2
          · rename_i f caps hev
            dsimp only at h2
            split at h2
            · rename_i hc
              simp only [Bool.and_eq_true] at hc
              refine ⟨h2, ?_⟩
              rw [ev_c_enc hev]
              dsimp only [enc_fnr]
              rw [← args_enc, handW_enc, selObsW_enc hc.1.2, selBoxesW_enc hc.1.2, enc_obs, enc_bxs, hc.1.1.1, hc.1.1.2, isNest_any, hc.2]
              rfl
            · cases h2
          · cases h2
        · rename_i hg
          exact viaA h2
      · rename_i hop
        exact viaA h2
    refine ⟨key.1, ?_⟩
    show (_ && _) = true
    exact Bool.and_eq_true_iff.2 ⟨hat, key.2⟩
  · cases hs

theorem callW_does (hT : ∀ c ∈ T, c.Ok E) (hPk : PkOk E γ0 w0) {c : Call} {g : Operand} (hop : o.op = .call c) (hg : c.callee = .value g)
    (hc : callW E T A o g c.args.toList K = some r) (hI : Inv γ0 w0 n A.enc a w) (hd : ∀ t, o.dst = some t → t < n) :
    ∃ A' : Wt, K A' = some r ∧ ∃ f args, (execOp a.eval o).run E.P w = .ok (.enter f args) w ∧ Calls E.P f args w fun e w' => ∃ v, e = .returned v ∧ Inv γ0 w0 n A'.enc (a.put o.dst v) w' ∧ ∀ b, safeAt E h A.enc o a b → w'.heap[b]? = w.heap[b]? := by
  obtain ⟨γ, hR, hH⟩ := hI.ex
  unfold callW at hc
  split at hc
  · rename_i f caps hev
    split at hc
    · rename_i hcond
      simp only [Bool.and_eq_true] at hcond
      obtain ⟨hgo, hnb⟩ := hcond
      obtain ⟨arg, x, R, hx, hTell, hK⟩ := callK_some hT hc
      split at hK
      · rename_i A' htake
        refine ⟨A', hK, ?_⟩
        have htake := takeW_enc htake
        have hev' : A.enc.ev g = .c (.fnr f (caps.map fun c => c.map CW.enc)) := ev_c_enc hev
        have hgv : AVrep γ w (.fnr f (caps.map fun c => c.map CW.enc)) (a.eval g) := ev_c hR hev'
        obtain ⟨cvs, e1, hcv⟩ := hgv
        rw [args_enc] at htake
        have hv : F2 (fun x y => TVrep γ w x y) (c.args.toList.map A.enc.ev ++ (caps.map fun c => c.map CW.enc).map fun c => TV.c (.rad [] c)) (c.args.toList.map a.eval ++ cvs) := by
          refine (F2.evs hR _).append ?_
          clear e1 hev' hev hx hc htake hnb
          generalize (caps.map fun c => c.map CW.enc) = cc at hcv
          induction hcv with
          | nil => exact .nil
          | cons r _ ih =>
            refine .cons ?_ ih
            exact RadAt.move r fun b hb _ => ⟨rfl, .inl hb⟩
        obtain ⟨γ1, q1, q2, q3⟩ := give_rep (m := E.mode f) hR hv
        have hgive : Rel γ1 (giveW A (E.mode f) (c.args.toList.map A.ev ++ caps.map fun c => TW.c (.rad [] c))).enc (c.args.toList.map a.eval ++ cvs).toArray w := by
          have hle := packW_le A (selObsW A (handW (E.mode f) (c.args.toList.map A.ev ++ caps.map fun c => TW.c (.rad [] c)))) (selBoxesW (handW (E.mode f) (c.args.toList.map A.ev ++ caps.map fun c => TW.c (.rad [] c)))) (c.args.toList.map A.ev ++ caps.map fun c => TW.c (.rad [] c))
          refine Rel.le ?_ hle
          rw [← selObsW_enc (handW_all hnb), ← selBoxesW_enc (handW_all hnb), ← handW_enc, args_enc]
          exact q1
        have hlen : ∀ n, some (c.args.toList.length + caps.length) = some n → (c.args.toList.map a.eval ++ cvs).length = n := fun n hn => by
          have := hv.length
          simp only [List.length_append, List.length_map] at this ⊢
          cases hn
          omega
        have hPk1 : PkOk E γ1 w := (hPk.hist hH).tags fun b hb => Classical.byContradiction fun hne => by
          rcases q2 b hne with ⟨o, _, h | ⟨i, h⟩⟩ | ⟨x, _, h⟩ <;> rw [hb] at h <;> cases h
        have hT' := hTell γ1 _ w hlen hPk1 (arg.dec_rel hgive hx)
        refine ⟨f, (c.args.toList.map a.eval ++ cvs).toArray, ?_, hT'.mono fun e w' => ?_⟩
        · have e2 : (#[] ++ c.args.map a.eval ++ cvs.toArray : Array Value) = (c.args.toList.map a.eval ++ cvs).toArray := by
            apply Array.ext'
            simp
          have : execOp a.eval o = callFunc f (c.args.toList.map a.eval ++ cvs).toArray := by
            rw [← e2]
            unfold execOp
            rw [hop]
            dsimp only
            unfold resolve
            rw [hg]
            dsimp only
            rw [e1]
            rfl
          rw [this]
          exact run_callFunc hgo _ w
        · rintro ⟨vals, γ', rfl, hlen, hRR, hHH⟩
          obtain ⟨A1, x', γ2, e3, k1, k2, k3⟩ := take_rep hR hH hv hlen q2 q3 hRR hHH htake
          rw [e3]
          refine ⟨_, rfl, hI.finish hd ⟨γ2, k1, k2, k3⟩, fun b hb => ?_⟩
          obtain ⟨t, off, hp, hs⟩ := hb
          unfold safeBlock at hs
          split at hs
          · rename_i v hgt
            simp only [Bool.and_eq_true] at hs
            obtain ⟨hat, hs⟩ := hs
            rw [hop] at hs
            dsimp only at hs
            rw [hg] at hs
            dsimp only at hs
            rw [hev'] at hs
            simp only [Bool.and_eq_true, Bool.not_eq_true', List.any_eq_false, List.contains_iff_mem, decide_eq_true_eq] at hs
            obtain ⟨l, hl⟩ := Option.isSome_iff_exists.1 hat
            have hv : AVrep γ w v (a.tmps.getD t undef) := by
              have := hR.eval (d := a.defers) (.tmp t)
              simp only [St.ev, Act.eval] at this
              rw [hgt] at this
              exact this
            obtain ⟨blk, off', h1, h2⟩ := block_rep hR hv hl (by decide)
            rw [hp] at h1
            cases h1
            have hlt : b < w.heap.size := by
              rcases h2 with h2 | ⟨o, _, h2 | ⟨i, h2⟩⟩ | ⟨x, _, h2⟩
              · exact hR.lt b (.inl h2)
              · exact hR.lt b (.inr (by rw [h2]; simp))
              · exact hR.lt b (.inr (by rw [h2]; simp))
              · exact hR.lt b (.inr (by rw [h2]; simp))
            refine (hHH.block b hlt (Classical.byContradiction fun hne => ?_)).1
            rcases q2 b hne with ⟨o', ho', hb'⟩ | ⟨x', hx', hb'⟩
            · rcases h2 with h2 | ⟨o, ho, h2⟩ | ⟨x, _, h2⟩
              · have := hR.zt b h2
                rcases hb' with e | ⟨i, e⟩ <;> rw [this] at e <;> cases e
              · have := inOb_uniq h2 hb'
                subst this
                exact hs.1.1 o ho ho'
              · rcases hb' with e | ⟨i, e⟩ <;> rw [h2] at e <;> cases e
            · rcases h2 with h2 | ⟨o, ho, h2 | ⟨i, h2⟩⟩ | ⟨x, hx, h2⟩
              · rw [hR.zt b h2] at hb'; cases hb'
              · rw [h2] at hb'; cases hb'
              · rw [h2] at hb'; cases hb'
              · rw [h2] at hb'
                cases hb'
                exact hs.1.2 _ hx hx'
          · cases hs
      · cases hK
    · cases hc
  · cases hc

theorem Inv.again {A : St} {γ : Gh} {x : TV} (hdf : a.defers = []) (hsz : a.tmps.size = n) {t : Nat} (hR : Rel γ A a.tmps w) (hH : Hist γ0 w0 γ w) (hx : TVrep γ w x (a.tmps.getD t undef)) :
    Inv γ0 w0 n (A.dst (some t) x) a w := by
  refine ⟨⟨γ, ⟨fun s y hs => ?_, hR.bx, hR.ob, hR.zt, hR.lt⟩, hH⟩, hdf, hsz⟩
  simp only [St.dst, look_put] at hs
  split at hs
  · rename_i e; cases hs; rw [e]; exact hx
  · exact hR.tm s y hs
theorem put_other {a : Act} {d : Option Nat} {v : Value} {t : Nat} (h : d ≠ some t) : (a.put d v).tmps.getD t undef = a.tmps.getD t undef := by
  rw [Act.put_tmps]
  cases d with
  | none => rfl
  | some s =>
    have hne : s ≠ t := fun e => h (by rw [e])
    simp [putT, Array.getD_eq_getD_getElem?, Array.getElem?_setIfInBounds, hne]
/-- what is written where it stands already -/
theorem putBack {A' : St} {p i q t s : Nat} (hI : Inv γ0 w0 n A.enc a w) (hP : E.P.cellsOf 0 = 1) (ht : A.enc.ev (.tmp t) = .c (.own q)) (hs : A.enc.ev (.tmp s) = .c (.adr p i 0))
    (hst : A.enc.store (elemSz E.P 0) (.adr p i 0) [.own q] = some A') {blk off : Nat} (had : a.tmps.getD s undef = .pointer (some ⟨blk, off, none⟩)) {cs : Array Value} {e : TypeId} (hh : w.heap[blk]? = some (.cells cs e (0, 0)))
    (hcell : cs[off]? = some (a.tmps.getD t undef)) (hone : (a.tmps.getD t undef).oneCell' = true) (hcl : (a.tmps.getD t undef).cells.toList = [a.tmps.getD t undef]) : Inv γ0 w0 n A' a w := by
  have hok := store_ok (P := E.P) (γ0 := γ0) (w0 := w0) (n := n) (a := a) (w := w) (A := A.enc) (o := ⟨none, .store 0 (.tmp s) (.tmp t), 0, default, #[], none⟩) (t := 0) (p := .tmp s) (x := .tmp t) (l := [.own q]) rfl hs (by rw [ht]; rfl) (by rw [hP]; rfl) (by omega) hst hI (fun t h => by cases h)
  obtain ⟨r, w2, v, h1, h2, h3⟩ := hok
  have hfit : off + 1 ≤ cs.size := by have := (Array.getElem?_eq_some_iff.1 hcell).1; omega
  have hrun := storeOne_run (P := E.P) (w := w) (t := 0) (blk := blk) (off := off) (y0 := a.tmps.getD t undef) hh hP hfit hone hcl
  have e1 : (execOp a.eval ⟨none, .store 0 (.tmp s) (.tmp t), 0, default, #[], none⟩).run E.P w = .ok .skip (w.setCells blk off [a.tmps.getD t undef]) := by
    show (execOp a.eval _).run E.P w = _
    simp only [execOp]
    have : a.eval (.tmp s) = a.tmps.getD s undef := rfl
    rw [this, had]
    have : a.eval (.tmp t) = a.tmps.getD t undef := rfl
    rw [this]
    generalize a.tmps.getD t undef = y at hrun
    simp [hrun]
  rw [e1] at h1
  obtain ⟨-, rfl⟩ : Next.skip = r ∧ w.setCells blk off [a.tmps.getD t undef] = w2 := by cases h1; exact ⟨rfl, rfl⟩
  obtain ⟨s1, s2, s3, s4, s5, s6⟩ := heap_setCells blk [a.tmps.getD t undef] off w
  obtain ⟨cs', t1, t2, t3, t4⟩ := setCells_arr (w := w) (off := off) (vs := [a.tmps.getD t undef]) hh (by simpa using hfit)
  have hcs : cs' = cs := by
    apply Array.ext'
    apply List.ext_getElem?
    intro j
    simp only [Array.getElem?_toList]
    by_cases hj : j = off
    · subst hj
      have := t4 0 _ rfl
      rw [Nat.add_zero] at this
      rw [this, hcell]
    · exact t3 j (by simp; omega)
  have same : ∀ c, (w.setCells blk off [a.tmps.getD t undef]).heap[c]? = w.heap[c]? := fun c => by
    by_cases hc : c = blk
    · subst hc; rw [t1, hcs, hh]
    · exact s1 c hc
  have same' : ∀ c, w.heap[c]? = (w.setCells blk off [a.tmps.getD t undef]).heap[c]? := fun c => (same c).symm
  obtain ⟨γ, hR, hH⟩ := h3.ex
  have hsz : a.tmps.size = n := hI.sz
  refine ⟨⟨γ, ?_, ⟨by have := hH.size; omega, s3 ▸ hH.os, s4 ▸ hH.tape, s5 ▸ hH.output, fun b hb hn => by have := hH.block b hb hn; rw [same] at this; exact this, hH.z⟩⟩, hI.df, hI.sz⟩
  have hR' : Rel γ A' a.tmps (w.setCells blk off [a.tmps.getD t undef]) := hR
  exact hR'.move (fun v _ => ⟨fun c hc _ => ⟨same' c, hc⟩, fun c hc _ => ⟨same' c, hc⟩, fun _ _ => ⟨rfl, rfl⟩, fun _ _ _ => ⟨rfl, rfl⟩, fun _ _ => rfl⟩) (fun c l hl => ⟨same' _, rfl, rfl⟩) (fun o l hl => ⟨fun c _ _ => ⟨same' c, rfl⟩, ⟨rfl, rfl⟩, fun _ => ⟨rfl, rfl⟩⟩) hR'.zt (fun c hc => by rw [← s2]; exact hR'.lt c hc)
theorem callNW_does (hT : ∀ c ∈ T, c.Ok E) (hPk : PkOk E γ0 w0) {c : Call} {g : Operand} (hop : o.op = .call c) (hg : c.callee = .value g) {f : FuncId} {caps : List (List CW)} (hev : A.ev g = .c (.fnr f caps)) (hm : E.mode f = 2)
    (hc : callNW E T A o g c.args.toList K = some r) (hI : Inv γ0 w0 n A.enc a w) (hd : ∀ t, o.dst = some t → t < n) :
    ∃ A' : Wt, K A' = some r ∧ ∃ f args, (execOp a.eval o).run E.P w = .ok (.enter f args) w ∧ Calls E.P f args w fun e w' => ∃ v, e = .returned v ∧ Inv γ0 w0 n A'.enc (a.put o.dst v) w' ∧ ∀ b, safeAt E h A.enc o a b → w'.heap[b]? = w.heap[b]? := by
  unfold callNW at hc
  split at hc
  · rename_i t xs hxs
    split at hc
    · rename_i p i hnest
      split at hc
      · rename_i s hslot
        split at hc
        · rename_i p0 j0 hs0
          split at hc
          · rename_i hp0
            subst hp0
            obtain ⟨hj0, hc1⟩ := ck_some hc
            clear hc
            subst hj0
            obtain ⟨A1, hex, hc2⟩ := extract_enc hc1
            clear hc1
            dsimp only at hc2
            split at hc2
            · rename_i f1 caps1 p1 j1 ll k hg1 hs1 hlook
              split at hc2
              · rename_i hcond
                simp only [Bool.and_eq_true, decide_eq_true_eq, bne_iff_ne, ne_eq, Bool.not_eq_true', beq_iff_eq] at hcond
                obtain ⟨⟨⟨⟨⟨hp1, hdt, hds⟩, hP⟩, hnot⟩, hnb⟩, hnn⟩ := hcond
                subst hp1
                obtain ⟨⟨hj1, hil⟩, hc3⟩ := ck_some hc2
                clear hc2
                subst hj1
                obtain ⟨γ, hR, hH⟩ := hI.ex
                obtain ⟨γ1, hR1, hH1, hhd⟩ := hR.extract hex
                have hy : AVrep γ w (.nest p1 j1) (a.tmps.getD t undef) := ev_c hR (x := .tmp t) (ev_c_enc hnest)
                have hI1 : Inv γ0 w0 n (A1.dst (some t) (.c (.own (nm (o.dst.getD 0) 1)))).enc a w := by
                  rw [Wt.dst_enc]
                  exact Inv.again (x := TV.c (.own (nm (o.dst.getD 0) 1))) hI.df hI.sz hR1 (hH.trans hH1) (show AVrep γ1 w (.own _) _ from ⟨by rw [hhd]; exact hy.1, hy.2⟩)
                have had : AVrep γ w (.adr p1 j1 0) (a.tmps.getD s undef) := ev_c hR (x := .tmp s) (ev_c_enc hs0)
                obtain ⟨b, k0, rows, hb, hbi⟩ : ∃ b k rows, look p1 A.enc.ob = some b ∧ b.d[j1]? = some [.s k rows] := by
                  unfold St.extract at hex
                  split at hex
                  · cases hex
                  · split at hex
                    · rename_i b hb
                      split at hex
                      · rename_i k rows hbi
                        exact ⟨b, k, rows, hb, hbi⟩
                      · cases hex
                    · cases hex
                have hilb : j1 < b.d.length := (List.getElem?_eq_some_iff.1 hbi).1
                obtain ⟨blk, off, cs, e, e1, e2, e3⟩ : ∃ blk off cs e, a.tmps.getD s undef = .pointer (some ⟨blk, off, none⟩) ∧ w.heap[blk]? = some (.cells cs e (0, 0)) ∧ cs[off]? = some (a.tmps.getD t undef) := by
                  obtain ⟨_, hbo⟩ := hR.ob p1 b hb
                  rcases hbo with ⟨_, z⟩ | ⟨z1, z2, blk, of, cap, cs, e, z3, z4, z5, z6, z7, z8⟩
                  · rw [z] at hilb; simp at hilb
                  · obtain ⟨u, hu, g1, g2, _⟩ := z8 j1 _ hbi 0 _ rfl
                    obtain ⟨blk', of', len', cap', q1, q2⟩ := had
                    rw [z3] at q1
                    obtain ⟨rfl, rfl⟩ : blk = blk' ∧ of = of' := by simp at q1; exact q1.1
                    rw [z2] at q2
                    refine ⟨blk, _, cs, e, q2, z6, ?_⟩
                    rw [hu, g2, hy.1]
                have hone := hy.2
                have hcl : (a.tmps.getD t undef).cells.toList = [a.tmps.getD t undef] := by
                  generalize a.tmps.getD t undef = y at hone
                  cases y <;> first | rfl | (simp [Value.oneCell'] at hone)
                have hlk : look p1 (A1.dst (some t) (.c (.own (nm (o.dst.getD 0) 1)))).enc.ob = some (OW.enc (.h ll k)) := by
                  show look p1 (encL OW.enc A1.ob) = _
                  rw [look_encL, hlook]; rfl
                have hsafe0 : safeBlock E h (A1.dst (some t) (.c (.own (nm (o.dst.getD 0) 1)))).enc o ((A1.dst (some t) (.c (.own (nm (o.dst.getD 0) 1)))).enc.get s) = true := by
                  have hgs : (A1.dst (some t) (.c (.own (nm (o.dst.getD 0) 1)))).enc.get s = .c (.adr p1 j1 0) := ev_c_enc hs1
                  rw [hgs]
                  unfold safeBlock
                  rw [hop]
                  dsimp only
                  rw [hg]
                  dsimp only
                  rw [ev_c_enc hg1]
                  dsimp only [enc_fnr, AW.enc]
                  rw [Bool.and_eq_true]
                  constructor
                  · simp only [St.at, hlk, OW.enc]
                    have hl : j1 < ((ll.map (Ty.enc .mats)).set k [C.x]).length := by simpa using hil
                    rw [List.getElem?_eq_getElem hl]
                    dsimp only
                    have : ((ll.map (Ty.enc .mats)).set k [C.x])[j1].length = 1 := by
                      rw [List.getElem_set]
                      split
                      · rfl
                      · simp [Ty.enc]
                    simp [sub?, this]
                  · rw [← args_enc, handW_enc, selObsW_enc hnb, isNest_any, hnn]
                    simp only [AV.obs, AV.bxs, List.any_cons, List.any_nil, Bool.or_false, hnot, Bool.not_false, Bool.and_self]
                obtain ⟨A2, hK2, f', args, hrun, hcalls⟩ := callW_does (h := h) hT hPk hop hg hc3 hI1 hd
                split at hK2
                · rename_i q p2 j2 ht2 hs2
                  obtain ⟨A3, hst, hK3⟩ := store_enc (n := elemSz E.P 0) rfl hK2
                  refine ⟨A3, hK3, f', args, hrun, hcalls.mono fun e' w' ⟨v, he, hI2, hsafe⟩ => ⟨v, he, ?_, fun b' hb' => ?_⟩⟩
                  · have hheap : w'.heap[blk]? = some (.cells cs e (0, 0)) := by rw [hsafe blk ⟨s, off, e1, hsafe0⟩, e2]
                    exact putBack (a := a.put o.dst v) (t := t) (s := s) hI2 hP (ev_c_enc ht2) (ev_c_enc hs2) hst (by rw [put_other hds]; exact e1) hheap (by rw [put_other hdt]; exact e3) (by rw [put_other hdt]; exact hone) (by rw [put_other hdt]; exact hcl)
                  · obtain ⟨t', off', _, hsb⟩ := hb'
                    exfalso
                    unfold safeBlock at hsb
                    split at hsb
                    · rw [hop] at hsb
                      dsimp only at hsb
                      rw [hg] at hsb
                      dsimp only at hsb
                      rw [ev_c_enc hev] at hsb
                      dsimp only [enc_fnr, AW.enc] at hsb
                      rw [hm, hxs] at hsb
                      have hn1 : A.enc.ev (.tmp t) = .c (.nest p1 j1) := ev_c_enc hnest
                      simp [handed, hn1, isNestT] at hsb
                    · cases hsb
                · cases hK2
              · cases hc2
            · cases hc2
          · cases hc
        · cases hc
      · cases hc
    · cases hc
  · cases hc
theorem callAW_does (hT : ∀ c ∈ T, c.Ok E) (hPk : PkOk E γ0 w0) {c : Call} {g : Operand} (hop : o.op = .call c) (hg : c.callee = .value g)
    (hc : callAW E T A o g c.args.toList K = some r) (hI : Inv γ0 w0 n A.enc a w) (hd : ∀ t, o.dst = some t → t < n) :
    ∃ A' : Wt, K A' = some r ∧ ∃ f args, (execOp a.eval o).run E.P w = .ok (.enter f args) w ∧ Calls E.P f args w fun e w' => ∃ v, e = .returned v ∧ Inv γ0 w0 n A'.enc (a.put o.dst v) w' ∧ ∀ b, safeAt E h A.enc o a b → w'.heap[b]? = w.heap[b]? := by
  unfold callAW at hc
  split at hc
  · rename_i f caps hev
    split at hc
    · rename_i hm
      simp only [Bool.and_eq_true, decide_eq_true_eq] at hm
      exact callNW_does hT hPk hop hg hev hm.1 hc hI hd
    · exact callW_does hT hPk hop hg hc hI hd
  · cases hc
theorem nil_run {P : Program} {t ty : TypeId} {x y : Operand} {e : TypeId} {ad : Option Addr} {l c : Nat} (hop : o.op = .binOp .eql t x y ty) (ht : P.underlying t = some (.slice e)) (hx : a.eval x = .slice ad l c) (hy : a.eval y = .slice none 0 0) :
    (execOp a.eval o).run P w = .ok (.value (.bool ad.isNone)) w := by
  simp [execOp, hop, hx, hy, eqGuard, binOp, run_equal_slice_nil w t e ad l c ht]
theorem nilK_does (hs : nilK E A o K = some r) (hn : nilTest A o = true) (hI : Inv γ0 w0 n A.enc a w) (hd : ∀ t, o.dst = some t → t < n) :
    ∃ A' : Wt, K A' = some r ∧ ∃ r w' v, (execOp a.eval o).run E.P w = .ok r w' ∧ (r = .value v ∨ r = .skip ∧ v = undef) ∧ Inv γ0 w0 n A'.enc (a.put o.dst v) w' ∧ ∀ b, safeAt E h A.enc o a b → w'.heap[b]? = w.heap[b]? := by
  unfold nilTest at hn
  split at hn
  · rename_i t x y ty hop
    split at hn
    · rename_i s l hx hy
      have hl : listAt A o = some l := by unfold listAt; rw [hop]; dsimp only; rw [hx]
      unfold nilK at hs
      rw [hl] at hs
      dsimp only at hs
      split at hs
      · rename_i hsl
        have hsl : isSliceT E.P t = true := by unfold sliceOp at hsl; rw [hop] at hsl; exact hsl
        obtain ⟨e, ht⟩ : ∃ e, E.P.underlying t = some (.slice e) := by
          unfold isSliceT at hsl
          split at hsl
          · rename_i e he; exact ⟨e, he⟩
          · cases hsl
        obtain ⟨γ, hR, hH⟩ := hI.ex
        have hxv : AVrep γ w (.rd s l.sl) (a.eval x) := ev_c hR (ev_c_enc hx)
        have hyv : a.eval y = .slice none 0 0 := ev_c hR (x := y) (v := .nil) (ev_c_enc hy)
        obtain ⟨_, ad, cap, e1, _, _, e2⟩ := hxv
        have hrun := nil_run (w := w) (P := E.P) hop ht e1 hyv
        have fin : ∀ b, b = ad.isNone → K (A.dst o.dst (.c (.v (.bool b)))) = some r → ∃ A' : Wt, K A' = some r ∧ ∃ r w' v, (execOp a.eval o).run E.P w = .ok r w' ∧ (r = .value v ∨ r = .skip ∧ v = undef) ∧ Inv γ0 w0 n A'.enc (a.put o.dst v) w' ∧ ∀ b, safeAt E h A.enc o a b → w'.heap[b]? = w.heap[b]? :=
          fun b hb hK => ⟨_, hK, _, w, _, hrun, .inl rfl, by rw [Wt.dst_enc, ← hb]; exact hI.finish hd ⟨γ, hR, hH, rfl⟩, fun _ _ => rfl⟩
        cases hem : l.l.isEmpty with
        | true =>
          rw [hem, show ∀ p q : Option β, brA true p q = p from fun _ _ => rfl] at hs
          obtain ⟨hs1, hs2⟩ := both_some hs
          cases hb : ad.isNone with
          | true => exact fin true hb.symm hs1
          | false => exact fin false hb.symm hs2
        | false =>
          rw [hem, show ∀ p q : Option β, brA false p q = q from fun _ _ => rfl] at hs
          refine fin false ?_ hs
          have hne : l.sl.d ≠ [] := by
            intro h0
            have : l.l = [] := by simpa [TL.sl] using h0
            rw [this] at hem; cases hem
          obtain ⟨blk, off, rfl, _⟩ := e2 hne
          rfl
      · cases hs
    · cases hn
  · cases hn
theorem opStepW_does (hT : ∀ c ∈ T, c.Ok E) (hPk : PkOk E γ0 w0) (hs : opStepW E T h A o K = some r) (hI : Inv γ0 w0 n A.enc a w) (hd : ∀ t, o.dst = some t → t < n) :
    ∃ A' : Wt, K A' = some r ∧ ((∃ r w' v, (execOp a.eval o).run E.P w = .ok r w' ∧ (r = .value v ∨ r = .skip ∧ v = undef) ∧ Inv γ0 w0 n A'.enc (a.put o.dst v) w' ∧ ∀ b, safeAt E h A.enc o a b → w'.heap[b]? = w.heap[b]?) ∨
    ∃ f args, (execOp a.eval o).run E.P w = .ok (.enter f args) w ∧ Calls E.P f args w fun e w' => ∃ v, e = .returned v ∧ Inv γ0 w0 n A'.enc (a.put o.dst v) w' ∧ ∀ b, safeAt E h A.enc o a b → w'.heap[b]? = w.heap[b]?) := by
  have viaA : (∀ c g, o.op = .call c → c.callee ≠ .value g) → aopW E.P h A o K = some r → ∃ A' : Wt, K A' = some r ∧ ∃ r w' v, (execOp a.eval o).run E.P w = .ok r w' ∧ (r = .value v ∨ r = .skip ∧ v = undef) ∧ Inv γ0 w0 n A'.enc (a.put o.dst v) w' ∧ ∀ b, safeAt E h A.enc o a b → w'.heap[b]? = w.heap[b]? := fun hne hop => by
    obtain ⟨A', hop, hK⟩ := aopW_sound hop
    refine ⟨A', hK, ?_⟩
    obtain ⟨r, w', v, h1, h2, h3⟩ := aop_sound hop hI hd
    refine ⟨r, w', v, h1, h2, h3, fun b hb => ?_⟩
    obtain ⟨t, off, hp, hsb⟩ := hb
    unfold safeBlock at hsb
    split at hsb
    · rename_i x hx
      simp only [Bool.and_eq_true] at hsb
      refine aop_keeps (h := h) hI hd hx hp hsb.1 ?_ h1
      have h4 := hsb.2
      split at h4
      · rename_i c e
        split at h4
        · rename_i g e'; exact absurd e' (hne c g e)
        · exact h4
      · exact h4
    · cases hsb
  rw [opStepW_eq] at hs
  unfold opStepW0 at hs
  split at hs
  · rename_i hnt
    obtain ⟨A', h1, h2⟩ := nilK_does (h := h) hs hnt hI hd
    exact ⟨A', h1, .inl h2⟩
  split at hs
  · rename_i c hop
    split at hs
    · rename_i g hg
      obtain ⟨A', h1, h2⟩ := callAW_does (h := h) hT hPk hop hg hs hI hd
      exact ⟨A', h1, .inr h2⟩
    · rename_i hne
      obtain ⟨A', h1, h2⟩ := viaA (fun c' g e => by rw [hop] at e; cases e; exact hne g) hs
      exact ⟨A', h1, .inl h2⟩
  · rename_i hne
    obtain ⟨A', h1, h2⟩ := viaA (fun c' g e => absurd e (hne c')) hs
    exact ⟨A', h1, .inl h2⟩
end
end Go.Tree
