/- Part 8 of the tree calculus: symbolic execution of the model's code over typed lists, proved sound. No condition. -/
import Derived.Test.YtfgeijlcmepdlaaK7
import Derived.ChangeArms
import Derived.ChangeShapes
import Derived.WideShapes
import Derived.OpenShut
import Derived.ShutString
import Derived.ChangeOld
import Derived.Below
import Derived.Carry
namespace Go.Tree
open Go Go.RowKit
open Go.ChangeShapes Go.WideShapes
set_option linter.constructorNameAsVariable false
set_option linter.unusedVariables false

/-- all that was there before the call is memory that stays -/
def Gh0 (w : World) : Gh := ⟨fun _ => .nilFunc, fun _ => 0, fun _ _ => .nilFunc, fun _ _ => 0, fun _ => 0, fun _ => none, fun b => b < w.heap.size⟩

abbrev I64 (n : Int) : Prop := (Lit.int .i64 n).wf = true
def Ty.wf : (t : Ty) → t.den → Prop
  | .i64, n => I64 n | .u8, n => (Lit.int .u8 n).wf = true | .bool, _ => True | .str, s => s.size ≤ maxLen | .mat, p => I64 p.1 ∧ I64 p.2
  | .mats, l => l.length ≤ maxLen ∧ ∀ p ∈ l, I64 p.1 ∧ I64 p.2
def AS.wf : (a : AS) → a.den → Prop
  | .int k, n => (Lit.int k n).wf = true | .str, s => s.size ≤ maxLen | .rd _ t, l => l.length ≤ maxLen ∧ ∀ x ∈ l, t.wf x | _, _ => True
def wfL : (l : List AS) → denL AS.den l → Prop
  | [], _ => True | a :: l, x => a.wf x.1 ∧ wfL l x.2
def TS.wf : (s : TS) → s.den → Prop
  | .c a, x => a.wf x | .agg l, x => wfL l x
def wfP : (l : List (Nat × TS)) → denL (fun p : Nat × TS => p.2.den) l → Prop
  | [], _ => True | p :: l, x => p.2.wf x.1 ∧ wfP l x.2

def isI64 : Option TypeDesc → Bool | some (.int .i64) => true | _ => false
def matB (P : Program) : List Field → TypeId → Bool
  | [f, g], t => isI64 (P.underlying f.type) && isI64 (P.underlying g.type) && f.offset == 0 && g.offset == 1 && P.cellsOf f.type == 1 && P.cellsOf g.type == 1 && P.cellsOf t == 2
  | _, _ => false
def elTy (P : Program) (t : TypeId) : Option Ty := match P.underlying t with
  | some (.int .i64) => if P.cellsOf t = 1 then some .i64 else none
  | some (.int .u8) => if P.cellsOf t = 1 then some .u8 else none
  | some .bool => if P.cellsOf t = 1 then some .bool else none
  | some .string => if P.cellsOf t = 1 then some .str else none
  | some (.struct fs) => if matB P fs.toList t then some .mat else none
  | some (.slice e) => match P.underlying e with
    | some (.struct fs) => if matB P fs.toList e && P.cellsOf t == 1 then some .mats else none
    | _ => none
  | _ => none
def fieldsOf (rec : TypeId → Option (List AS)) (P : Program) : List Field → Nat → Option (List AS)
  | [], _ => some []
  | f :: fs, k => if f.offset = k then (match rec f.type with
    | some a => if P.cellsOf f.type = a.length then (fieldsOf rec P fs (k + a.length)).map (a ++ ·) else none
    | none => none) else none
def shapeOf (P : Program) : Nat → TypeId → Option (List AS)
  | 0, _ => none
  | n + 1, t => match P.underlying t with
    | some (.int k) => some [.int k]
    | some .bool => some [.bool]
    | some .string => some [.str]
    | some (.slice e) => (elTy P e).map fun τ => [.rd [] τ]
    | some (.struct fs) => match fieldsOf (shapeOf P n) P fs.toList 0 with
      | some asl => if P.cellsOf t = asl.length then some asl else none
      | none => none
    | _ => none
def oneAS (k : Nat) (l : List (Nat × TS)) : List AS → Option (List (Nat × TS))
  | [a] => some ((k, .c a) :: l)
  | _ => none
def parOf (P : Program) : List TypeId → Nat → Option (List (Nat × TS))
  | [], _ => some []
  | t :: ts, k => match shapeOf P 20 t, parOf P ts (k + 1) with
    | some asl, some l => (match P.underlying t with
      | some (.struct _) => some ((k, .agg asl) :: l)
      | some (.int _) | some .bool | some .string | some (.slice _) => oneAS k l asl
      | _ => none)
    | _, _ => none

theorem joinL {P : List AW → Prop} : ∀ (a b : List AS) (va : denL AS.den a) (vb : denL AS.den b), wfL a va → wfL b vb → ∃ v : denL AS.den (a ++ b), mkL AS.mk (a ++ b) v = mkL AS.mk a va ++ mkL AS.mk b vb ∧ wfL (a ++ b) v
  | [], b, _, vb, _, h => ⟨vb, rfl, h⟩
  | x :: a, b, va, vb, h1, h2 => by
    obtain ⟨v, e, h⟩ := joinL (P := P) a b va.2 vb h1.2 h2
    exact ⟨(va.1, v), congrArg (List.cons _) e, h1.1, h⟩

theorem mkL_length {α β : Type} {f : α → Type} {m : (a : α) → f a → β} : ∀ (l : List α) (x : denL f l), (mkL m l x).length = l.length
  | [], _ => rfl
  | a :: l, x => by simp [mkL, mkL_length l x.2]

section
variable {H : Type} {enc : TypeId × Value → H} {P : Program} {w : World} {held : Bool}
variable {γ : Gh} (hz : ∀ b, γ.z b ↔ b < w.heap.size)

theorem list_of {α : Type} {R : Nat → α → Prop} : ∀ n : Nat, (∀ i, i < n → ∃ a, R i a) → ∃ l : List α, l.length = n ∧ ∀ (i : Nat) (a : α), l[i]? = some a → R i a
  | 0, _ => ⟨[], rfl, fun i a h => by simp at h⟩
  | n + 1, h => by
    obtain ⟨l, hl, hr⟩ := list_of n (fun i hi => h i (by omega))
    obtain ⟨a, ha⟩ := h n (by omega)
    refine ⟨l ++ [a], by simp [hl], fun i b hb => ?_⟩
    rcases Nat.lt_or_ge i l.length with hi | hi
    · rw [List.getElem?_append_left hi] at hb; exact hr i b hb
    · have : i = n := by have := (List.getElem?_eq_some_iff.1 hb).1; simp at this; omega
      subst this
      rw [List.getElem?_append_right hi, hl] at hb
      simp at hb; subst hb; exact ha
theorem cells_get {base : Nat} {a : Addr} {n : Nat} {cs : List Value} (h : w.cells? base a n = some cs) : cs.length = n ∧ ∀ i u, cs[i]? = some u → w.cell? (a.add i) = some u := by
  unfold World.cells? at h
  split at h
  · have hm : ∀ (l : List Nat) (cs : List Value), l.mapM (fun i => w.cell? (a.add i)) = some cs → cs.length = l.length ∧ ∀ (i : Nat) (u : Value), cs[i]? = some u → ∃ j : Nat, l[i]? = some j ∧ w.cell? (a.add j) = some u := by
      intro l
      induction l with
      | nil => intro cs h; simp at h; subst h; exact ⟨rfl, fun i u hu => by simp at hu⟩
      | cons x t ih =>
        intro cs h
        rw [List.mapM_cons] at h
        obtain ⟨v, hv, h⟩ := Option.bind_eq_some_iff.1 h
        obtain ⟨vs, hvs, h⟩ := Option.bind_eq_some_iff.1 h
        have h' := Option.some.inj h
        subst h'
        obtain ⟨h1, h2⟩ := ih vs hvs
        refine ⟨by simp [h1], fun i u hu => ?_⟩
        cases i with
        | zero => simp at hu; subst hu; exact ⟨x, rfl, hv⟩
        | succ i => obtain ⟨j, hj, hc⟩ := h2 i u (by simpa using hu); exact ⟨j, by simpa using hj, hc⟩
    obtain ⟨h1, h2⟩ := hm _ _ h
    refine ⟨by simpa using h1, fun i u hu => ?_⟩
    obtain ⟨j, hj, hc⟩ := h2 i u hu
    have := List.getElem?_eq_some_iff.1 hj
    obtain ⟨hlt, e⟩ := this
    simp at e; subst e; exact hc
  · cases h
theorem cell_lt0 {a : Addr} {v : Value} (h : w.cell? a = some v) : a.block < w.heap.size := by
  unfold World.cell? at h
  cases e : w.heap[a.block]? with
  | none => rw [e] at h; cases h
  | some o => exact (Array.getElem?_eq_some_iff.1 e).1

/-- elements as they are read -/
def ElR (enc : TypeId × Value → H) (P : Program) (w : World) (held : Bool) (γ : Gh) (t : TypeId) (τ : Ty) : Prop :=
  P.cellsOf t = τ.sz ∧ ∀ fuel cs x, DataW.trod enc P w 0 (fun _ => true) held fuel t cs = some x → ∃ a : τ.den, F2 (CAt w (γ.inR [])) (τ.enc a) cs ∧ τ.wf a
theorem one_int {k : IntKind} {n : Int} : (Value.int k n).oneCell' = true := rfl
include hz in
theorem sl_rows {e : TypeId} {n : Nat} {α : Type} {f : α → List C} {W : α → Prop} (hn : 0 < n) (hc : P.cellsOf e = n) {t : TypeId} (ht : P.underlying t = some (.slice e))
    (he : ∀ fuel cs x, DataW.trod enc P w 0 (fun _ => true) held fuel e cs = some x → ∃ a : α, F2 (CAt w (γ.inR [])) (f a) cs ∧ W a) {fuel : Nat} {cs : List Value} {x}
    (h : DataW.trod enc P w 0 (fun _ => true) held fuel t cs = some x) :
    ∃ l : List α, ∃ v, cs = [v] ∧ v.oneCell' = true ∧ SlAt w (γ.inR []) v ⟨n, l.map f⟩ ∧ l.length ≤ maxLen ∧ ∀ a ∈ l, W a := by
  rcases DataW.trod_slice ht h with ⟨rfl, _⟩ | ⟨a, len, cap, elems, rest, m, _, rfl, _, _, hl, hm, hlen, hel, _, _⟩
  · exact ⟨[], _, rfl, rfl, ⟨by simp, none, 0, rfl, Nat.le_refl _, fun _ => rfl, fun h => absurd rfl h⟩, by simp, by simp⟩
  · have each : ∀ i, i < len → ∃ z : α, (∃ c : List Value, c.length = n ∧ F2 (CAt w (γ.inR [])) (f z) c ∧ ∀ q u, c[q]? = some u → w.cell? ((a.add (i * n)).add q) = some u) ∧ W z := by
      intro i hi
      have h1 := hel i hi
      rw [List.getElem?_eq_getElem (by omega)] at h1
      obtain ⟨c, hc1, hc2⟩ := Option.bind_eq_some_iff.1 h1
      obtain ⟨z, hz, hw⟩ := he _ _ _ hc2
      obtain ⟨g1, g2⟩ := cells_get hc1
      rw [hc] at g1 g2
      exact ⟨z, ⟨c, g1, hz, g2⟩, hw⟩
    obtain ⟨l, hll, hlr⟩ := list_of len each
    have len_f : ∀ i z, l[i]? = some z → (f z).length = n := fun i z hz => by
      obtain ⟨c, h1, h2, _⟩ := (hlr i z hz).1
      rw [h2.length, h1]
    refine ⟨l, _, rfl, rfl, ⟨?_, some a, cap, by simp [hll], by simp [hll]; omega, fun h => absurd h (by simp; omega), ?_⟩, by omega, fun x hx => ?_⟩
    · intro r hr
      obtain ⟨z, hz, rfl⟩ := List.mem_map.1 hr
      obtain ⟨i, hi, e⟩ := List.mem_iff_getElem.1 hz
      exact len_f i z (by rw [List.getElem?_eq_getElem hi, e])
    · intro hne
      cases l with
      | nil => exact absurd rfl hne
      | cons z0 l' =>
        obtain ⟨c, h1, h2, h3⟩ := (hlr 0 z0 rfl).1
        have g0 := h3 0 (c[0]'(by omega)) (List.getElem?_eq_getElem (by omega))
        have hspot : a.spot = none := by simpa [Addr.add] using World.cell?_spot g0
        obtain ⟨blk, off, spot⟩ := a
        simp at hspot
        subst hspot
        refine ⟨blk, off, rfl, Or.inl ((hz blk).2 (by have := cell_lt0 g0; rw [addr_add, addr_add] at this; exact this)), fun i r hr j x hx => ?_⟩
        simp only [List.getElem?_map, Option.map_eq_some_iff] at hr
        obtain ⟨z, hz', rfl⟩ := hr
        obtain ⟨c, h1, h2, h3⟩ := (hlr i z hz').1
        obtain ⟨u, hu, hR⟩ := h2.get hx
        refine ⟨u, ?_, hR⟩
        have := h3 j u hu
        rw [addr_add, addr_add] at this
        exact this
    · obtain ⟨i, hi, e⟩ := List.mem_iff_getElem.1 hx
      exact (hlr i x (by rw [List.getElem?_eq_getElem hi, e])).2

theorem isI64_eq {o : Option TypeDesc} (h : isI64 o = true) : o = some (.int .i64) := by
  unfold isI64 at h; split at h <;> simp_all
theorem mat_el {t : TypeId} {fs : Array Field} (ht : P.underlying t = some (.struct fs)) (hm : matB P fs.toList t = true) {fuel : Nat} {cs : List Value} {x}
    (h : DataW.trod enc P w 0 (fun _ => true) held fuel t cs = some x) : ∃ a : Int × Int, cs = Ty.row .mat a ∧ Ty.wf .mat a := by
  obtain ⟨xs, n, _, _, hl, hx, hf⟩ := DataW.trod_struct ht h
  rcases efs : fs.toList with _ | ⟨f, _ | ⟨g, _ | ⟨g', r⟩⟩⟩ <;> rw [efs] at hm <;> simp only [matB] at hm <;> try cases hm
  simp only [Bool.and_eq_true, beq_iff_eq] at hm
  obtain ⟨⟨⟨⟨⟨⟨a1, a2⟩, a3⟩, a4⟩, a5⟩, a6⟩, a7⟩ := hm
  have ef0 : fs[0]? = some f := by rw [← Array.getElem?_toList, efs]; rfl
  have ef1 : fs[1]? = some g := by rw [← Array.getElem?_toList, efs]; rfl
  have sz : fs.size = 2 := by rw [← Array.length_toList, efs]; rfl
  have g0 := hf 0 f ef0
  have g1 := hf 1 g ef1
  rw [List.getElem?_eq_getElem (by omega)] at g0 g1
  obtain ⟨p, hp, _, wp⟩ := DataW.trod_int (isI64_eq a1) g0
  obtain ⟨q, hq, _, wq⟩ := DataW.trod_int (isI64_eq a2) g1
  rw [a3, a5] at hp
  rw [a4, a6] at hq
  rw [a7] at hl
  match cs, hl with
  | [u, v], _ =>
    simp at hp hq
    subst hp hq
    exact ⟨(p, q), rfl, wp, wq⟩
include hz in
theorem el_of {t : TypeId} {τ : Ty} (ht : elTy P t = some τ) : ElR enc P w held γ t τ := by
  unfold elTy at ht
  split at ht
  · rename_i hu; split at ht <;> cases ht; rename_i hc
    exact ⟨hc, fun _ _ _ h => by obtain ⟨n, rfl, _, hw⟩ := DataW.trod_int hu h; exact ⟨n, .cons ⟨rfl, rfl⟩ .nil, hw⟩⟩
  · rename_i hu; split at ht <;> cases ht; rename_i hc
    exact ⟨hc, fun _ _ _ h => by obtain ⟨n, rfl, _, hw⟩ := DataW.trod_int hu h; exact ⟨n, .cons ⟨rfl, rfl⟩ .nil, hw⟩⟩
  · rename_i hu; split at ht <;> cases ht; rename_i hc
    exact ⟨hc, fun _ _ _ h => by obtain ⟨n, rfl, _⟩ := DataW.trod_bool hu h; exact ⟨n, .cons ⟨rfl, rfl⟩ .nil, trivial⟩⟩
  · rename_i hu; split at ht <;> cases ht; rename_i hc
    exact ⟨hc, fun _ _ _ h => by obtain ⟨n, rfl, _, hs⟩ := DataW.trod_string hu h; exact ⟨n, .cons ⟨rfl, rfl⟩ .nil, hs⟩⟩
  · rename_i fs hu; split at ht <;> cases ht; rename_i hm
    have hm' := hm
    refine ⟨?_, fun _ _ _ h => by obtain ⟨a, rfl, hw⟩ := mat_el hu hm h; exact ⟨a, .cons ⟨rfl, rfl⟩ (.cons ⟨rfl, rfl⟩ .nil), hw⟩⟩
    unfold matB at hm'
    split at hm'
    · simp only [Bool.and_eq_true, beq_iff_eq] at hm'; exact hm'.2
    · cases hm'
  · rename_i e hu
    split at ht
    · rename_i fs he
      split at ht <;> cases ht
      rename_i hb
      simp only [Bool.and_eq_true, beq_iff_eq] at hb
      obtain ⟨hm, hc⟩ := hb
      refine ⟨hc, fun _ _ _ h => ?_⟩
      have hce : P.cellsOf e = 2 := by
        unfold matB at hm
        split at hm
        · simp only [Bool.and_eq_true, beq_iff_eq] at hm; exact hm.2
        · cases hm
      obtain ⟨l, v, rfl, h1, h2, h3, h4⟩ := sl_rows (w := w) (γ := γ) hz (f := Ty.enc .mat) (W := Ty.wf .mat) (n := 2) (by omega) hce hu (fun _ _ _ h => by obtain ⟨a, rfl, hw⟩ := mat_el he hm h; exact ⟨a, .cons ⟨rfl, rfl⟩ (.cons ⟨rfl, rfl⟩ .nil), hw⟩) h
      refine ⟨l, .cons ?_ .nil, h3, h4⟩
      obtain ⟨k1, a, cap, k2, k3, k4, k5⟩ := h2
      refine ⟨fun r hr => ?_, a, cap, by simpa using k2, by simpa using k3, fun h => absurd h (by omega), fun hne => ?_⟩
      · obtain ⟨z, _, rfl⟩ := List.mem_map.1 hr; rfl
      · obtain ⟨blk, off, ea, hR, hc⟩ := k5 (by simpa using hne)
        refine ⟨blk, off, ea, hR, fun i r hr j x hx => ?_⟩
        simp only [List.getElem?_map, Option.map_eq_some_iff] at hr
        obtain ⟨z, hz', rfl⟩ := hr
        obtain ⟨u, hu, hC⟩ := hc i (Ty.enc .mat z) (by simp [hz']) j (.v x) (by simp [Ty.enc, hx])
        obtain ⟨rfl, ho⟩ := hC
        exact ⟨hu, ho⟩
    · cases ht
  · cases ht

/-- a type, asl its cells are read -/
def ShR (enc : TypeId × Value → H) (P : Program) (w : World) (held : Bool) (γ : Gh) (t : TypeId) (asl : List AS) : Prop :=
  ∀ fuel cs x, DataW.trod enc P w 0 (fun _ => true) held fuel t cs = some x → ∃ v : denL AS.den asl, Cells γ w ((mkL AS.mk asl v).map AW.enc) cs ∧ wfL asl v

theorem fields_of {rec : TypeId → Option (List AS)} (hrec : ∀ t asl, rec t = some asl → ShR enc P w held γ t asl) {cs : List Value} : ∀ (fs : List Field) (k : Nat) (asl : List AS), fieldsOf rec P fs k = some asl →
    (∀ f ∈ fs, ∃ n y, DataW.trod enc P w 0 (fun _ => true) held n f.type ((cs.drop f.offset).take (P.cellsOf f.type)) = some y) →
    ∃ v : denL AS.den asl, Cells γ w ((mkL AS.mk asl v).map AW.enc) ((cs.drop k).take asl.length) ∧ wfL asl v
  | [], k, asl, h, _ => by
    cases h
    exact ⟨(), by rw [List.length_nil, List.take_zero]; exact .nil, trivial⟩
  | f :: fs, k, asl, h, hf => by
    simp only [fieldsOf] at h
    split at h
    · rename_i hk
      split at h
      · rename_i a ha
        split at h
        · rename_i hc
          simp only [Option.map_eq_some_iff] at h
          obtain ⟨b, hb, rfl⟩ := h
          obtain ⟨v2, c2, w2⟩ := fields_of hrec fs (k + a.length) b hb (fun g hg => hf g (List.mem_cons_of_mem _ hg))
          obtain ⟨n, y, hy⟩ := hf f (List.mem_cons_self ..)
          rw [hk, hc] at hy
          obtain ⟨v1, c1, w1⟩ := hrec _ _ ha _ _ _ hy
          obtain ⟨v, ev, wv⟩ := joinL (P := fun _ => True) a b v1 v2 w1 w2
          refine ⟨v, ?_, wv⟩
          rw [ev, List.map_append, List.length_append, List.take_add, List.drop_drop]
          exact F2.append c1 c2
        · cases h
      · cases h
    · cases h
include hz in
theorem shape_of : ∀ (n : Nat) (t : TypeId) (asl : List AS), shapeOf P n t = some asl → ShR enc P w held γ t asl
  | 0, _, _, h => by cases h
  | n + 1, t, asl, h => by
    unfold shapeOf at h
    split at h
    · rename_i hu; cases h
      exact fun _ _ _ h => by obtain ⟨n, rfl, _, hw⟩ := DataW.trod_int hu h; exact ⟨(n, ()), .cons ⟨rfl, rfl⟩ .nil, hw, trivial⟩
    · rename_i hu; cases h
      exact fun _ _ _ h => by obtain ⟨n, rfl, _⟩ := DataW.trod_bool hu h; exact ⟨(n, ()), .cons ⟨rfl, rfl⟩ .nil, trivial, trivial⟩
    · rename_i hu; cases h
      exact fun _ _ _ h => by obtain ⟨n, rfl, _, hs⟩ := DataW.trod_string hu h; exact ⟨(n, ()), .cons ⟨rfl, rfl⟩ .nil, hs, trivial⟩
    · rename_i e hu
      simp only [Option.map_eq_some_iff] at h
      obtain ⟨τ, hτ, rfl⟩ := h
      intro fuel cs x h
      obtain ⟨hc, he⟩ := el_of (enc := enc) (w := w) (held := held) hz hτ
      obtain ⟨l, v, rfl, h1, h2, h3, h4⟩ := sl_rows (w := w) (γ := γ) hz (f := τ.enc) (W := τ.wf) (n := τ.sz) (by cases τ <;> decide) hc hu he h
      exact ⟨(l, ()), .cons ⟨h2, h1⟩ .nil, ⟨h3, h4⟩, trivial⟩
    · rename_i fs hu
      split at h
      · rename_i asl' hfs
        split at h <;> cases h
        rename_i hc
        intro fuel cs x h
        obtain ⟨xs, m, _, _, hl, hx, hf⟩ := DataW.trod_struct hu h
        obtain ⟨v, c, wv⟩ := fields_of (shape_of n) (cs := cs) fs.toList 0 _ hfs (fun f hf' => by
          obtain ⟨i, hi, e⟩ := List.mem_iff_getElem.1 hf'
          have e' : fs[i]? = some f := by rw [← Array.getElem?_toList, List.getElem?_eq_getElem hi, e]
          have := hf i f e'
          rw [List.getElem?_eq_getElem (by rw [hx]; simpa using hi)] at this
          exact ⟨_, _, this⟩)
        refine ⟨v, ?_, wv⟩
        rwa [List.drop_zero, List.take_of_length_le (by omega)] at c
      · cases h
    · cases h
include hz in
theorem par_of : ∀ (ts : List TypeId) (k : Nat) (l : List (Nat × TS)) (vs : List Value) (ds : List (DataW H)) (ps : List MemPlace), parOf P ts k = some l → DataW.TrodAll enc P w 0 (fun _ => true) held ts vs ds ps →
    (∀ (j : Nat) t v, ts[j]? = some t → vs[j]? = some v → Value.okWide P w .any 0 t v) →
    ∃ x : denL (fun p : Nat × TS => p.2.den) l, wfP l x ∧ ∀ t y, look t (encL TW.enc (mkL (fun p y => (p.1, TS.mk p.2 y)) l x)) = some y → k ≤ t ∧ TVrep γ w y (vs.toArray.getD (t - k) undef)
  | [], k, l, vs, ds, ps, hp, _, _ => by cases hp; exact ⟨(), trivial, fun _ _ h => by cases h⟩
  | t :: ts, k, l, vs, ds, ps, hp, hA, hv => by
    obtain ⟨v, vs', d, ds', p, q, rfl, rfl, rfl, ⟨fuel, ht⟩, hA'⟩ := trodAll_cons hA
    unfold parOf at hp
    split at hp
    · rename_i asl l' has hl'
      obtain ⟨x, wx, hx⟩ := par_of ts (k + 1) l' vs' ds' q hl' hA' (fun j t v h1 h2 => hv (j + 1) t v (by simpa using h1) (by simpa using h2))
      obtain ⟨y, cy, wy⟩ := shape_of hz 20 t asl has _ _ _ ht
      have hv0 := hv 0 t v rfl rfl
      have rest : ∀ (s : TS) (z : s.den), TVrep γ w (TS.mk s z).enc v → ∀ t y, look t (encL TW.enc (mkL (f := fun p : Nat × TS => p.2.den) (fun p y => (p.1, TS.mk p.2 y)) ((k, s) :: l') (z, x))) = some y → k ≤ t ∧ TVrep γ w y ((v :: vs').toArray.getD (t - k) undef) := by
        intro s z hz t y h
        simp only [mkL, encL, List.map_cons, look] at h
        split at h
        · rename_i e
          cases h
          subst e
          exact ⟨Nat.le_refl _, by simpa using hz⟩
        · obtain ⟨h1, h2⟩ := hx t y h
          refine ⟨by omega, ?_⟩
          have : t - k = (t - (k + 1)) + 1 := by omega
          rw [this]
          simpa [Array.getD_eq_getD_getElem?] using h2
      have sc : (∃ a, v.cells.toList = [a] ∧ v = a) → oneAS k l' asl = some l →
          ∃ x : denL (fun p : Nat × TS => p.2.den) l, wfP l x ∧ ∀ t y, look t (encL TW.enc (mkL (fun p y => (p.1, TS.mk p.2 y)) l x)) = some y → k ≤ t ∧ TVrep γ w y ((v :: vs').toArray.getD (t - k) undef) := by
        intro ⟨a, ea, e⟩ hp
        unfold oneAS at hp
        split at hp
        · cases hp
          rw [ea] at cy
          subst e
          cases cy with
          | cons c _ => exact ⟨(y.1, x), ⟨wy.1, wx⟩, rest (.c _) y.1 c.1⟩
        · cases hp
      split at hp
      · rename_i fs hu
        cases hp
        obtain ⟨cs, rfl, _, _⟩ : ∃ cs, v = .agg cs ∧ cs.size = P.cellsOf t ∧ Row.okWide P w .any 0 t cs := by simpa [Value.okWide, hu] using hv0
        exact ⟨(y, x), ⟨wy, wx⟩, rest (.agg asl) y ⟨cs.toList, by simp, cy⟩⟩
      · rename_i hu
        obtain ⟨n, rfl⟩ := okWide_int hu hv0
        exact sc ⟨_, rfl, rfl⟩ hp
      · rename_i hu
        obtain ⟨n, rfl⟩ := okWide_bool hu hv0
        exact sc ⟨_, rfl, rfl⟩ hp
      · rename_i hu
        obtain ⟨n, rfl⟩ := okWide_string hu hv0
        exact sc ⟨_, rfl, rfl⟩ hp
      · rename_i hu
        obtain ⟨a, b, c, rfl⟩ := okWide_slice hu hv0
        exact sc ⟨_, rfl, rfl⟩ hp
      · cases hp
    · cases hp
theorem trod_rest {W W' : World} (hl : laidOutB P = true) (bel : Below W.heap.size W W') : ∀ {ts : List TypeId} {vs : List Value} {ds : List (DataW H)} {ps : List MemPlace},
    (ts.all fun t => P.readableRec t && decide (t < P.types.size)) = true → DataW.TrodAll enc P W 0 (fun _ => true) true ts vs ds ps → DataW.TrodAll enc P W' 0 (fun b => decide (b < W.heap.size)) true ts vs ds ps
  | [], _, _, _, _, h => by obtain ⟨rfl, rfl, rfl⟩ := trodAll_nil h; exact trodAll_mk0
  | t :: ts, _, _, _, hr, h => by
    obtain ⟨v, vs', d, ds', p, q, rfl, rfl, rfl, k, hA'⟩ := trodAll_cons h
    simp only [List.all_cons, Bool.and_eq_true, decide_eq_true_eq] at hr
    have lt : ∀ x ∈ p, x.block < W.heap.size := by obtain ⟨m, hm⟩ := k; exact DataW.trod_lt m _ _ _ hm
    exact trodAll_cons_mk (Below.trod hl hr.1.1 hr.1.2 k bel lt) (trod_rest hl bel hr.2 hA')
end
theorem trodAll_len {H : Type} {enc : TypeId × Value → H} {P : Program} {w : World} {base : Nat} {spare : Nat → Bool} {held : Bool} : ∀ {ts : List TypeId} {vs : List Value} {ds : List (DataW H)} {ps : List MemPlace},
    DataW.TrodAll enc P w base spare held ts vs ds ps → ds.length = ts.length
  | [], _, _, _, h => by obtain ⟨_, rfl, _⟩ := trodAll_nil h; rfl
  | t :: ts, _, _, _, h => by
    obtain ⟨v, vs', d, ds', p, q, rfl, rfl, rfl, k, hA'⟩ := trodAll_cons h
    simp [trodAll_len hA']
theorem len0 {α : Type} {l : List α} (h : l.length = 0) : l = [] := List.length_eq_zero_iff.1 h
theorem len1 {α : Type} {l : List α} (h : l.length = 1) : ∃ a, l = [a] := List.length_eq_one_iff.1 h
theorem len2 {α : Type} : ∀ {l : List α}, l.length = 2 → ∃ a b, l = [a, b]
  | [a, b], _ => ⟨a, b, rfl⟩
theorem len3 {α : Type} : ∀ {l : List α}, l.length = 3 → ∃ a b c, l = [a, b, c]
  | [a, b, c], _ => ⟨a, b, c, rfl⟩
theorem len4 {α : Type} : ∀ {l : List α}, l.length = 4 → ∃ a b c d, l = [a, b, c, d]
  | [a, b, c, d], _ => ⟨a, b, c, d, rfl⟩
theorem len5 {α : Type} : ∀ {l : List α}, l.length = 5 → ∃ a b c d e, l = [a, b, c, d, e]
  | [a, b, c, d, e], _ => ⟨a, b, c, d, e, rfl⟩
theorem len6 {α : Type} : ∀ {l : List α}, l.length = 6 → ∃ a b c d e f, l = [a, b, c, d, e, f]
  | [a, b, c, d, e, f], _ => ⟨a, b, c, d, e, f, rfl⟩
theorem Hist.below {w : World} {γ' : Gh} {w' : World} (h : Hist (Gh0 w) w γ' w') : Below w.heap.size w w' :=
  ⟨h.os, h.tape, h.output, h.size, fun k hk => (h.block k hk rfl).1⟩

/-- a law that answers true: the call, from its arguments asl the row reads them -/
theorem law_call {H : Type} {enc : TypeId × Value → H} {E : Env} {c : Ctr} (hok : c.Ok E) {ts : List TypeId} {vs : List Value} {ds : List (DataW H)} {ps : List MemPlace} {w : World} {l : List (Nat × TS)}
    (hp : parOf E.P ts 0 = some l) (harg : c.arg = ⟨l, [], []⟩) (hres : c.res = [⟨[(0, .c .bool)], [], []⟩]) (hn : E.nres c.f = 1) (har : c.ar = none)
    (hA : DataW.TrodAll enc E.P w 0 (fun _ => true) true ts vs ds ps) (hv : ∀ (j : Nat) t v, ts[j]? = some t → vs[j]? = some v → Value.okWide E.P w .any 0 t v)
    (hpk : E.pk w) (hF : ∀ x : c.arg.den, wfP c.arg.tm x.1 → ∃ y : altDen c.res, c.F x = some y ∧ (altMk c.res y).tm = [(0, .c (.v (.bool true)))]) :
    Calls E.P c.f vs.toArray w fun e w' => e = .returned (.bool true) ∧ Below w.heap.size w w' := by
  obtain ⟨x, wx, hx⟩ := par_of (γ := Gh0 w) (fun _ => Iff.rfl) ts 0 l vs ds ps hp hA hv
  obtain ⟨y, hy, ht⟩ : ∃ y, c.F (harg ▸ (x, (), ())) = some y ∧ (altMk c.res y).tm = [(0, .c (.v (.bool true)))] := by
    refine hF _ ?_
    obtain ⟨f, arg, res, F, ar⟩ := c
    simp only at harg
    subst harg
    exact wx
  have hrel : Rel (Gh0 w) (c.arg.mk' (harg ▸ (x, (), ()))).enc vs.toArray w := by
    obtain ⟨f, arg, res, F, ar⟩ := c
    simp only at harg
    subst harg
    exact ⟨fun t y h => (hx t y h).2, fun _ _ h => (by cases h), fun _ _ h => (by cases h), fun _ _ => rfl, fun b h => h.elim id fun h => absurd rfl h⟩
  refine (hok _ _ hy _ vs w (fun n h => by rw [har] at h; cases h) ⟨w, hpk, fun b hb => ⟨hb, rfl, rfl⟩⟩ hrel).mono fun e w' ⟨vals, γ', he, hl, hR, hH⟩ => ⟨?_, hH.below⟩
  rw [hn] at hl
  match vals, hl with
  | [v], _ =>
    have := hR.tm 0 (.c (.v (.bool true))) (by simp [Wt.enc, ht, encL, look, TW.enc, AW.enc])
    have e : v = .bool true := by simpa [TVrep, AVrep] using this
    rw [he, e]
    rfl
end Go.Tree
