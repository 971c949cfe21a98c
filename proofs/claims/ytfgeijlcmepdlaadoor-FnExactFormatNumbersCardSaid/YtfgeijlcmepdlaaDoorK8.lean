/- Part 8 of the tree calculus: symbolic execution of the model's code over typed lists, proved sound. No condition. -/
import Derived.Test.YtfgeijlcmepdlaaDoorK7
import Derived.ChangeArms
import Derived.ChangeShapes
import Derived.WideShapes
import Derived.OpenShut
import Derived.ShutString
import Derived.ChangeOld
import Derived.Below
import Derived.Carry
import Derived.Shelf.Spec.SlicesGrow
import Derived.Laws.CopyRow
import Derived.Laws.CopyOwn
import Derived.Laws.OwnMore
import Derived.Lib.Join
import Derived.Lib.Repeat
import Derived.Lib.SplitLaws
import Derived.Lib.OwnBridge
import Derived.Shelf.SlicesE.DeleteFunc
import Derived.Lib.ItoaNum
import Derived.Lib.LaidTab
namespace Go.Tree
open Go Go.RowKit
open Go.ChangeShapes Go.WideShapes
set_option linter.constructorNameAsVariable false
set_option linter.unusedVariables false

/-- all that was there before the call is memory that stays -/
def Gh0 (w : World) : Gh := ⟨fun _ => .nilFunc, fun _ => 0, fun _ _ => .nilFunc, fun _ _ => 0, fun _ => 0, fun _ => none, fun b => b < w.heap.size⟩

abbrev I64 (n : Int) : Prop := (Lit.int .i64 n).wf = true
def Ty.wf : (t : Ty) → t.den → Prop
  | .i64, n => I64 n | .u8, n => (Lit.int .u8 n).wf = true | .bool, _ => True | .str, s => s.size ≤ maxLen | .mat, p => I64 p.1 ∧ I64 p.2
  | .mats, l => l.length ≤ maxLen ∧ ∀ p ∈ l, I64 p.1 ∧ I64 p.2
def AS.wf : (a : AS) → a.den → Prop
  | .int k, n => (Lit.int k n).wf = true | .str, s => s.size ≤ maxLen | .rd _ t, l => l.length ≤ maxLen ∧ ∀ x ∈ l, t.wf x | _, _ => True
def wfL : (l : List AS) → denL AS.den l → Prop
  | [], _ => True | a :: l, x => a.wf x.1 ∧ wfL l x.2
def TS.wf : (s : TS) → s.den → Prop
  | .c a, x => a.wf x | .agg l, x => wfL l x
def wfP : (l : List (Nat × TS)) → denL (fun p : Nat × TS => p.2.den) l → Prop
  | [], _ => True | p :: l, x => p.2.wf x.1 ∧ wfP l x.2

def isI64 : Option TypeDesc → Bool | some (.int .i64) => true | _ => false
def matB (P : Program) : List Field → TypeId → Bool
  | [f, g], t => isI64 (P.underlying f.type) && isI64 (P.underlying g.type) && f.offset == 0 && g.offset == 1 && P.cellsOf f.type == 1 && P.cellsOf g.type == 1 && P.cellsOf t == 2
  | _, _ => false
def elTy (P : Program) (t : TypeId) : Option Ty := match P.underlying t with
  | some (.int .i64) => if P.cellsOf t = 1 then some .i64 else none
  | some (.int .u8) => if P.cellsOf t = 1 then some .u8 else none
  | some .bool => if P.cellsOf t = 1 then some .bool else none
  | some .string => if P.cellsOf t = 1 then some .str else none
  | some (.struct fs) => if matB P fs.toList t then some .mat else none
  | some (.slice e) => match P.underlying e with
    | some (.struct fs) => if matB P fs.toList e && P.cellsOf t == 1 then some .mats else none
    | _ => none
  | _ => none
def fieldsOf (rec : TypeId → Option (List AS)) (P : Program) : List Field → Nat → Option (List AS)
  | [], _ => some []
  | f :: fs, k => if f.offset = k then (match rec f.type with
    | some a => if P.cellsOf f.type = a.length then (fieldsOf rec P fs (k + a.length)).map (a ++ ·) else none
    | none => none) else none
def shapeOf (P : Program) : Nat → TypeId → Option (List AS)
  | 0, _ => none
  | n + 1, t => match P.underlying t with
    | some (.int k) => some [.int k]
    | some .bool => some [.bool]
    | some .string => some [.str]
    | some (.slice e) => (elTy P e).map fun τ => [.rd [] τ]
    | some (.struct fs) => match fieldsOf (shapeOf P n) P fs.toList 0 with
      | some asl => if P.cellsOf t = asl.length then some asl else none
      | none => none
    | _ => none
def oneAS (k : Nat) (l : List (Nat × TS)) : List AS → Option (List (Nat × TS))
  | [a] => some ((k, .c a) :: l)
  | _ => none
def parOf (P : Program) : List TypeId → Nat → Option (List (Nat × TS))
  | [], _ => some []
  | t :: ts, k => match shapeOf P 20 t, parOf P ts (k + 1) with
    | some asl, some l => (match P.underlying t with
      | some (.struct _) => some ((k, .agg asl) :: l)
      | some (.int _) | some .bool | some .string | some (.slice _) => oneAS k l asl
      | _ => none)
    | _, _ => none

theorem joinL {P : List AW → Prop} : ∀ (a b : List AS) (va : denL AS.den a) (vb : denL AS.den b), wfL a va → wfL b vb → ∃ v : denL AS.den (a ++ b), mkL AS.mk (a ++ b) v = mkL AS.mk a va ++ mkL AS.mk b vb ∧ wfL (a ++ b) v
  | [], b, _, vb, _, h => ⟨vb, rfl, h⟩
  | x :: a, b, va, vb, h1, h2 => by
    obtain ⟨v, e, h⟩ := joinL (P := P) a b va.2 vb h1.2 h2
    exact ⟨(va.1, v), congrArg (List.cons _) e, h1.1, h⟩

theorem mkL_length {α β : Type} {f : α → Type} {m : (a : α) → f a → β} : ∀ (l : List α) (x : denL f l), (mkL m l x).length = l.length
  | [], _ => rfl
  | a :: l, x => by simp [mkL, mkL_length l x.2]

section
variable {H : Type} {enc : TypeId × Value → H} {P : Program} {w : World} {held : Bool}
variable {γ : Gh} (hz : ∀ b, γ.z b ↔ b < w.heap.size)

theorem list_of {α : Type} {R : Nat → α → Prop} : ∀ n : Nat, (∀ i, i < n → ∃ a, R i a) → ∃ l : List α, l.length = n ∧ ∀ (i : Nat) (a : α), l[i]? = some a → R i a
  | 0, _ => ⟨[], rfl, fun i a h => by simp at h⟩
  | n + 1, h => by
    obtain ⟨l, hl, hr⟩ := list_of n (fun i hi => h i (by omega))
    obtain ⟨a, ha⟩ := h n (by omega)
    refine ⟨l ++ [a], by simp [hl], fun i b hb => ?_⟩
    rcases Nat.lt_or_ge i l.length with hi | hi
    · rw [List.getElem?_append_left hi] at hb; exact hr i b hb
    · have : i = n := by have := (List.getElem?_eq_some_iff.1 hb).1; simp at this; omega
      subst this
      rw [List.getElem?_append_right hi, hl] at hb
      simp at hb; subst hb; exact ha
theorem cells_get {base : Nat} {a : Addr} {n : Nat} {cs : List Value} (h : w.cells? base a n = some cs) : cs.length = n ∧ ∀ i u, cs[i]? = some u → w.cell? (a.add i) = some u := by
  unfold World.cells? at h
  split at h
  · have hm : ∀ (l : List Nat) (cs : List Value), l.mapM (fun i => w.cell? (a.add i)) = some cs → cs.length = l.length ∧ ∀ (i : Nat) (u : Value), cs[i]? = some u → ∃ j : Nat, l[i]? = some j ∧ w.cell? (a.add j) = some u := by
      intro l
      induction l with
      | nil => intro cs h; simp at h; subst h; exact ⟨rfl, fun i u hu => by simp at hu⟩
      | cons x t ih =>
        intro cs h
        rw [List.mapM_cons] at h
        obtain ⟨v, hv, h⟩ := Option.bind_eq_some_iff.1 h
        obtain ⟨vs, hvs, h⟩ := Option.bind_eq_some_iff.1 h
        have h' := Option.some.inj h
        subst h'
        obtain ⟨h1, h2⟩ := ih vs hvs
        refine ⟨by simp [h1], fun i u hu => ?_⟩
        cases i with
        | zero => simp at hu; subst hu; exact ⟨x, rfl, hv⟩
        | succ i => obtain ⟨j, hj, hc⟩ := h2 i u (by simpa using hu); exact ⟨j, by simpa using hj, hc⟩
    obtain ⟨h1, h2⟩ := hm _ _ h
    refine ⟨by simpa using h1, fun i u hu => ?_⟩
    obtain ⟨j, hj, hc⟩ := h2 i u hu
    have := List.getElem?_eq_some_iff.1 hj
    obtain ⟨hlt, e⟩ := this
    simp at e; subst e; exact hc
  · cases h
theorem cell_lt0 {a : Addr} {v : Value} (h : w.cell? a = some v) : a.block < w.heap.size := by
  unfold World.cell? at h
  cases e : w.heap[a.block]? with
  | none => rw [e] at h; cases h
  | some o => exact (Array.getElem?_eq_some_iff.1 e).1

/-- elements as they are read -/
def ElR (enc : TypeId × Value → H) (P : Program) (w : World) (held : Bool) (γ : Gh) (t : TypeId) (τ : Ty) : Prop :=
  P.cellsOf t = τ.sz ∧ ∀ fuel cs x, DataW.trod enc P w 0 (fun _ => true) held fuel t cs = some x → ∃ a : τ.den, F2 (CAt w (γ.inR [])) (τ.enc a) cs ∧ τ.wf a
theorem one_int {k : IntKind} {n : Int} : (Value.int k n).oneCell' = true := rfl
include hz in
theorem sl_rows {e : TypeId} {n : Nat} {α : Type} {f : α → List C} {W : α → Prop} (hn : 0 < n) (hc : P.cellsOf e = n) {t : TypeId} (ht : P.underlying t = some (.slice e))
    (he : ∀ fuel cs x, DataW.trod enc P w 0 (fun _ => true) held fuel e cs = some x → ∃ a : α, F2 (CAt w (γ.inR [])) (f a) cs ∧ W a) {fuel : Nat} {cs : List Value} {x}
    (h : DataW.trod enc P w 0 (fun _ => true) held fuel t cs = some x) :
    ∃ l : List α, ∃ v, cs = [v] ∧ v.oneCell' = true ∧ SlAt w (γ.inR []) v ⟨n, l.map f⟩ ∧ l.length ≤ maxLen ∧ ∀ a ∈ l, W a := by
  rcases DataW.trod_slice ht h with ⟨rfl, _⟩ | ⟨a, len, cap, elems, rest, m, _, rfl, _, _, hl, hm, hlen, hel, _, _⟩
  · exact ⟨[], _, rfl, rfl, ⟨by simp, none, 0, rfl, Nat.le_refl _, fun _ => rfl, fun h => absurd rfl h⟩, by simp, by simp⟩
  · have each : ∀ i, i < len → ∃ z : α, (∃ c : List Value, c.length = n ∧ F2 (CAt w (γ.inR [])) (f z) c ∧ ∀ q u, c[q]? = some u → w.cell? ((a.add (i * n)).add q) = some u) ∧ W z := by
      intro i hi
      have h1 := hel i hi
      rw [List.getElem?_eq_getElem (by omega)] at h1
      obtain ⟨c, hc1, hc2⟩ := Option.bind_eq_some_iff.1 h1
      obtain ⟨z, hz, hw⟩ := he _ _ _ hc2
      obtain ⟨g1, g2⟩ := cells_get hc1
      rw [hc] at g1 g2
      exact ⟨z, ⟨c, g1, hz, g2⟩, hw⟩
    obtain ⟨l, hll, hlr⟩ := list_of len each
    have len_f : ∀ i z, l[i]? = some z → (f z).length = n := fun i z hz => by
      obtain ⟨c, h1, h2, _⟩ := (hlr i z hz).1
      rw [h2.length, h1]
    refine ⟨l, _, rfl, rfl, ⟨?_, some a, cap, by simp [hll], by simp [hll]; omega, fun h => absurd h (by simp; omega), ?_⟩, by omega, fun x hx => ?_⟩
    · intro r hr
      obtain ⟨z, hz, rfl⟩ := List.mem_map.1 hr
      obtain ⟨i, hi, e⟩ := List.mem_iff_getElem.1 hz
      exact len_f i z (by rw [List.getElem?_eq_getElem hi, e])
    · intro hne
      cases l with
      | nil => exact absurd rfl hne
      | cons z0 l' =>
        obtain ⟨c, h1, h2, h3⟩ := (hlr 0 z0 rfl).1
        have g0 := h3 0 (c[0]'(by omega)) (List.getElem?_eq_getElem (by omega))
        have hspot : a.spot = none := by simpa [Addr.add] using World.cell?_spot g0
        obtain ⟨blk, off, spot⟩ := a
        simp at hspot
        subst hspot
        refine ⟨blk, off, rfl, Or.inl ((hz blk).2 (by have := cell_lt0 g0; rw [addr_add, addr_add] at this; exact this)), fun i r hr j x hx => ?_⟩
        simp only [List.getElem?_map, Option.map_eq_some_iff] at hr
        obtain ⟨z, hz', rfl⟩ := hr
        obtain ⟨c, h1, h2, h3⟩ := (hlr i z hz').1
        obtain ⟨u, hu, hR⟩ := h2.get hx
        refine ⟨u, ?_, hR⟩
        have := h3 j u hu
        rw [addr_add, addr_add] at this
        exact this
    · obtain ⟨i, hi, e⟩ := List.mem_iff_getElem.1 hx
      exact (hlr i x (by rw [List.getElem?_eq_getElem hi, e])).2

theorem isI64_eq {o : Option TypeDesc} (h : isI64 o = true) : o = some (.int .i64) := by
  unfold isI64 at h; split at h <;> simp_all
theorem mat_el {t : TypeId} {fs : Array Field} (ht : P.underlying t = some (.struct fs)) (hm : matB P fs.toList t = true) {fuel : Nat} {cs : List Value} {x}
    (h : DataW.trod enc P w 0 (fun _ => true) held fuel t cs = some x) : ∃ a : Int × Int, cs = Ty.row .mat a ∧ Ty.wf .mat a := by
  obtain ⟨xs, n, _, _, hl, hx, hf⟩ := DataW.trod_struct ht h
  rcases efs : fs.toList with _ | ⟨f, _ | ⟨g, _ | ⟨g', r⟩⟩⟩ <;> rw [efs] at hm <;> simp only [matB] at hm <;> try cases hm
  simp only [Bool.and_eq_true, beq_iff_eq] at hm
  obtain ⟨⟨⟨⟨⟨⟨a1, a2⟩, a3⟩, a4⟩, a5⟩, a6⟩, a7⟩ := hm
  have ef0 : fs[0]? = some f := by rw [← Array.getElem?_toList, efs]; rfl
  have ef1 : fs[1]? = some g := by rw [← Array.getElem?_toList, efs]; rfl
  have sz : fs.size = 2 := by rw [← Array.length_toList, efs]; rfl
  have g0 := hf 0 f ef0
  have g1 := hf 1 g ef1
  rw [List.getElem?_eq_getElem (by omega)] at g0 g1
  obtain ⟨p, hp, _, wp⟩ := DataW.trod_int (isI64_eq a1) g0
  obtain ⟨q, hq, _, wq⟩ := DataW.trod_int (isI64_eq a2) g1
  rw [a3, a5] at hp
  rw [a4, a6] at hq
  rw [a7] at hl
  match cs, hl with
  | [u, v], _ =>
    simp at hp hq
    subst hp hq
    exact ⟨(p, q), rfl, wp, wq⟩
include hz in
theorem el_of {t : TypeId} {τ : Ty} (ht : elTy P t = some τ) : ElR enc P w held γ t τ := by
  unfold elTy at ht
  split at ht
  · rename_i hu; split at ht <;> cases ht; rename_i hc
    exact ⟨hc, fun _ _ _ h => by obtain ⟨n, rfl, _, hw⟩ := DataW.trod_int hu h; exact ⟨n, .cons ⟨rfl, rfl⟩ .nil, hw⟩⟩
  · rename_i hu; split at ht <;> cases ht; rename_i hc
    exact ⟨hc, fun _ _ _ h => by obtain ⟨n, rfl, _, hw⟩ := DataW.trod_int hu h; exact ⟨n, .cons ⟨rfl, rfl⟩ .nil, hw⟩⟩
  · rename_i hu; split at ht <;> cases ht; rename_i hc
    exact ⟨hc, fun _ _ _ h => by obtain ⟨n, rfl, _⟩ := DataW.trod_bool hu h; exact ⟨n, .cons ⟨rfl, rfl⟩ .nil, trivial⟩⟩
  · rename_i hu; split at ht <;> cases ht; rename_i hc
    exact ⟨hc, fun _ _ _ h => by obtain ⟨n, rfl, _, hs⟩ := DataW.trod_string hu h; exact ⟨n, .cons ⟨rfl, rfl⟩ .nil, hs⟩⟩
  · rename_i fs hu; split at ht <;> cases ht; rename_i hm
    have hm' := hm
    refine ⟨?_, fun _ _ _ h => by obtain ⟨a, rfl, hw⟩ := mat_el hu hm h; exact ⟨a, .cons ⟨rfl, rfl⟩ (.cons ⟨rfl, rfl⟩ .nil), hw⟩⟩
    unfold matB at hm'
    split at hm'
    · simp only [Bool.and_eq_true, beq_iff_eq] at hm'; exact hm'.2
    · cases hm'
  · rename_i e hu
    split at ht
    · rename_i fs he
      split at ht <;> cases ht
      rename_i hb
      simp only [Bool.and_eq_true, beq_iff_eq] at hb
      obtain ⟨hm, hc⟩ := hb
      refine ⟨hc, fun _ _ _ h => ?_⟩
      have hce : P.cellsOf e = 2 := by
        unfold matB at hm
        split at hm
        · simp only [Bool.and_eq_true, beq_iff_eq] at hm; exact hm.2
        · cases hm
      obtain ⟨l, v, rfl, h1, h2, h3, h4⟩ := sl_rows (w := w) (γ := γ) hz (f := Ty.enc .mat) (W := Ty.wf .mat) (n := 2) (by omega) hce hu (fun _ _ _ h => by obtain ⟨a, rfl, hw⟩ := mat_el he hm h; exact ⟨a, .cons ⟨rfl, rfl⟩ (.cons ⟨rfl, rfl⟩ .nil), hw⟩) h
      refine ⟨l, .cons ?_ .nil, h3, h4⟩
      obtain ⟨k1, a, cap, k2, k3, k4, k5⟩ := h2
      refine ⟨fun r hr => ?_, a, cap, by simpa using k2, by simpa using k3, fun h => absurd h (by omega), fun hne => ?_⟩
      · obtain ⟨z, _, rfl⟩ := List.mem_map.1 hr; rfl
      · obtain ⟨blk, off, ea, hR, hc⟩ := k5 (by simpa using hne)
        refine ⟨blk, off, ea, hR, fun i r hr j x hx => ?_⟩
        simp only [List.getElem?_map, Option.map_eq_some_iff] at hr
        obtain ⟨z, hz', rfl⟩ := hr
        obtain ⟨u, hu, hC⟩ := hc i (Ty.enc .mat z) (by simp [hz']) j (.v x) (by simp [Ty.enc, hx])
        obtain ⟨rfl, ho⟩ := hC
        exact ⟨hu, ho⟩
    · cases ht
  · cases ht

/-- a type, asl its cells are read -/
def ShR (enc : TypeId × Value → H) (P : Program) (w : World) (held : Bool) (γ : Gh) (t : TypeId) (asl : List AS) : Prop :=
  ∀ fuel cs x, DataW.trod enc P w 0 (fun _ => true) held fuel t cs = some x → ∃ v : denL AS.den asl, Cells γ w ((mkL AS.mk asl v).map AW.enc) cs ∧ wfL asl v

theorem fields_of {rec : TypeId → Option (List AS)} (hrec : ∀ t asl, rec t = some asl → ShR enc P w held γ t asl) {cs : List Value} : ∀ (fs : List Field) (k : Nat) (asl : List AS), fieldsOf rec P fs k = some asl →
    (∀ f ∈ fs, ∃ n y, DataW.trod enc P w 0 (fun _ => true) held n f.type ((cs.drop f.offset).take (P.cellsOf f.type)) = some y) →
    ∃ v : denL AS.den asl, Cells γ w ((mkL AS.mk asl v).map AW.enc) ((cs.drop k).take asl.length) ∧ wfL asl v
  | [], k, asl, h, _ => by
    cases h
    exact ⟨(), by rw [List.length_nil, List.take_zero]; exact .nil, trivial⟩
  | f :: fs, k, asl, h, hf => by
    simp only [fieldsOf] at h
    split at h
    · rename_i hk
      split at h
      · rename_i a ha
        split at h
        · rename_i hc
          simp only [Option.map_eq_some_iff] at h
          obtain ⟨b, hb, rfl⟩ := h
          obtain ⟨v2, c2, w2⟩ := fields_of hrec fs (k + a.length) b hb (fun g hg => hf g (List.mem_cons_of_mem _ hg))
          obtain ⟨n, y, hy⟩ := hf f (List.mem_cons_self ..)
          rw [hk, hc] at hy
          obtain ⟨v1, c1, w1⟩ := hrec _ _ ha _ _ _ hy
          obtain ⟨v, ev, wv⟩ := joinL (P := fun _ => True) a b v1 v2 w1 w2
          refine ⟨v, ?_, wv⟩
          rw [ev, List.map_append, List.length_append, List.take_add, List.drop_drop]
          exact F2.append c1 c2
        · cases h
      · cases h
    · cases h
include hz in
theorem shape_of : ∀ (n : Nat) (t : TypeId) (asl : List AS), shapeOf P n t = some asl → ShR enc P w held γ t asl
  | 0, _, _, h => by cases h
  | n + 1, t, asl, h => by
    unfold shapeOf at h
    split at h
    · rename_i hu; cases h
      exact fun _ _ _ h => by obtain ⟨n, rfl, _, hw⟩ := DataW.trod_int hu h; exact ⟨(n, ()), .cons ⟨rfl, rfl⟩ .nil, hw, trivial⟩
    · rename_i hu; cases h
      exact fun _ _ _ h => by obtain ⟨n, rfl, _⟩ := DataW.trod_bool hu h; exact ⟨(n, ()), .cons ⟨rfl, rfl⟩ .nil, trivial, trivial⟩
    · rename_i hu; cases h
      exact fun _ _ _ h => by obtain ⟨n, rfl, _, hs⟩ := DataW.trod_string hu h; exact ⟨(n, ()), .cons ⟨rfl, rfl⟩ .nil, hs, trivial⟩
    · rename_i e hu
      simp only [Option.map_eq_some_iff] at h
      obtain ⟨τ, hτ, rfl⟩ := h
      intro fuel cs x h
      obtain ⟨hc, he⟩ := el_of (enc := enc) (w := w) (held := held) hz hτ
      obtain ⟨l, v, rfl, h1, h2, h3, h4⟩ := sl_rows (w := w) (γ := γ) hz (f := τ.enc) (W := τ.wf) (n := τ.sz) (by cases τ <;> decide) hc hu he h
      exact ⟨(l, ()), .cons ⟨h2, h1⟩ .nil, ⟨h3, h4⟩, trivial⟩
    · rename_i fs hu
      split at h
      · rename_i asl' hfs
        split at h <;> cases h
        rename_i hc
        intro fuel cs x h
        obtain ⟨xs, m, _, _, hl, hx, hf⟩ := DataW.trod_struct hu h
        obtain ⟨v, c, wv⟩ := fields_of (shape_of n) (cs := cs) fs.toList 0 _ hfs (fun f hf' => by
          obtain ⟨i, hi, e⟩ := List.mem_iff_getElem.1 hf'
          have e' : fs[i]? = some f := by rw [← Array.getElem?_toList, List.getElem?_eq_getElem hi, e]
          have := hf i f e'
          rw [List.getElem?_eq_getElem (by rw [hx]; simpa using hi)] at this
          exact ⟨_, _, this⟩)
        refine ⟨v, ?_, wv⟩
        rwa [List.drop_zero, List.take_of_length_le (by omega)] at c
      · cases h
    · cases h
include hz in
theorem par_of : ∀ (ts : List TypeId) (k : Nat) (l : List (Nat × TS)) (vs : List Value) (ds : List (DataW H)) (ps : List MemPlace), parOf P ts k = some l → DataW.TrodAll enc P w 0 (fun _ => true) held ts vs ds ps →
    (∀ (j : Nat) t v, ts[j]? = some t → vs[j]? = some v → Value.okWide P w .any 0 t v) →
    ∃ x : denL (fun p : Nat × TS => p.2.den) l, wfP l x ∧ ∀ t y, look t (encL TW.enc (mkL (fun p y => (p.1, TS.mk p.2 y)) l x)) = some y → k ≤ t ∧ TVrep γ w y (vs.toArray.getD (t - k) undef)
  | [], k, l, vs, ds, ps, hp, _, _ => by cases hp; exact ⟨(), trivial, fun _ _ h => by cases h⟩
  | t :: ts, k, l, vs, ds, ps, hp, hA, hv => by
    obtain ⟨v, vs', d, ds', p, q, rfl, rfl, rfl, ⟨fuel, ht⟩, hA'⟩ := trodAll_cons hA
    unfold parOf at hp
    split at hp
    · rename_i asl l' has hl'
      obtain ⟨x, wx, hx⟩ := par_of ts (k + 1) l' vs' ds' q hl' hA' (fun j t v h1 h2 => hv (j + 1) t v (by simpa using h1) (by simpa using h2))
      obtain ⟨y, cy, wy⟩ := shape_of hz 20 t asl has _ _ _ ht
      have hv0 := hv 0 t v rfl rfl
      have rest : ∀ (s : TS) (z : s.den), TVrep γ w (TS.mk s z).enc v → ∀ t y, look t (encL TW.enc (mkL (f := fun p : Nat × TS => p.2.den) (fun p y => (p.1, TS.mk p.2 y)) ((k, s) :: l') (z, x))) = some y → k ≤ t ∧ TVrep γ w y ((v :: vs').toArray.getD (t - k) undef) := by
        intro s z hz t y h
        simp only [mkL, encL, List.map_cons, look] at h
        split at h
        · rename_i e
          cases h
          subst e
          exact ⟨Nat.le_refl _, by simpa using hz⟩
        · obtain ⟨h1, h2⟩ := hx t y h
          refine ⟨by omega, ?_⟩
          have : t - k = (t - (k + 1)) + 1 := by omega
          rw [this]
          simpa [Array.getD_eq_getD_getElem?] using h2
      have sc : (∃ a, v.cells.toList = [a] ∧ v = a) → oneAS k l' asl = some l →
          ∃ x : denL (fun p : Nat × TS => p.2.den) l, wfP l x ∧ ∀ t y, look t (encL TW.enc (mkL (fun p y => (p.1, TS.mk p.2 y)) l x)) = some y → k ≤ t ∧ TVrep γ w y ((v :: vs').toArray.getD (t - k) undef) := by
        intro ⟨a, ea, e⟩ hp
        unfold oneAS at hp
        split at hp
        · cases hp
          rw [ea] at cy
          subst e
          cases cy with
          | cons c _ => exact ⟨(y.1, x), ⟨wy.1, wx⟩, rest (.c _) y.1 c.1⟩
        · cases hp
      split at hp
      · rename_i fs hu
        cases hp
        obtain ⟨cs, rfl, _, _⟩ : ∃ cs, v = .agg cs ∧ cs.size = P.cellsOf t ∧ Row.okWide P w .any 0 t cs := by simpa [Value.okWide, hu] using hv0
        exact ⟨(y, x), ⟨wy, wx⟩, rest (.agg asl) y ⟨cs.toList, by simp, cy⟩⟩
      · rename_i hu
        obtain ⟨n, rfl⟩ := okWide_int hu hv0
        exact sc ⟨_, rfl, rfl⟩ hp
      · rename_i hu
        obtain ⟨n, rfl⟩ := okWide_bool hu hv0
        exact sc ⟨_, rfl, rfl⟩ hp
      · rename_i hu
        obtain ⟨n, rfl⟩ := okWide_string hu hv0
        exact sc ⟨_, rfl, rfl⟩ hp
      · rename_i hu
        obtain ⟨a, b, c, rfl⟩ := okWide_slice hu hv0
        exact sc ⟨_, rfl, rfl⟩ hp
      · cases hp
    · cases hp
theorem trod_rest {W W' : World} (hl : laidOutB P = true) (bel : Below W.heap.size W W') : ∀ {ts : List TypeId} {vs : List Value} {ds : List (DataW H)} {ps : List MemPlace},
    (ts.all fun t => P.readableRec t && decide (t < P.types.size)) = true → DataW.TrodAll enc P W 0 (fun _ => true) true ts vs ds ps → DataW.TrodAll enc P W' 0 (fun b => decide (b < W.heap.size)) true ts vs ds ps
  | [], _, _, _, _, h => by obtain ⟨rfl, rfl, rfl⟩ := trodAll_nil h; exact trodAll_mk0
  | t :: ts, _, _, _, hr, h => by
    obtain ⟨v, vs', d, ds', p, q, rfl, rfl, rfl, k, hA'⟩ := trodAll_cons h
    simp only [List.all_cons, Bool.and_eq_true, decide_eq_true_eq] at hr
    have lt : ∀ x ∈ p, x.block < W.heap.size := by obtain ⟨m, hm⟩ := k; exact DataW.trod_lt m _ _ _ hm
    exact trodAll_cons_mk (Below.trod hl hr.1.1 hr.1.2 k bel lt) (trod_rest hl bel hr.2 hA')
end
theorem trodAll_len {H : Type} {enc : TypeId × Value → H} {P : Program} {w : World} {base : Nat} {spare : Nat → Bool} {held : Bool} : ∀ {ts : List TypeId} {vs : List Value} {ds : List (DataW H)} {ps : List MemPlace},
    DataW.TrodAll enc P w base spare held ts vs ds ps → ds.length = ts.length
  | [], _, _, _, h => by obtain ⟨_, rfl, _⟩ := trodAll_nil h; rfl
  | t :: ts, _, _, _, h => by
    obtain ⟨v, vs', d, ds', p, q, rfl, rfl, rfl, k, hA'⟩ := trodAll_cons h
    simp [trodAll_len hA']
theorem len0 {α : Type} {l : List α} (h : l.length = 0) : l = [] := List.length_eq_zero_iff.1 h
theorem len1 {α : Type} {l : List α} (h : l.length = 1) : ∃ a, l = [a] := List.length_eq_one_iff.1 h
theorem len2 {α : Type} : ∀ {l : List α}, l.length = 2 → ∃ a b, l = [a, b]
  | [a, b], _ => ⟨a, b, rfl⟩
theorem len3 {α : Type} : ∀ {l : List α}, l.length = 3 → ∃ a b c, l = [a, b, c]
  | [a, b, c], _ => ⟨a, b, c, rfl⟩
theorem len4 {α : Type} : ∀ {l : List α}, l.length = 4 → ∃ a b c d, l = [a, b, c, d]
  | [a, b, c, d], _ => ⟨a, b, c, d, rfl⟩
theorem len5 {α : Type} : ∀ {l : List α}, l.length = 5 → ∃ a b c d e, l = [a, b, c, d, e]
  | [a, b, c, d, e], _ => ⟨a, b, c, d, e, rfl⟩
theorem len6 {α : Type} : ∀ {l : List α}, l.length = 6 → ∃ a b c d e f, l = [a, b, c, d, e, f]
  | [a, b, c, d, e, f], _ => ⟨a, b, c, d, e, f, rfl⟩
theorem Hist.below {w : World} {γ' : Gh} {w' : World} (h : Hist (Gh0 w) w γ' w') : Below w.heap.size w w' :=
  ⟨h.os, h.tape, h.output, h.size, fun k hk => (h.block k hk rfl).1⟩

/-- a law that answers true: the call, from its arguments asl the row reads them -/
theorem law_call {H : Type} {enc : TypeId × Value → H} {E : Env} {c : Ctr} (hok : c.Ok E) {ts : List TypeId} {vs : List Value} {ds : List (DataW H)} {ps : List MemPlace} {w : World} {l : List (Nat × TS)}
    (hp : parOf E.P ts 0 = some l) (harg : c.arg = ⟨l, [], []⟩) (hres : c.res = [⟨[(0, .c .bool)], [], []⟩]) (hn : E.nres c.f = 1) (har : c.ar = none)
    (hA : DataW.TrodAll enc E.P w 0 (fun _ => true) true ts vs ds ps) (hv : ∀ (j : Nat) t v, ts[j]? = some t → vs[j]? = some v → Value.okWide E.P w .any 0 t v)
    (hpk : E.pk w) (hF : ∀ x : c.arg.den, wfP c.arg.tm x.1 → ∃ y : altDen c.res, c.F x = some y ∧ (altMk c.res y).tm = [(0, .c (.v (.bool true)))]) :
    Calls E.P c.f vs.toArray w fun e w' => e = .returned (.bool true) ∧ Below w.heap.size w w' := by
  obtain ⟨x, wx, hx⟩ := par_of (γ := Gh0 w) (fun _ => Iff.rfl) ts 0 l vs ds ps hp hA hv
  obtain ⟨y, hy, ht⟩ : ∃ y, c.F (harg ▸ (x, (), ())) = some y ∧ (altMk c.res y).tm = [(0, .c (.v (.bool true)))] := by
    refine hF _ ?_
    obtain ⟨f, arg, res, F, ar⟩ := c
    simp only at harg
    subst harg
    exact wx
  have hrel : Rel (Gh0 w) (c.arg.mk' (harg ▸ (x, (), ()))).enc vs.toArray w := by
    obtain ⟨f, arg, res, F, ar⟩ := c
    simp only at harg
    subst harg
    exact ⟨fun t y h => (hx t y h).2, fun _ _ h => (by cases h), fun _ _ h => (by cases h), fun _ _ => rfl, fun b h => h.elim id fun h => absurd rfl h⟩
  refine (hok _ _ hy _ vs w (fun n h => by rw [har] at h; cases h) ⟨w, hpk, fun b hb => ⟨hb, rfl, rfl⟩⟩ hrel).mono fun e w' ⟨vals, γ', he, hl, hR, hH⟩ => ⟨?_, hH.below⟩
  rw [hn] at hl
  match vals, hl with
  | [v], _ =>
    have := hR.tm 0 (.c (.v (.bool true))) (by simp [Wt.enc, ht, encL, look, TW.enc, AW.enc])
    have e : v = .bool true := by simpa [TVrep, AVrep] using this
    rw [he, e]
    rfl
end Go.Tree
namespace Go.Tree
open Go Go.Proofs
set_option linter.unusedVariables false
set_option linter.unusedSimpArgs false

theorem two_vals {vs : List Value} {a b : Value} (hl : vs.length = 2) (h0 : vs.toArray.getD 0 undef = a) (h1 : vs.toArray.getD 1 undef = b) : vs.toArray = #[a, b] := by
  match vs, hl with
  | [x, y], _ =>
    have e0 : x = a := h0
    have e1 : y = b := h1
    rw [e0, e1]
theorem one_val {vs : List Value} {a : Value} (hl : vs.length = 1) (h0 : vs.toArray.getD 0 undef = a) : vs.toArray = #[a] := by
  match vs, hl with
  | [x], _ =>
    have e0 : x = a := h0
    rw [e0]
def growF (ty : Ty) (n : Int) : Option (altDen [⟨[(0, .c (.own 0))], [], [(0, ty)]⟩]) := if 0 ≤ n ∧ n < 8796093022208 then some (((), ()), (), ([], ())) else none
theorem grow_ok {E : Env} {ρ : Shelf.Ren} (L : Lays8.n4 E.P ρ) {ty : Ty} {f : FuncId} (hf : ρ.f 4 = f) (hm : E.mode f = 0) (hn : E.nres f = 1) {z : Value} {sz bs : Nat}
    (hi : (E.P.info? (ρ.t 25)).map (fun i => (i.zero, i.size, i.bytes)) = some (some z, sz, bs)) (hz : z.cells.size = sz) (h0 : 0 < sz) (hty : ty.sz = sz) (hb : bs ≤ 16) :
    Ctr.Ok E ⟨f, ⟨[(0, .c .nil), (1, .c (.int .i64))], [], []⟩, [⟨[(0, .c (.own 0))], [], [(0, ty)]⟩], fun x => growF ty x.1.2.1, some 2⟩ := by
  intro x y hxy γ0 vs w hlen hPk hR
  have hxy : growF ty x.1.2.1 = some y := hxy
  unfold growF at hxy
  split at hxy
  · rename_i hn2
    cases hxy
    obtain ⟨n, hnn⟩ := Int.eq_ofNat_of_zero_le hn2.1
    have e0 : vs.toArray.getD 0 undef = .slice none 0 0 := hR.tm 0 (.c .nil) rfl
    have e1 : vs.toArray.getD 1 undef = .int .i64 x.1.2.1 := hR.tm 1 (.c (.v (.int .i64 x.1.2.1))) rfl
    have hvs := two_vals (hlen 2 rfl) e0 e1
    show Calls E.P f vs.toArray w _
    rw [hvs, hnn, ← hf]
    have fin : ∀ (v : Value) (w' : World) (γ' : Gh), v.oneCell' = true → γ'.hd 0 = v → ObAt γ' w' 0 ⟨ty.sz, []⟩ → (∀ b, γ'.z b → γ'.tg b = none) → (∀ b, γ'.z b ∨ γ'.tg b ≠ none → b < w'.heap.size) → Hist γ0 w γ' w' →
        ∃ vals γ', Ending.returned v = .returned (resVal vals) ∧ vals.length = E.nres (ρ.f 4) ∧ Rel γ' (altMk [⟨[(0, .c (.own 0))], [], [(0, ty)]⟩] (((), ()), (), ([], ()))).enc (vals ++ back (E.mode (ρ.f 4)) vs).toArray w' ∧ Hist γ0 w γ' w' := fun v w' γ' h1 h2 h3 h4 h5 h6 => by
      refine ⟨[v], γ', rfl, by rw [hf, hn]; rfl, ?_, h6⟩
      have hbk : back (E.mode (ρ.f 4)) vs = [] := by rw [hf, hm]; rfl
      rw [hbk]
      refine ⟨fun t q hq => ?_, fun b l hl => ?_, fun o l hl => ?_, h4, h5⟩
      · have hq : look t [(0, TV.c (.own 0))] = some q := hq
        simp only [look] at hq
        split at hq
        · rename_i e; subst e; cases hq; exact ⟨h2.symm, h1⟩
        · cases hq
      · cases hl
      · have hl : look o [(0, (⟨ty.sz, []⟩ : Sl))] = some l := hl
        simp only [look] at hl
        split at hl
        · rename_i e; subst e; cases hl; exact h3
        · cases hl
    by_cases hn0 : n = 0
    · subst hn0
      refine (Any8.slices_Grow_room L none 0 0 0 w (Nat.le_refl _) (by omega) (by omega) (Nat.le_refl _)).mono fun e w' ⟨he, hw⟩ => ?_
      subst hw
      rw [he]
      exact fin _ _ { γ0 with hd := fun o => if o = 0 then .slice none 0 0 else γ0.hd o } rfl rfl ⟨by simp, .inl ⟨⟨none, rfl, fun _ => rfl⟩, rfl⟩⟩ hR.zt hR.lt ⟨Nat.le_refl _, rfl, rfl, rfl, fun b _ h => ⟨rfl, h⟩, fun b _ h => .inl h⟩
    · obtain ⟨i0, hi0, hz0⟩ := Option.map_eq_some_iff.1 hi
      simp only [Prod.mk.injEq] at hz0
      obtain ⟨z1, z2, z3⟩ := hz0
      have hnb : (0 + n) * i0.bytes ≤ 140737488355328 := by
        rw [z3, Nat.zero_add]
        have : n ≤ 8796093022208 := by omega
        calc n * bs ≤ 8796093022208 * 16 := Nat.mul_le_mul this hb
          _ = 140737488355328 := by decide
      refine (Any8.slices_Grow_grow L i0 z hi0 z1 (by omega) none 0 0 n [] w (Nat.le_refl _) (by omega) hnb (by omega) (by simp) (fun _ => rfl) (fun _ h => by cases h)).mono fun e w' ⟨he, hw⟩ => ?_
      have g1 := grownCap_ge w (0 + n) 0 (ρ.t 25)
      generalize grownCap w (0 + n) 0 (ρ.t 25) = G at g1 he hw
      rw [he]
      have hA : w'.heap[w.heap.size]? = some (.cells ([].toArray ++ Builtin.zeroCells z.cells (0 + n - 0) ++ Builtin.zeroCells z.cells (G - (0 + n))) (ρ.t 25) (0, 0)) := by
        rw [hw]; exact heap_alloc_self w.drew _
      have hS : w'.heap.size = w.heap.size + 1 := by
        rw [hw]
        show (w.heap.push _).size = _
        simp
      have hB : ∀ b, b < w.heap.size → w'.heap[b]? = w.heap[b]? := fun b hb => by
        rw [hw]; exact heap_alloc w.drew _ b hb
      refine fin _ w' { γ0 with hd := fun o => if o = 0 then .slice (some ⟨w.heap.size, 0, none⟩) 0 G else γ0.hd o, sz := fun o => if o = 0 then ty.sz else γ0.sz o, tg := upd γ0.tg w.heap.size (some (.ob 0)) } rfl rfl ?_ ?_ ?_ ?_
      · refine ⟨by simp, .inr ⟨by rw [hty]; exact h0, rfl, w.heap.size, 0, G, _, ρ.t 25, rfl, Nat.zero_le _, upd_same .., hA, ?_, fun k r hk => by simp at hk⟩⟩
        rw [Array.size_append, Array.size_append, size_zeroCells, size_zeroCells, hz, hty]
        have e2 : (0 + n - 0) * sz + (G - (0 + n)) * sz = G * sz := by rw [← Nat.add_mul]; congr 1; omega
        show 0 + G * sz ≤ 0 + (0 + n - 0) * sz + (G - (0 + n)) * sz
        omega
      · intro b hzb
        have := hR.lt b (.inl hzb)
        show upd γ0.tg w.heap.size _ b = none
        rw [upd_ne _ _ (by omega)]
        exact hR.zt b hzb
      · intro b hb
        by_cases e : b = w.heap.size
        · omega
        · have : upd γ0.tg w.heap.size (some (.ob 0)) b = γ0.tg b := upd_ne _ _ e
          have hb : γ0.z b ∨ γ0.tg b ≠ none := by
            rcases hb with h | h
            · exact .inl h
            · have h' : upd γ0.tg w.heap.size (some (.ob 0)) b ≠ none := h
              rw [this] at h'
              exact .inr h'
          have := hR.lt b hb
          omega
      · refine ⟨by omega, by rw [hw]; rfl, by rw [hw]; rfl, by rw [hw]; rfl, fun b hb h => ⟨hB b hb, ?_⟩, fun b _ h => .inl h⟩
        show upd γ0.tg w.heap.size _ b = none
        rw [upd_ne _ _ (by omega)]
        exact h
  · cases hxy
end Go.Tree
namespace Go.Tree
open Go Go.Proofs
set_option linter.unusedVariables false
variable {P : Program}

/-- copy into a row, elements of however many cells: all is read before anything is written. -/
theorem run_copy_wide (w : World) (dT sT ty elem : TypeId) (g o dLen dCap : Nat) (a : Addr) (sLen sCap sz : Nat) (cur : Array Value) (t : TypeId) (cs : List Value)
    (hu : P.underlying dT = some (.slice elem)) (hs : (P.info? elem).map (·.size) = some sz)
    (hg : w.heap[g]? = some (.cells cur t (0, 0))) (hn : cs.length = Nat.min sLen dLen * sz)
    (hsrc : ∀ j v, cs[j]? = some v → w.cell? (a.add j) = some v) (hfit : o + cs.length ≤ cur.size) (h1 : ∀ v ∈ cs, v.oneCell' = true) :
    (Builtin.copy_ #[dT, sT] ty #[.slice (some ⟨g, o, none⟩) dLen dCap, .slice (some a) sLen sCap]).run P w =
      .ok (goInt (Nat.min sLen dLen)) (w.setRow g (cur.toList.take o ++ cs ++ cur.toList.drop (o + cs.length)).toArray) := by
  have hl := run_loadCells_list (P := P) w a cs hsrc
  have hst := run_storeCells_at P g o t cs 0 cur w hg (by simpa using hfit) h1
  cases hq : P.info? elem with
  | none => simp [hq] at hs
  | some i =>
    have hi : i.size = sz := by simpa [hq] using hs
    simp [Builtin.copy_, run_underlying hu, Builtin.lenOf, Builtin.firstCells, sizeOf, typeInfo, hq, hi, ← hn, hl, hst]
/-- The same as one step of a region that draws its order. -/
theorem step_copy_wide {ops : Array Oper} {o : Oper} {a : Act} {w : World} {K : Act → World → Prop} {Q : Exit → Act → World → Prop} {E : Prop} (hgd : o.guard = none) (d s : Operand) (dT sT : TypeId)
    (ho : o.op = .call { callee := .builtin .copy, args := #[d, s], argTypes := #[dT, sT] }) (elem : TypeId) (sz : Nat) (hu : P.underlying dT = some (.slice elem)) (hsz : (P.info? elem).map (·.size) = some sz)
    (g off dLen dCap sLen sCap : Nat) (ad : Addr) (hd : a.eval d = .slice (some ⟨g, off, none⟩) dLen dCap) (hs : a.eval s = .slice (some ad) sLen sCap)
    (cur : Array Value) (t : TypeId) (hg : w.heap[g]? = some (.cells cur t (0, 0))) (cs : List Value) (hn : cs.length = Nat.min sLen dLen * sz)
    (hsrc : ∀ j v, cs[j]? = some v → w.cell? (ad.add j) = some v) (hfit : off + cs.length ≤ cur.size) (h1 : ∀ v ∈ cs, v.oneCell' = true)
    (h : K (a.put o.dst (goInt (Nat.min sLen dLen))) (w.setRow g (cur.toList.take off ++ cs ++ cur.toList.drop (off + cs.length)).toArray)) :
    if Region.wanted o (yielded ops a.tmps) = true then Oper.wp P o a w K Q else E := by
  have hw : Region.wanted o (yielded ops a.tmps) = true := by simp [Region.wanted, hgd]
  rw [if_pos hw]
  have hrun := run_copy_wide (P := P) w dT sT o.type elem g off dLen dCap ad sLen sCap sz cur t cs hu hsz hg hn hsrc hfit h1
  unfold Oper.wp
  simp [execOp, ho, resolve, invoke, builtin, hd, hs, hrun, Result.andThen]
  simp only [List.append_assoc] at h
  exact h
theorem rep_len {α : Type} (cs : List α) : ∀ q : Nat, (List.replicate q cs).flatten.length = q * cs.length := fun q => by simp
theorem rep_take {α : Type} (cs : List α) {k q : Nat} (h : k ≤ q) : (List.replicate q cs).flatten.take (k * cs.length) = (List.replicate k cs).flatten := by
  obtain ⟨d, rfl⟩ : ∃ d, q = k + d := ⟨q - k, by omega⟩
  rw [← List.replicate_append_replicate, List.flatten_append, List.take_append_of_le_length (by rw [rep_len]; exact Nat.le_refl _), List.take_of_length_le (by rw [rep_len]; exact Nat.le_refl _)]
theorem rep_step {α : Type} (cs Z : List α) (l q n m : Nat) (hl : cs.length = l * 2) (hm : l * n = m) :
    ((List.replicate q cs).flatten ++ Z.drop (q * l * 2)).take (q * l * 2) ++ ((List.replicate q cs).flatten ++ Z.drop (q * l * 2)).take (min (q * l) (m - q * l) * 2) ++
      ((List.replicate q cs).flatten ++ Z.drop (q * l * 2)).drop (q * l * 2 + min (q * l) (m - q * l) * 2) = (List.replicate (q + min q (n - q)) cs).flatten ++ Z.drop ((q + min q (n - q)) * l * 2) := by
  have e1 : min (q * l) (m - q * l) = min q (n - q) * l := by
    rw [← hm, Nat.mul_comm l n, ← Nat.sub_mul]
    rcases Nat.le_total q (n - q) with h | h
    · rw [Nat.min_eq_left h, Nat.min_eq_left (Nat.mul_le_mul_right _ h)]
    · rw [Nat.min_eq_right h, Nat.min_eq_right (Nat.mul_le_mul_right _ h)]
  obtain ⟨k, hk⟩ : ∃ k, min q (n - q) = k := ⟨_, rfl⟩
  have hkq : k ≤ q := by omega
  rw [e1, hk]
  have len : (List.replicate q cs).flatten.length = q * l * 2 := by rw [rep_len, hl, Nat.mul_assoc]
  have hkl : k * l * 2 = k * cs.length := by rw [hl, Nat.mul_assoc]
  have hle : k * l * 2 ≤ q * l * 2 := Nat.mul_le_mul_right _ (Nat.mul_le_mul_right _ hkq)
  have a1 : ((List.replicate q cs).flatten ++ Z.drop (q * l * 2)).take (q * l * 2) = (List.replicate q cs).flatten := by
    rw [List.take_append_of_le_length (by omega), List.take_of_length_le (by omega)]
  have a2 : ((List.replicate q cs).flatten ++ Z.drop (q * l * 2)).take (k * l * 2) = (List.replicate k cs).flatten := by
    rw [List.take_append_of_le_length (by omega), hkl, rep_take cs hkq]
  have a3 : ((List.replicate q cs).flatten ++ Z.drop (q * l * 2)).drop (q * l * 2 + k * l * 2) = Z.drop ((q + k) * l * 2) := by
    rw [List.drop_append, List.drop_of_length_le (by omega), List.nil_append, List.drop_drop]
    congr 1
    rw [len, Nat.add_mul, Nat.add_mul]
    omega
  rw [a1, a2, a3, ← List.flatten_append, List.replicate_append_replicate]
theorem mem_made {a v : Value} {n : Nat} (h : v ∈ (madeCells #[a, a] n).toList) : v = a := by
  unfold madeCells at h
  simp only [Array.toList_map, Array.toList_range, List.mem_map] at h
  obtain ⟨i, _, rfl⟩ := h
  have h2 : i % 2 < 2 := Nat.mod_lt _ (by decide)
  show (#[a, a])[i % 2]! = a
  rcases (by omega : i % 2 = 0 ∨ i % 2 = 1) with e | e <;> rw [e] <;> rfl
end Go.Tree
namespace Go.Tree
open Go Go.Proofs Go.RowKit
set_option linter.unusedVariables false
set_option linter.unusedSimpArgs false
set_option linter.constructorNameAsVariable false

/-- what a call leaves behind that lays new memory only -/
theorem hist_below {γ : Gh} {w w' : World} (hB : Below w.heap.size w w') : Hist γ w γ w' :=
  ⟨hB.size, hB.os, hB.tape, hB.output, fun b hb h => ⟨hB.block b hb, h⟩, fun b _ h => .inl h⟩
theorem rel_none {γ : Gh} {S : St} {tmps tmps' : Array Value} {w w' : World} (hR : Rel γ S tmps w) (hs : w.heap.size ≤ w'.heap.size) {tm : List (Nat × TV)}
    (ht : ∀ t y, look t tm = some y → TVrep γ w' y (tmps'.getD t undef)) : Rel γ { tm := tm, bx := [], ob := [] } tmps' w' :=
  ⟨ht, (fun b l h => by cases h), (fun b l h => by cases h), hR.zt, fun b hb => Nat.lt_of_lt_of_le (hR.lt b hb) hs⟩
theorem back0 {E : Env} {f : FuncId} (hm : E.mode f = 0) (vs : List Value) : back (E.mode f) vs = [] := by rw [hm]; rfl

/-- a result that is one string -/
theorem str_fin {E : Env} {f : FuncId} (hm : E.mode f = 0) (hn : E.nres f = 1) {γ0 : Gh} {S : St} {vs : List Value} {w w' : World} (hR : Rel γ0 S vs.toArray w) (hB : Below w.heap.size w w') (s : ByteArray) :
    ∃ vals γ', Ending.returned (.string s) = .returned (resVal vals) ∧ vals.length = E.nres f ∧ Rel γ' (altMk [⟨[(0, .c .str)], [], []⟩] ((s, ()), (), ())).enc (vals ++ back (E.mode f) vs).toArray w' ∧ Hist γ0 w γ' w' := by
  refine ⟨[.string s], γ0, rfl, by rw [hn]; rfl, ?_, hist_below hB⟩
  rw [back0 hm]
  refine rel_none hR hB.size fun t y h => ?_
  have h : look t [(0, TV.c (.v (.string s)))] = some y := h
  simp only [look] at h
  split at h
  · rename_i e; subst e; cases h; rfl
  · cases h
/-- a result that is a list of its own, in a new block -/
theorem row_len {ty : Ty} (h : ty.flat = true) (x : ty.den) : (ty.row x).length = ty.sz := by cases ty <;> first | rfl | cases h
theorem own_fin {E : Env} {f : FuncId} (hm : E.mode f = 0) (hn : E.nres f = 1) {γ0 : Gh} {S : St} {vs : List Value} {w w' : World} (hR : Rel γ0 S vs.toArray w) (hB : Below w.heap.size w w')
    {k cap : Nat} {cs : Array Value} {e : TypeId} (hk : w.heap.size ≤ k) (hcell : w'.heap[k]? = some (.cells cs e (0, 0))) {ty : Ty} (hfl : ty.flat = true) (h0 : 0 < ty.sz) (l : List ty.den) (hlen : l.length ≤ cap) (hcap : cap * ty.sz ≤ cs.size)
    (hrow : ∀ i a, l[i]? = some a → ∀ j x, (ty.row a)[j]? = some x → cs[i * ty.sz + j]? = some x ∧ x.oneCell' = true) :
    ∃ vals γ', Ending.returned (.slice (some ⟨k, 0, none⟩) l.length cap) = .returned (resVal vals) ∧ vals.length = E.nres f ∧ Rel γ' (altMk [⟨[(0, .c (.own 0))], [], [(0, ty)]⟩] (((), ()), (), (l, ()))).enc (vals ++ back (E.mode f) vs).toArray w' ∧ Hist γ0 w γ' w' := by
  refine ⟨[.slice (some ⟨k, 0, none⟩) l.length cap], { γ0 with hd := fun o => if o = 0 then .slice (some ⟨k, 0, none⟩) l.length cap else γ0.hd o, sz := fun o => if o = 0 then ty.sz else γ0.sz o, tg := upd γ0.tg k (some (.ob 0)) }, rfl, by rw [hn]; rfl, ?_, ?_⟩
  · rw [back0 hm]
    have hklt : k < w'.heap.size := (Array.getElem?_eq_some_iff.1 hcell).1
    refine ⟨fun t q hq => ?_, fun b l hl => ?_, fun o l' hl => ?_, fun b hzb => ?_, fun b hb => ?_⟩
    · have hq : look t [(0, TV.c (.own 0))] = some q := hq
      simp only [look] at hq
      split at hq
      · rename_i e; subst e; cases hq; exact ⟨rfl, rfl⟩
      · cases hq
    · cases hl
    · have hl : look o [(0, (⟨ty.sz, l.map ty.enc⟩ : Sl))] = some l' := hl
      simp only [look] at hl
      split at hl
      · rename_i e; subst e; cases hl
        show ObAt _ w' 0 (⟨ty.sz, l.map ty.enc⟩ : Sl)
        refine ⟨fun r hr => ?_, .inr ⟨h0, rfl, k, 0, cap, cs, e, by simp, by simpa using hlen, upd_same .., hcell, by simpa using hcap, fun i r hr j x hx => ?_⟩⟩
        · obtain ⟨a, _, rfl⟩ := List.mem_map.1 hr
          show (ty.enc a).length = ty.sz
          rw [flat_enc hfl, List.length_map, row_len hfl]
        · have hr : (l.map ty.enc)[i]? = some r := hr
          rw [List.getElem?_map] at hr
          obtain ⟨a, ha, rfl⟩ := Option.map_eq_some_iff.1 hr
          rw [flat_enc hfl, List.getElem?_map] at hx
          obtain ⟨u, hu, rfl⟩ := Option.map_eq_some_iff.1 hx
          obtain ⟨g1, g2⟩ := hrow i a ha j u hu
          exact ⟨u, by rw [Nat.zero_add]; exact g1, rfl, g2⟩
      · cases hl
    · have := hR.lt b (.inl hzb)
      show upd γ0.tg k _ b = none
      rw [upd_ne _ _ (by omega)]
      exact hR.zt b hzb
    · by_cases e : b = k
      · omega
      · have h1 : upd γ0.tg k (some (.ob 0)) b = γ0.tg b := upd_ne _ _ e
        have hb : γ0.z b ∨ γ0.tg b ≠ none := by
          rcases hb with h | h
          · exact .inl h
          · have h' : upd γ0.tg k (some (.ob 0)) b ≠ none := h
            rw [h1] at h'
            exact .inr h'
        exact Nat.lt_of_lt_of_le (hR.lt b hb) hB.size
  · refine ⟨hB.size, hB.os, hB.tape, hB.output, fun b hb h => ⟨hB.block b hb, ?_⟩, fun b _ h => .inl h⟩
    show upd γ0.tg k _ b = none
    rw [upd_ne _ _ (by omega)]
    exact h
/-- a list of strings that is read -/
theorem rd_strs {γ : Gh} {w : World} {R : Nat → Prop} {y : Value} {l : List ByteArray} (h : SlAt w R y (TL.sl ⟨.str, l⟩)) :
    ∃ a cap, y = .slice a l.length cap ∧ l.length ≤ cap ∧ (l ≠ [] → ∃ blk off, a = some ⟨blk, off, none⟩ ∧ R blk ∧ ∀ j x, l[j]? = some x → w.cell? ⟨blk, off + j, none⟩ = some (.string x)) := by
  obtain ⟨h1, a, cap, h2, h3, h4, h5⟩ := h
  refine ⟨a, cap, by rw [h2]; simp [TL.sl], by simpa [TL.sl] using h3, fun hne => ?_⟩
  obtain ⟨blk, off, e1, e2, e3⟩ := h5 (by simpa [TL.sl] using hne)
  refine ⟨blk, off, e1, e2, fun j x hj => ?_⟩
  have hj' : (TL.sl ⟨.str, l⟩).d[j]? = some [C.v (.string x)] := by
    show (l.map (Ty.enc .str))[j]? = _
    rw [List.getElem?_map, hj]; rfl
  obtain ⟨u, g1, g2, _⟩ := e3 j _ hj' 0 (.v (.string x)) rfl
  have : (TL.sl ⟨.str, l⟩).sz = 1 := rfl
  rw [this, Nat.mul_one, Nat.add_zero] at g1
  rw [g1, g2]

abbrev strR : List Sh := [⟨[(0, .c .str)], [], []⟩]
def strA (s : ByteArray) : altDen strR := ((s, ()), (), ())
/-- strings.Repeat -/
def repeatF (s : ByteArray) (n : Int) : Option (altDen strR) := if 0 ≤ n ∧ n ≤ 140737488355328 ∧ s.size * n.toNat ≤ 140737488355328 then some (strA ⟨(Lib.repeatL s.data.toList n.toNat).toArray⟩) else none
theorem repeat_ok {E : Env} {f : FuncId} (hm : E.mode f = 0) (hn : E.nres f = 1)
    (H : ∀ (s : ByteArray) (c : Nat) (w : World), c ≤ 9223372036854775807 → s.size * c ≤ 140737488355328 → Calls E.P f #[.string s, .int .i64 c] w fun e w' => e = .returned (.string ⟨(Lib.repeatL s.data.toList c).toArray⟩) ∧ Below w.heap.size w w') :
    Ctr.Ok E ⟨f, ⟨[(0, .c .str), (1, .c (.int .i64))], [], []⟩, strR, fun x => repeatF x.1.1 x.1.2.1, some 2⟩ := by
  intro x y hxy γ0 vs w hlen hPk hR
  have hxy : repeatF x.1.1 x.1.2.1 = some y := hxy
  unfold repeatF at hxy
  split at hxy
  · rename_i hn2
    cases hxy
    obtain ⟨n, hnn⟩ := Int.eq_ofNat_of_zero_le hn2.1
    have e0 : vs.toArray.getD 0 undef = .string x.1.1 := hR.tm 0 (.c (.v (.string x.1.1))) rfl
    have e1 : vs.toArray.getD 1 undef = .int .i64 x.1.2.1 := hR.tm 1 (.c (.v (.int .i64 x.1.2.1))) rfl
    have hvs := two_vals (hlen 2 rfl) e0 e1
    show Calls E.P f vs.toArray w _
    rw [hvs]
    rw [hnn] at hn2 ⊢
    rw [Int.toNat_natCast] at hn2 ⊢
    exact (H x.1.1 n w (by omega) hn2.2.2).mono fun e w' ⟨he, hB⟩ => by rw [he]; exact str_fin hm hn hR hB _
  · cases hxy
/-- strings.Join -/
def joinF (l : List ByteArray) (s : ByteArray) : Option (altDen strR) := if l.length ≤ 140737488355328 ∧ (Lib.join (l.map (·.data.toList)) s.data.toList).length ≤ 140737488355328 then some (strA ⟨(Lib.join (l.map (·.data.toList)) s.data.toList).toArray⟩) else none
theorem join_ok {E : Env} {f : FuncId} (hm : E.mode f = 0) (hn : E.nres f = 1)
    (H0 : ∀ (a : Option Addr) (c : Nat) (sep : ByteArray) (w : World), Calls E.P f #[.slice a 0 c, .string sep] w fun e w' => e = .returned (.string ⟨#[]⟩) ∧ w' = w)
    (H : ∀ (bk o c : Nat) (xs : List ByteArray) (sep : ByteArray) (w : World) (hcells : ∀ (j : Nat) x, xs[j]? = some x → w.cell? ⟨bk, o + j, none⟩ = some (.string x))
      (hbk : bk < w.heap.size) (hN : xs.length ≤ 140737488355328) (hcap : xs.length ≤ c) (hlen : (Lib.join (xs.map (·.data.toList)) sep.data.toList).length ≤ 140737488355328),
      Calls E.P f #[.slice (some ⟨bk, o, none⟩) xs.length c, .string sep] w fun e w' => e = .returned (.string ⟨(Lib.join (xs.map (·.data.toList)) sep.data.toList).toArray⟩) ∧ Below w.heap.size w w') :
    Ctr.Ok E ⟨f, ⟨[(0, .c (.rd [] .str)), (1, .c .str)], [], []⟩, strR, fun x => joinF x.1.1 x.1.2.1, some 2⟩ := by
  intro x y hxy γ0 vs w hlen hPk hR
  have hxy : joinF x.1.1 x.1.2.1 = some y := hxy
  unfold joinF at hxy
  split at hxy
  · rename_i hn2
    cases hxy
    have hs : SlAt w (γ0.inR []) (vs.toArray.getD 0 undef) (TL.sl ⟨.str, x.1.1⟩) := hR.tm 0 (.c (.rd [] (TL.sl ⟨.str, x.1.1⟩))) rfl
    obtain ⟨a, cap, e0, hc, hne⟩ := rd_strs (γ := γ0) hs
    have e1 : vs.toArray.getD 1 undef = .string x.1.2.1 := hR.tm 1 (.c (.v (.string x.1.2.1))) rfl
    have hvs := two_vals (hlen 2 rfl) e0 e1
    show Calls E.P f vs.toArray w _
    rw [hvs]
    by_cases h0 : x.1.1 = []
    · rw [h0]
      refine (H0 a cap x.1.2.1 w).mono fun e w' ⟨he, hw⟩ => ?_
      rw [he, hw]
      exact str_fin hm hn hR (Below.refl _ w) _
    · obtain ⟨blk, off, rfl, hz, hcell⟩ := hne h0
      have hblk : blk < w.heap.size := by
        have hpos : 0 < x.1.1.length := List.length_pos_iff.2 h0
        have := hcell 0 _ (List.getElem?_eq_getElem hpos)
        exact World.block_lt_of_cell? w _ this
      exact (H blk off cap x.1.1 x.1.2.1 w hcell hblk hn2.1 hc hn2.2).mono fun e w' ⟨he, hB⟩ => by rw [he]; exact str_fin hm hn hR hB _
  · cases hxy

theorem wrap_i64N (x : Nat) (h : x ≤ 9223372036854775807) : IntKind.i64.wrap (x : Int) = (x : Int) := by
  simp only [IntKind.wrap, IntKind.bits, IntKind.signed, Bool.true_and]
  by_cases h : (x : Int) % 2 ^ 64 ≥ 2 ^ (64 - 1)
  · rw [if_pos (by simpa using h)]; omega
  · rw [if_neg (by simpa using h)]; omega
theorem wrap_u64N (x : Nat) (h : x ≤ 9223372036854775807) : IntKind.u64.wrap (x : Int) = (x : Int) := by
  simp only [IntKind.wrap, IntKind.bits, IntKind.signed, Bool.false_and]
  rw [if_neg (by simp)]
  omega
/-- slices.Repeat of matrices -/
def matC : List (Int × Int) → List Value
  | [] => []
  | p :: l => .int .i64 p.1 :: .int .i64 p.2 :: matC l
theorem matC_len : ∀ l, (matC l).length = l.length * 2
  | [] => rfl
  | p :: l => by simp only [matC, List.length_cons, matC_len l]; omega
theorem matC_app : ∀ a b, matC (a ++ b) = matC a ++ matC b
  | [], b => rfl
  | p :: a, b => by simp only [matC, List.cons_append, matC_app a b]
theorem matC_rep (l : List (Int × Int)) : ∀ n, matC (List.replicate n l).flatten = (List.replicate n (matC l)).flatten
  | 0 => rfl
  | n + 1 => by rw [List.replicate_succ, List.replicate_succ, List.flatten_cons, List.flatten_cons, matC_app, matC_rep l n]
theorem matC_one : ∀ (l : List (Int × Int)), ∀ v ∈ matC l, v.oneCell' = true
  | p :: l, v, h => by
    simp only [matC, List.mem_cons] at h
    rcases h with rfl | rfl | h
    · rfl
    · rfl
    · exact matC_one l v h
theorem matC_at : ∀ (l : List (Int × Int)) (i : Nat) (p : Int × Int), l[i]? = some p → ∀ j x, (Ty.row .mat p)[j]? = some x → (matC l)[i * 2 + j]? = some x
  | [], i, p, h, _, _, _ => by simp at h
  | q :: l, 0, p, h, j, x, hj => by
    have h : q = p := by simpa using h
    subst h
    match j, hj with
    | 0, hj => simpa [matC, Ty.row] using hj
    | 1, hj => simpa [matC, Ty.row] using hj
    | j + 2, hj => simp [Ty.row] at hj
  | q :: l, i + 1, p, h, j, x, hj => by
    have := matC_at l i p (by simpa using h) j x hj
    rw [show (i + 1) * 2 + j = (i * 2 + j) + 1 + 1 from by omega]
    simpa [matC] using this
theorem matC_get (l : List (Int × Int)) (k : Nat) (v : Value) (h : (matC l)[k]? = some v) : ∃ i j p, k = i * 2 + j ∧ l[i]? = some p ∧ (Ty.row .mat p)[j]? = some v := by
  have hk := (List.getElem?_eq_some_iff.1 h).1
  rw [matC_len] at hk
  have hi : k / 2 < l.length := by omega
  obtain ⟨p, hp⟩ : ∃ p, l[k / 2]? = some p := ⟨_, List.getElem?_eq_getElem hi⟩
  have hj : k % 2 < 2 := Nat.mod_lt _ (by decide)
  obtain ⟨u, hu⟩ : ∃ u, (Ty.row .mat p)[k % 2]? = some u := ⟨_, List.getElem?_eq_getElem (by simpa [Ty.row] using hj)⟩
  have := matC_at l (k / 2) p hp (k % 2) u hu
  rw [show k / 2 * 2 + k % 2 = k from by omega, h] at this
  exact ⟨k / 2, k % 2, p, by omega, hp, by rw [hu, this]⟩
abbrev ownR (ty : Ty) : List Sh := [⟨[(0, .c (.own 0))], [], [(0, ty)]⟩]
def repMF (l : List (Int × Int)) (n : Int) : Option (altDen (ownR .mat)) := if 1 ≤ l.length ∧ l.length ≤ 1000 ∧ 0 ≤ n ∧ n ≤ 1000 then some (((), ()), (), ((List.replicate n.toNat l).flatten, ())) else none
theorem repM_ok {E : Env} {f : FuncId} (hm : E.mode f = 0) (hn : E.nres f = 1) (T : TypeId)
    (H : ∀ (w : World) (a : Addr) (l c n : Nat) (cs : List Value) (hl : cs.length = l * 2) (hl1 : 1 ≤ l) (hl0 : l ≤ 1000) (hn0 : n ≤ 1000)
      (hcs : ∀ j v, cs[j]? = some v → w.cell? (a.add j) = some v) (h1 : ∀ v ∈ cs, v.oneCell' = true),
      Calls E.P f #[.slice (some a) l c, .int .i64 n] w fun e w' => e = .returned (.slice (some ⟨w.heap.size, 0, none⟩) (l * n : Nat) (l * n : Nat)) ∧ Below w.heap.size w w' ∧
        w'.heap[w.heap.size]? = some (.cells (List.replicate n cs).flatten.toArray T (0, 0))) :
    Ctr.Ok E ⟨f, ⟨[(0, .c (.rd [] .mat)), (1, .c (.int .i64))], [], []⟩, ownR .mat, fun x => repMF x.1.1 x.1.2.1, some 2⟩ := by
  intro x y hxy γ0 vs w hlen hPk hR
  have hxy : repMF x.1.1 x.1.2.1 = some y := hxy
  unfold repMF at hxy
  split at hxy
  · rename_i hn2
    cases hxy
    obtain ⟨n, hnn⟩ := Int.eq_ofNat_of_zero_le hn2.2.2.1
    obtain ⟨L, hL⟩ : ∃ L : List (Int × Int), x.1.1 = L := ⟨_, rfl⟩
    have hs : SlAt w (γ0.inR []) (vs.toArray.getD 0 undef) (TL.sl ⟨.mat, x.1.1⟩) := hR.tm 0 (.c (.rd [] (TL.sl ⟨.mat, x.1.1⟩))) rfl
    have e1 : vs.toArray.getD 1 undef = .int .i64 x.1.2.1 := hR.tm 1 (.c (.v (.int .i64 x.1.2.1))) rfl
    rw [hL] at hs hn2 ⊢
    rw [hnn] at e1 hn2 ⊢
    rw [Int.toNat_natCast]
    obtain ⟨_, a, cap, h2, h3, h4, h5⟩ := hs
    have hne : L ≠ [] := fun e => by rw [e] at hn2; exact absurd hn2.1 (by decide)
    obtain ⟨blk, off, g1, g2, g3⟩ := h5 (by simpa [TL.sl] using hne)
    have hLl : (TL.sl ⟨.mat, L⟩).d.length = L.length := by simp [TL.sl]
    rw [hLl] at h2 h3
    have hvs := two_vals (hlen 2 rfl) h2 e1
    show Calls E.P f vs.toArray w _
    rw [hvs, g1]
    refine (H w ⟨blk, off, none⟩ L.length cap n (matC L) (matC_len L) hn2.1 hn2.2.1 (by omega) (fun j v hj => ?_) (matC_one L)).mono fun e w' ⟨he, hB, hc⟩ => ?_
    · obtain ⟨i, k, p, rfl, hp, hv⟩ := matC_get L j v hj
      have hd : (TL.sl ⟨.mat, L⟩).d[i]? = some (Ty.enc .mat p) := by
        show (L.map (Ty.enc .mat))[i]? = _
        rw [List.getElem?_map, hp]; rfl
      have hk : (Ty.enc .mat p)[k]? = some (.v v) := by
        show ((Ty.row .mat p).map C.v)[k]? = _
        rw [List.getElem?_map, hv]; rfl
      obtain ⟨u, q1, q2, _⟩ := g3 i _ hd k _ hk
      have : (TL.sl ⟨.mat, L⟩).sz = 2 := rfl
      rw [this] at q1
      have e : (⟨blk, off, none⟩ : Addr).add (i * 2 + k) = ⟨blk, off + i * 2 + k, none⟩ := by
        unfold Addr.add
        split
        · rename_i h0; rw [show off + i * 2 + k = off from by omega]
        · rw [show off + (i * 2 + k) = off + i * 2 + k from by omega]
      rw [e, q1, q2]
    · rw [he, ← matC_rep] at *
      have hlen2 : (List.replicate n L).flatten.length = L.length * n := by rw [rep_len, Nat.mul_comm]
      rw [← hlen2]
      refine own_fin hm hn hR hB (Nat.le_refl _) hc (ty := .mat) rfl (by decide) (List.replicate n L).flatten (Nat.le_refl _) (by rw [List.size_toArray, matC_len]; exact Nat.le_refl _) fun i p hp j u hu => ⟨?_, ?_⟩
      · rw [List.getElem?_toArray]
        exact matC_at _ i p hp j u hu
      · exact matC_one [p] u (by
          have : (Ty.row .mat p) = matC [p] := rfl
          rw [this] at hu
          exact List.mem_of_getElem? hu)
  · cases hxy
end Go.Tree
namespace Go.Tree
open Go Go.Proofs Go.RowKit Go.Sort
set_option linter.unusedVariables false
set_option linter.unusedSimpArgs false

/-- a text cut at its blanks -/
def pcs : List UInt8 → List (List UInt8)
  | [] => [[]]
  | b :: l => if b = 32 then [] :: pcs l else match pcs l with | [] => [[b]] | p :: r => (b :: p) :: r
theorem pcs_ne : ∀ l, pcs l ≠ []
  | [] => by simp [pcs]
  | b :: l => by
    unfold pcs
    split
    · simp
    · split <;> simp
theorem pcs_blank (l : List UInt8) : pcs (32 :: l) = [] :: pcs l := by simp [pcs]
theorem pcs_other {b : UInt8} (h : b ≠ 32) {l p : List UInt8} {r} (hl : pcs l = p :: r) : pcs (b :: l) = (b :: p) :: r := by
  conv => lhs; unfold pcs
  rw [if_neg h, hl]
theorem pcs_cut : ∀ (c r : List UInt8), (∀ b ∈ c, b ≠ 32) → pcs (c ++ 32 :: r) = c :: pcs r
  | [], r, _ => pcs_blank r
  | b :: c, r, h => by
    have ih := pcs_cut c r fun x hx => h x (List.mem_cons_of_mem _ hx)
    exact pcs_other (h b (by simp)) ih
theorem pcs_last : ∀ (c : List UInt8), (∀ b ∈ c, b ≠ 32) → pcs c = [c]
  | [], _ => rfl
  | b :: c, h => pcs_other (h b (by simp)) (pcs_last c fun x hx => h x (List.mem_cons_of_mem _ hx))
theorem split_pcs : ∀ (l : List UInt8), Lib.splitK [32] 0 (Lib.count l [32]) l = pcs l
  | [] => by rw [Lib.count_miss (by simp [Lib.index])]; rfl
  | b :: l => by
    have ih := split_pcs l
    by_cases hb : b = 32
    · subst hb
      have hix : Lib.index (32 :: l) [32] = ((0 : Nat) : Int) := by rw [Lib.index]; simp [List.isPrefixOf]
      rw [Lib.count_cons_eq, pcs_blank, Nat.add_comm]
      unfold Lib.splitK
      rw [hix, if_neg (by decide)]
      simpa using ih
    · rw [Lib.count_cons_ne b 32 l hb]
      have hp : ([32] : List UInt8).isPrefixOf (b :: l) = false := by simp [List.isPrefixOf, Ne.symm hb]
      have hix : Lib.index (b :: l) [32] = if Lib.index l [32] == -1 then -1 else Lib.index l [32] + 1 := by rw [Lib.index, hp]; simp
      obtain ⟨k, hk⟩ : ∃ k, Lib.count l [32] = k := ⟨_, rfl⟩
      rw [hk] at ih ⊢
      cases k with
      | zero => exact (pcs_other hb ih.symm).symm
      | succ k =>
        by_cases hm : Lib.index l [32] = -1
        · rw [Lib.count_miss hm] at hk; cases hk
        · have hge := Lib.index_ge l [32]
          obtain ⟨j, hj⟩ : ∃ j : Nat, Lib.index l [32] = j := ⟨(Lib.index l [32]).toNat, by omega⟩
          have hix' : Lib.index (b :: l) [32] = ((j + 1 : Nat) : Int) := by rw [hix, if_neg (fun e => hm (beq_iff_eq.1 e)), hj]; omega
          unfold Lib.splitK at ih
          rw [if_neg (fun e => hm (beq_iff_eq.1 e)), hj] at ih
          rw [pcs_other hb ih.symm]
          show (if Lib.index (b :: l) [32] == -1 then [b :: l] else (b :: l).take ((Lib.index (b :: l) [32]).toNat + 0) :: Lib.splitK [32] 0 k ((b :: l).drop ((Lib.index (b :: l) [32]).toNat + 1))) = _
          rw [hix', if_neg (fun e => by have := beq_iff_eq.1 e; omega)]
          simp
/-- the words of a text -/
def wordsL (l : List UInt8) : List (List UInt8) := (pcs l).filter fun p => !p.isEmpty
def wordsB (s : ByteArray) : List ByteArray := (wordsL s.data.toList).map fun l => ⟨l.toArray⟩
def sp32 : ByteArray := ⟨#[32]⟩
def cutB (s : ByteArray) : List ByteArray := Lib.splitB sp32 0 (Lib.countB s sp32) s
theorem wordsB_split (s : ByteArray) : (cutB s).filter (fun x => !x.data.toList.isEmpty) = wordsB s := by
  have h := Lib.splitB_data sp32 0 (Lib.countB s sp32) s
  have e : Lib.splitK sp32.data.toList 0 (Lib.countB s sp32) s.data.toList = pcs s.data.toList := split_pcs _
  rw [e] at h
  unfold wordsB wordsL cutB
  rw [← h]
  generalize Lib.splitB sp32 0 (Lib.countB s sp32) s = L
  induction L with
  | nil => rfl
  | cons x L ih =>
    simp only [List.filter_cons, List.map_cons]
    split
    · simp only [List.map_cons]
      rw [ih]
    · exact ih
theorem cutB_len (s : ByteArray) : (cutB s).length = Lib.countB s sp32 + 1 := Lib.splitB_all sp32 (by decide) 0 _ s rfl
theorem wordsB_len (s : ByteArray) : (wordsB s).length ≤ (cutB s).length := by
  rw [← wordsB_split]; exact List.length_filter_le _ _

theorem words_mem (w : World) (xs ys : List ByteArray) (t : TypeId) (q : Nat) (hy : ys.length ≤ xs.length) {w' : World}
    (hw : w' = putRow Value.string (Sort.ahead (w.alloc (.cells (xs.map Value.string).toArray t)) q) w.heap.size 0 (ys ++ List.replicate (xs.length - ys.length) ByteArray.empty).toArray) :
    Below w.heap.size w w' ∧ ∃ cs : Array Value, w'.heap[w.heap.size]? = some (.cells cs t (0, 0)) ∧ cs.size = xs.length ∧ ∀ (i : Nat) (a : ByteArray), ys[i]? = some a → cs[i]? = some (Value.string a) := by
  subst hw
  have hg : (w.alloc (.cells (xs.map Value.string).toArray t)).heap[w.heap.size]? = some (.cells (xs.map Value.string).toArray t (0, 0)) := heap_alloc_new w _
  refine ⟨Lib.below_putRow ((Below.refl _ w).alloc (Nat.le_refl _) _) (Nat.le_refl _), putCells Value.string 0 (ys ++ List.replicate (xs.length - ys.length) ByteArray.empty).toArray (xs.map Value.string).toArray, ?_, by simp [putCells], fun i a hi => ?_⟩
  · show ((w.alloc (.cells (xs.map Value.string).toArray t)).heap.modify w.heap.size _)[w.heap.size]? = _
    rw [Array.getElem?_modify, if_pos rfl, hg]
    rfl
  · have hlt := (List.getElem?_eq_some_iff.1 hi).1
    have he := (List.getElem?_eq_some_iff.1 hi).2
    have hx : i < (xs.map Value.string).toArray.size := by rw [List.size_toArray, List.length_map]; omega
    simp only [putCells, Array.getElem?_mapIdx, Array.getElem?_eq_getElem hx, Option.map_some]
    rw [if_pos (by simp; omega)]
    have hd : i < (ys ++ List.replicate (xs.length - ys.length) ByteArray.empty).toArray.size := by simp; omega
    rw [Nat.sub_zero, getElem!_pos (ys ++ List.replicate (xs.length - ys.length) ByteArray.empty).toArray i hd]
    simp [List.getElem_append, hlt, he]
theorem holds_alloc (w : World) (L : List ByteArray) (t : TypeId) : Holds Value.string (w.alloc (.cells (L.map Value.string).toArray t)) w.heap.size 0 L.toArray := fun j hj => by
  have hj' : j < L.length := by simpa using hj
  have hg : (w.alloc (.cells (L.map Value.string).toArray t)).heap[w.heap.size]? = some (.cells (L.map Value.string).toArray t (0, 0)) := heap_alloc_new w _
  refine ⟨?_, ?_⟩
  · unfold World.cell?
    simp only [hg]
    simp [hj', getElem!_pos]
  · unfold World.frozen?
    simp only [hg]
    simp
def wordsF (s : ByteArray) : Option (altDen (ownR .str)) := if s.size < 4294967281 then some (((), ()), (), (wordsB s, ())) else none
theorem cell_keep {w w1 : World} {a : Addr} {v : Value} (h : w1.cell? a = some v) (hb : ∀ b, b < w1.heap.size → w.heap[b]? = w1.heap[b]?) : w.cell? a = some v := by
  rw [World.cell?_of_block (hb a.block (World.block_lt_of_cell? w1 _ h))]
  exact h
theorem words_ok {E : Env} {f : FuncId} (hm : E.mode f = 0) (hn : E.nres f = 1) (G : Nat) (hpk : ∀ w, E.pk w → ∃ m, w.cell? ⟨G, 0, none⟩ = some (.int .i64 m)) (T : TypeId)
    (H : ∀ (s : ByteArray) (m : Int) (w : World), s.size < 4294967281 → w.cell? ⟨G, 0, none⟩ = some (.int .i64 m) → Calls E.P f #[.string s] w fun e w' =>
      e = .returned (.slice (some ⟨w.heap.size, 0, none⟩) (wordsB s).length (cutB s).length) ∧
      ∃ q, w' = putRow Value.string (Sort.ahead (w.alloc (.cells ((cutB s).map Value.string).toArray T)) q) w.heap.size 0 (wordsB s ++ List.replicate ((cutB s).length - (wordsB s).length) ByteArray.empty).toArray) :
    Ctr.Ok E ⟨f, ⟨[(0, .c .str)], [], []⟩, ownR .str, fun x => wordsF x.1.1, some 1⟩ := by
  intro x y hxy γ0 vs w hlen hPk hR
  have hxy : wordsF x.1.1 = some y := hxy
  unfold wordsF at hxy
  split at hxy
  · rename_i hn2
    cases hxy
    have e0 : vs.toArray.getD 0 undef = .string x.1.1 := hR.tm 0 (.c (.v (.string x.1.1))) rfl
    have hvs := one_val (hlen 1 rfl) e0
    show Calls E.P f vs.toArray w _
    rw [hvs]
    obtain ⟨w1, h1, h2⟩ := hPk
    obtain ⟨m, hmm⟩ := hpk w1 h1
    refine (H x.1.1 m w hn2 (cell_keep hmm fun b hb => (h2 b hb).2.1)).mono fun e w' ⟨he, q, hw⟩ => ?_
    obtain ⟨hB, cs, hc1, hc2, hc3⟩ := words_mem w (cutB x.1.1) (wordsB x.1.1) T q (wordsB_len _) hw
    rw [he]
    exact own_fin hm hn hR hB (Nat.le_refl _) hc1 (ty := .str) rfl (by decide) (wordsB x.1.1) (wordsB_len _) (by rw [hc2]; exact Nat.le_of_eq (Nat.mul_one _)) fun i a hi j u hu => by
      have hu : [Value.string a][j]? = some u := hu
      cases j with
      | zero => cases hu; exact ⟨by simpa [Ty.sz] using hc3 i a hi, rfl⟩
      | succ j => cases hu
  · cases hxy
end Go.Tree
namespace Go.Tree
open Go Go.Proofs Go.RowKit Go.Sort
set_option linter.unusedVariables false
set_option linter.unusedSimpArgs false
theorem tab_keep {P : Program} {w w1 : World} {n : String} {k : IntKind} {zs : List Int} (h : Lib.TabIs P w1 n k zs) (hb : ∀ b, b < w1.heap.size → w.heap[b]? = w1.heap[b]?) : Lib.TabIs P w n k zs := by
  unfold Lib.TabIs World.var? at h ⊢
  cases hg : P.globalNamed n with
  | none => rw [hg] at h; cases h
  | some g =>
    rw [hg] at h
    simp only [Option.bind_some] at h ⊢
    have hlt : g < w1.heap.size := by
      rcases Nat.lt_or_ge g w1.heap.size with h' | h'
      · exact h'
      · rw [Array.getElem?_eq_none h'] at h; cases h
    rw [hb g hlt]; exact h
def itoaF (n : Int) : Option (altDen strR) := if -9223372036854775808 ≤ n ∧ n ≤ 9223372036854775807 then some (strA ⟨(Lib.itoa n).toArray⟩) else none
theorem grow_below {w : World} {k : Nat} {os : Array Obj} : Below w.heap.size w (grow (w.drewN k) os) :=
  ⟨rfl, rfl, rfl, by simp [grow, World.drewN], fun b hb => by
    have : (grow (w.drewN k) os).heap = w.heap ++ os := by simp [grow, World.drewN]
    rw [this, Array.getElem?_append_left hb]⟩
theorem itoa_ok {E : Env} {f : FuncId} (hm : E.mode f = 0) (hn : E.nres f = 1) (hpk : ∀ w, E.pk w → Lib.TabIs E.P w "internal/strconv.uint64pow10" .u64 Lib.pow10Tab)
    (H : ∀ (n : Int) (h0 : -9223372036854775808 ≤ n) (h1 : n ≤ 9223372036854775807) (w : World) (htab : Lib.TabIs E.P w "internal/strconv.uint64pow10" .u64 Lib.pow10Tab),
      Calls E.P f #[.int .i64 n] w fun e w' => e = .returned (.string ⟨(Lib.itoa n).toArray⟩) ∧ ∃ k os, w' = grow (w.drewN k) os) :
    Ctr.Ok E ⟨f, ⟨[(0, .c (.int .i64))], [], []⟩, strR, fun x => itoaF x.1.1, some 1⟩ := by
  intro x y hxy γ0 vs w hlen hPk hR
  have hxy : itoaF x.1.1 = some y := hxy
  unfold itoaF at hxy
  split at hxy
  · rename_i hn2
    cases hxy
    have e0 : vs.toArray.getD 0 undef = .int .i64 x.1.1 := hR.tm 0 (.c (.v (.int .i64 x.1.1))) rfl
    have hvs := one_val (hlen 1 rfl) e0
    show Calls E.P f vs.toArray w _
    rw [hvs]
    obtain ⟨w1, h1, h2⟩ := hPk
    refine (H x.1.1 hn2.1 hn2.2 w (tab_keep (hpk w1 h1) fun b hb => (h2 b hb).2.1)).mono fun e w' ⟨he, k, os, hw⟩ => ?_
    rw [he, hw]
    exact str_fin hm hn hR grow_below _
  · cases hxy
end Go.Tree
