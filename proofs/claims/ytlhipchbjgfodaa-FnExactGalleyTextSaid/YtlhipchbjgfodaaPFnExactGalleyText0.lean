/- Written by a program of this session with the help of the kit's print: of each Go function a Lean function, and the proof that its call comes to just what that tells. No condition beyond those that each theorem states. -/
import Derived.Test.YtlhipchbjgfodaaProg
import Derived.Below
import Derived.Deep.Draws
import Derived.Deep.AppendLies
import Derived.Maps.AppendAt
import Derived.OwnWalk
import Derived.Laws.BytesArg
import Derived.Laws.MakeOwn
import Derived.Laws.OwnMore
import Derived.Deep.OwnRows
import Derived.Tactics
import Derived.Lib.ConvBytes
import Derived.Laws.Slices
import Derived.WalkKit
import Derived.KernelRfl
import Derived.RowKit3
import Derived.Deep.LoopGhost
import Derived.Deep.QuietTactic
import Derived.BigQuiet
import Derived.WideLaws
import Derived.Deep.DeepCutAuto
import Derived.Deep.CutBlock
import Derived.Deep.RegionHeld3
import Derived.Laws.Rows
import Derived.Lib.AppendStr
import Derived.ArgAppend
import Derived.Laws.IdiomCopy
import Derived.OrdersHeld
import Derived.Laws.BitsLemmas
import Derived.RowKit
import Derived.Lib.Hide
import Derived.Lib.Join
import Derived.Shelf.Spec.SlicesGrow
import Derived.Shelf.Strings.OnBuilder
import Derived.Test.YtlhipchbjgfodaaVFnExactGalleyTextWords
import Derived.Test.YtlhipchbjgfodaaVFnExactGalleyTextLast
import Derived.Test.YtlhipchbjgfodaaVFnExactGalleyTextTab
import Derived.Test.YtlhipchbjgfodaaVFnExactGalleyTextFour
import Derived.Test.YtlhipchbjgfodaaVFnExactGalleyTextQPut
import Derived.Test.YtlhipchbjgfodaaVFnExactGalleyTextApart
import Derived.Test.YtlhipchbjgfodaaVFnExactGalleyTextArr
import Derived.Test.YtlhipchbjgfodaaVFnExactGalleyTextZeros
import Derived.Test.YtlhipchbjgfodaaVFnExactGalleyTextFoot
import Derived.Test.YtlhipchbjgfodaaVFnExactGalleyTextKept
import Derived.Test.YtlhipchbjgfodaaVFnExactGalleyTextShare
import Derived.Test.YtlhipchbjgfodaaVFnExactGalleyTextN
import Derived.Test.YtlhipchbjgfodaaVFnExactGalleyTextFootNe
import Derived.Test.YtlhipchbjgfodaaVFnExactGalleyTextAt
import Derived.Test.YtlhipchbjgfodaaVFnExactGalleyTextEqStruct
import Derived.Test.YtlhipchbjgfodaaVFnExactGalleyTextRepsOne
import Derived.Test.YtlhipchbjgfodaaVFnExactGalleyTextInv
import Derived.Test.YtlhipchbjgfodaaVFnExactGalleyTextInvWords
import Derived.Test.YtlhipchbjgfodaaVFnExactGalleyTextGuard
import Derived.Test.YtlhipchbjgfodaaVFnExactGalleyTextNEv
import Derived.Test.YtlhipchbjgfodaaVFnExactGalleyTextMore
namespace Go.Proofs.Ytlhipchbjgfodaa.PFnExactGalleyText
open Go.RowKit Go.Proofs.YtlhipchbjgfodaaW.PrintWords Go.Proofs.YtlhipchbjgfodaaW.PrintLast Go.Proofs.YtlhipchbjgfodaaW.PrintMore
attribute [local go_sem] max2_int min2_int max_two min_two max_three min_three max_four min_four
set_option linter.unusedVariables false
set_option linter.unusedSimpArgs false
theorem zp0 {p : Prop} (h : p := by repeat (first | (with_reducible first | exact HB.out | apply below_alloc | apply pw_below_drewN | apply below_drew1) | exact HB.out)) : p := h
theorem zp1 {p : Prop} (h : p := by (try simp only [List.map_toArray, List.map_cons, List.map_nil]); first | done | rfl | (simp only [List.length_drop, List.length_take]; rfl)) : p := h
theorem zp2 {p : Prop} (h : p := by (with_reducible repeat (first | apply Kd.R_alloc | apply Kd.R_drewN | apply Kd.R_drew)); exact HO115.out) : p := h
theorem zp3 {p : Prop} (h : p := by first | (with_reducible assumption) | assumption) : p := h
theorem zp4 {p : Prop} (h : p := by (with_reducible repeat (first | apply Kd.R_alloc | apply Kd.R_drewN | apply Kd.R_drew)); exact HO119.out) : p := h
theorem zp5 {p : Prop} (h : p := by first | rfl | (simp; done) | (simp [*]; done)) : p := h
def errW : Option Int → Value
 | none => .nilIface
 | some c => .iface 0 (.int .i64 c)
theorem errW_none : errW none = .nilIface := rfl
theorem errW_some (c : Int) : errW (some c) = .iface 0 (.int .i64 c) := rfl
theorem info9 : (Try.prog.info? 9).map (fun i => (i.zero, i.size, i.bytes)) = some (some (.string ⟨#[]⟩), 1, 16) := by kernel_rfl
-- the values' own types
def rd_L1 (xs : List (List ByteArray)) (i : Int) : (List ByteArray) := xs.getD i.toNat ([] : List ByteArray)
theorem at_L1 {w : World} {A : Option Addr} {n : Nat} {xs : List (List ByteArray)} (h : Kd.C (Kd.slice 9 Kd.string) w A n xs) (i : Int) (h0 : 0 ≤ i) (h1 : i < n) : ∃ ad A0 c0, A = some ad ∧ w.cell? (ad.add i.toNat) = some (.slice A0 (rd_L1 xs i).length c0) ∧ (rd_L1 xs i).length ≤ c0 ∧ Kd.string.C w A0 (rd_L1 xs i).length (rd_L1 xs i) := by
 obtain ⟨ad, c, e, _, hK, hc0⟩ := Kd.C_get h ([] : List ByteArray) i h0 h1
 have hc : ∀ j u, c[j]? = some u → w.cell? (ad.add (i.toNat * 1 + j)) = some u := hc0
 obtain ⟨A0, c0, rfl, l0, g0⟩ := hK
 exact ⟨ad, A0, c0, e, by have hq := hc 0 _ rfl; rwa [Nat.mul_one, Nat.add_zero] at hq, l0, g0⟩
end Go.Proofs.Ytlhipchbjgfodaa.PFnExactGalleyText
