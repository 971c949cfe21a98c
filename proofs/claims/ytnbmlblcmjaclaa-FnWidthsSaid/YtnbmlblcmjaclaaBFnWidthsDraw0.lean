/- Plain laws on the draws' cursor: each draw of a number returns one in its range. Condition: the code that is drawn from is a list as long as memory can hold. -/
import Derived.Test.YtnbmlblcmjaclaaPFnWidths1
import Derived.Test.YtnbmlblcmjaclaaBFnWidthsBase
namespace Go.Proofs.Ytnbmlblcmjaclaa.Pure
open Go.RowKit Go.Proofs.Ytnbmlblcmjaclaa.PFnWidths Go.Proofs.YtnbmlblcmjaclaaW.PrintWords Go.Proofs.YtnbmlblcmjaclaaW.PrintLast Go.Proofs.YtnbmlblcmjaclaaW.PrintMore
set_option linter.unusedSectionVars false
set_option linter.unusedVariables false
set_option linter.unusedSimpArgs false

theorem and_le (x : Int) (m : Nat) (hm : m < 9223372036854775808) : 0 ≤ Go.bits .and .i64 x (m : Int) ∧ Go.bits .and .i64 x (m : Int) ≤ m := by
  have h : (BitVec.ofInt 64 x &&& BitVec.ofInt 64 (m : Int)).toNat ≤ m := by
    rw [BitVec.toNat_and, BitVec.ofInt_natCast, BitVec.toNat_ofNat, Nat.mod_eq_of_lt (show m < 2 ^ 64 by omega)]
    exact Nat.and_le_right
  have e : Go.bits .and .i64 x (m : Int) = IntKind.i64.wrap (((BitVec.ofInt 64 x &&& BitVec.ofInt 64 (m : Int)).toNat : Nat) : Int) := rfl
  rw [e, Go.IntKind.wrap_i64]
  omega
/-- A cursor stands in its bytes or behind the last one. -/
def Cur (b : List Int) (i : Int) : Prop := 0 ≤ i ∧ i ≤ (b.length : Int) ∧ b.length ≤ 4611686018427387904
theorem byte_ex {b : List Int} {i : Int} (h : Int) (c : Cur b i) : ∃ x i' h', spec_l01Byte.f b i h = some (x, i', h') ∧ 0 ≤ x ∧ x ≤ 255 ∧ Cur b i' := by
  obtain ⟨c1, c2, c3⟩ := c
  unfold spec_l01Byte.f
  by_cases hi : i < (b.length : Int)
  · rw [if_pos hi, if_pos c1, wz (n := i + 1) (by omega) (by omega)]
    refine ⟨_, _, _, rfl, ?_, ?_, by omega, by omega, c3⟩
    · exact (and_le _ 255 (by omega)).1
    · exact (and_le _ 255 (by omega)).2
  · rw [if_neg hi]
    refine ⟨_, _, _, rfl, ?_, ?_, c1, c2, c3⟩
    · exact (and_le _ 255 (by omega)).1
    · exact (and_le _ 255 (by omega)).2
theorem below_ex {b : List Int} {i : Int} (h n : Int) (c : Cur b i) : ∃ x i' h', spec_l01Below.f b i h n = some (x, i', h') ∧ 0 ≤ x ∧ (0 < n → x < n) ∧ (n ≤ 0 → x = 0) ∧ Cur b i' := by
  unfold spec_l01Below.f
  by_cases h0 : n ≤ 0
  · rw [if_pos h0]; exact ⟨_, _, _, rfl, by omega, by omega, fun _ => rfl, c⟩
  · rw [if_neg h0]
    by_cases h1 : n ≤ 256
    · rw [if_pos h1]
      obtain ⟨x, i', h', e, x0, x1, c'⟩ := byte_ex h c
      rw [e, Option.bind_some, if_neg (by omega)]
      refine ⟨_, _, _, rfl, ?_, fun _ => ?_, fun hh => absurd hh h0, c'⟩
      · exact Int.tmod_nonneg _ x0
      · rw [Int.tmod_eq_emod_of_nonneg x0]; exact Int.emod_lt_of_pos _ (by omega)
    · rw [if_neg h1]
      obtain ⟨x, i1, h1, e, x0, x1, c1⟩ := byte_ex h c
      rw [e, Option.bind_some]
      obtain ⟨y, i2, h2, e, y0, y1, c2⟩ := byte_ex h1 c1
      rw [e, Option.bind_some]
      obtain ⟨z, i3, h3, e, z0, z1, c3⟩ := byte_ex h2 c2
      rw [e, Option.bind_some]
      obtain ⟨w, i4, h4, e, w0, w1, c4⟩ := byte_ex h3 c3
      rw [e, Option.bind_some, if_neg (by omega)]
      rw [wz (n := x * 16777216) (by omega) (by omega), wz (n := y * 65536) (by omega) (by omega), wz (n := z * 256) (by omega) (by omega), wz (n := x * 16777216 + y * 65536) (by omega) (by omega), wz (n := x * 16777216 + y * 65536 + z * 256) (by omega) (by omega), wz (n := x * 16777216 + y * 65536 + z * 256 + w) (by omega) (by omega)]
      refine ⟨_, _, _, rfl, ?_, fun _ => ?_, fun hh => absurd hh h0, c4⟩
      · exact Int.tmod_nonneg _ (by omega)
      · rw [Int.tmod_eq_emod_of_nonneg (by omega)]; exact Int.emod_lt_of_pos _ (by omega)
theorem int_ex {b : List Int} {i : Int} (h : Int) (l : List Int) (hl : 0 < l.length) (c : Cur b i) : ∃ x i' h', spec_l01Int.f b i h l = some (x, i', h') ∧ x ∈ l ∧ Cur b i' := by
  unfold spec_l01Int.f
  obtain ⟨x, i', h', e, x0, x1, _, c'⟩ := below_ex h (l.length : Int) c
  have x1 := x1 (by omega)
  rw [e, Option.bind_some, if_pos x0, if_pos x1]
  refine ⟨_, _, _, rfl, ?_, c'⟩
  obtain ⟨q, rfl⟩ := Int.eq_ofNat_of_zero_le x0
  rw [rd_lt l q (by omega)]
  exact List.getElem_mem _
theorem cur_new (l : List Int) (hl : l.length ≤ 4611686018427387904) : ∃ h, spec_l01New.f l = some (l, 0, h) ∧ Cur l 0 := ⟨_, rfl, by omega, by omega, hl⟩
end Go.Proofs.Ytnbmlblcmjaclaa.Pure
