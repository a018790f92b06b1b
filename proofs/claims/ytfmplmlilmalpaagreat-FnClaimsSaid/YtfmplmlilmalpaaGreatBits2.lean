/- Bits2: single bits of whole numbers; no program in sight. No condition. -/
import Derived.Test.YtfmplmlilmalpaaGreatBits
set_option linter.unusedVariables false
set_option linter.unusedSimpArgs false
namespace Peg
open Go Go.RowKit
/-- bit k of p -/
def tb (p k : Int) : Bool := p.toNat.testBit k.toNat
theorem div_pw_toNat {p : Int} (hp : 0 ≤ p) (m : Nat) : (p / 2 ^ m).toNat = p.toNat / 2 ^ m := by
  obtain ⟨n, rfl⟩ := Int.eq_ofNat_of_zero_le hp
  have : ((n : Int) / 2 ^ m) = ((n / 2 ^ m : Nat) : Int) := by
    rw [Int.natCast_ediv]; simp
  rw [this, Int.toNat_natCast, Int.toNat_natCast]
theorem bit_test0 {p : Int} (m : Nat) (hp : 0 ≤ p) (hp2 : p ≤ 9223372036854775807) : (bits BinOp.and IntKind.i64 (p / 2 ^ m) 1 == 1) = p.toNat.testBit m := by
  have h0 : 0 ≤ p / 2 ^ m := Int.ediv_nonneg hp (Int.le_of_lt (Int.pow_pos (by omega)))
  have h1 : (p / 2 ^ m).toNat ≤ p.toNat := by rw [div_pw_toNat hp]; exact Nat.div_le_self _ _
  rw [bits_and h0 (by omega) (by omega) (by omega)]
  unfold band
  rw [div_pw_toNat hp, Nat.testBit_eq_decide_div_mod_eq]
  have : (1 : Int).toNat = 1 := rfl
  rw [this, Nat.and_one_is_mod, Bool.eq_iff_iff]
  simp only [beq_iff_eq, decide_eq_true_eq]
  have h2 := Nat.mod_two_eq_zero_or_one (p.toNat / 2 ^ m)
  generalize p.toNat / 2 ^ m % 2 = x at *
  omega
theorem bit_test {p k : Int} (hp : 0 ≤ p) (hp2 : p ≤ 9223372036854775807) : (bits BinOp.and IntKind.i64 (p / 2 ^ min k.toNat 64) 1 == 1) = tb p k := by
  rw [bit_test0 _ hp hp2]
  unfold tb
  by_cases h : k.toNat ≤ 64
  · rw [Nat.min_eq_left h]
  · have e : ∀ i, 63 ≤ i → p.toNat.testBit i = false := by
      intro i hi
      apply Nat.testBit_lt_two_pow
      have h1 := toNat_lt63 hp (by omega)
      have : (2 : Nat) ^ 63 ≤ 2 ^ i := Nat.pow_le_pow_right (by omega) hi
      omega
    rw [e _ (by omega), e _ (by omega)]
theorem bit_test' {p k : Int} (hp : 0 ≤ p) (hp2 : p ≤ 9223372036854775807) : (bits BinOp.and IntKind.i64 (p / 2 ^ k.toNat) 1 == 1) = tb p k := bit_test0 _ hp hp2
theorem bit_zero0 {p : Int} (m : Nat) (hp : 0 ≤ p) (hp2 : p ≤ 9223372036854775807) : (bits BinOp.and IntKind.i64 (p / 2 ^ m) 1 == 0) = !p.toNat.testBit m := by
  have h0 : 0 ≤ p / 2 ^ m := Int.ediv_nonneg hp (Int.le_of_lt (Int.pow_pos (by omega)))
  have h1 : (p / 2 ^ m).toNat ≤ p.toNat := by rw [div_pw_toNat hp]; exact Nat.div_le_self _ _
  rw [bits_and h0 (by omega) (by omega) (by omega)]
  unfold band
  rw [div_pw_toNat hp, Nat.testBit_eq_decide_div_mod_eq]
  have : (1 : Int).toNat = 1 := rfl
  rw [this, Nat.and_one_is_mod, Bool.eq_iff_iff]
  simp only [beq_iff_eq, Bool.not_eq_true', decide_eq_false_iff_not]
  have h2 := Nat.mod_two_eq_zero_or_one (p.toNat / 2 ^ m)
  generalize p.toNat / 2 ^ m % 2 = x at *
  omega
theorem bit_zero' {p k : Int} (hp : 0 ≤ p) (hp2 : p ≤ 9223372036854775807) : (bits BinOp.and IntKind.i64 (p / 2 ^ k.toNat) 1 == 0) = !tb p k := bit_zero0 _ hp hp2
end Peg
