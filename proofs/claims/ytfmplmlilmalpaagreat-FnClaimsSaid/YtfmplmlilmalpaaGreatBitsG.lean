/- BitsG: sets of bits as whole numbers: when two are the same, what the operations do bit by bit; no program in sight. No condition. -/
import Derived.Test.YtfmplmlilmalpaaGreatBits2
set_option linter.unusedVariables false
set_option linter.unusedSimpArgs false
namespace Peg
open Go Go.RowKit
theorem tb_ext {a b : Int} (ha : 0 ≤ a) (hb : 0 ≤ b) (h : ∀ i : Nat, a.toNat.testBit i = b.toNat.testBit i) : a = b := by
  have := Nat.eq_of_testBit_eq h
  omega
theorem band_tb (a b : Int) (i : Nat) : (band a b).toNat.testBit i = (a.toNat.testBit i && b.toNat.testBit i) := by simp [band, Nat.testBit_and]
theorem bor_tb (a b : Int) (i : Nat) : (bor a b).toNat.testBit i = (a.toNat.testBit i || b.toNat.testBit i) := by simp [bor, Nat.testBit_or]
theorem bxor_tb (a b : Int) (i : Nat) : (bxor a b).toNat.testBit i = (a.toNat.testBit i ^^ b.toNat.testBit i) := by simp [bxor, Nat.testBit_xor]
theorem bor_nonneg (a b : Int) : 0 ≤ bor a b := by unfold bor; omega
theorem bxor_nonneg (a b : Int) : 0 ≤ bxor a b := by unfold bxor; omega
theorem and_not_toNat' {n : Nat} (x y : BitVec n) : (x &&& ~~~y).toNat = x.toNat - (x.toNat &&& y.toNat) := by
  have h1 : x = (x &&& ~~~y) + (x &&& y) := by
    rw [BitVec.add_eq_or_of_and_eq_zero]
    · ext i; simp only [BitVec.getElem_or, BitVec.getElem_and, BitVec.getElem_not]; cases x[i] <;> cases y[i] <;> rfl
    · ext i; simp only [BitVec.getElem_zero, BitVec.getElem_and, BitVec.getElem_not]; cases x[i] <;> cases y[i] <;> rfl
  have h2 : (x &&& ~~~y).toNat + (x &&& y).toNat < 2 ^ n := by
    have e : (x &&& ~~~y) &&& (x &&& y) = 0#n := by ext i; simp only [BitVec.getElem_zero, BitVec.getElem_and, BitVec.getElem_not]; cases x[i] <;> cases y[i] <;> rfl
    have := BitVec.toNat_add_of_and_eq_zero e
    rw [← this]
    exact BitVec.isLt _
  have h3 : x.toNat = (x &&& ~~~y).toNat + (x &&& y).toNat := by
    have := congrArg BitVec.toNat h1
    rw [BitVec.toNat_add, Nat.mod_eq_of_lt h2] at this
    exact this
  rw [BitVec.toNat_and] at h3
  have := @Nat.and_le_left x.toNat y.toNat
  simp only [BitVec.toNat_and] at *
  omega
theorem nat_sub_and_testBit (x y i : Nat) : (x - (x &&& y)).testBit i = (x.testBit i && !y.testBit i) := by
  have hx : x < 2 ^ (x + y + i + 1) := Nat.lt_of_lt_of_le (Nat.lt_two_pow_self) (Nat.pow_le_pow_right (by omega) (by omega))
  have hy : y < 2 ^ (x + y + i + 1) := Nat.lt_of_lt_of_le (Nat.lt_two_pow_self) (Nat.pow_le_pow_right (by omega) (by omega))
  have h := and_not_toNat' (BitVec.ofNat (x + y + i + 1) x) (BitVec.ofNat (x + y + i + 1) y)
  have e1 : (BitVec.ofNat (x + y + i + 1) x).toNat = x := by rw [BitVec.toNat_ofNat, Nat.mod_eq_of_lt hx]
  have e2 : (BitVec.ofNat (x + y + i + 1) y).toNat = y := by rw [BitVec.toNat_ofNat, Nat.mod_eq_of_lt hy]
  rw [e1, e2] at h
  rw [← h, BitVec.testBit_toNat, BitVec.getLsbD_and, BitVec.getLsbD_not, ← BitVec.testBit_toNat, ← BitVec.testBit_toNat, e1, e2, decide_eq_true (by omega : i < x + y + i + 1), Bool.true_and]
theorem bdel_tb {a : Int} (ha : 0 ≤ a) (b : Int) (i : Nat) : (bdel a b).toNat.testBit i = (a.toNat.testBit i && !b.toNat.testBit i) := by
  rw [← nat_sub_and_testBit]
  unfold bdel band
  congr 1
  omega
theorem bdel_bd {a : Int} (ha : 0 ≤ a) (b : Int) : 0 ≤ bdel a b ∧ bdel a b ≤ a := by
  have := band_nonneg a b
  have := band_le_left a b ha
  unfold bdel; omega
theorem pw_tb {n : Int} (i : Nat) : (pw n).toNat.testBit i = decide (n.toNat = i) := by
  have : (pw n).toNat = 2 ^ n.toNat := by
    unfold pw
    have e : ((2 : Int) ^ n.toNat) = ((2 ^ n.toNat : Nat) : Int) := by simp
    rw [e, Int.toNat_natCast]
  rw [this, Nat.testBit_two_pow]
theorem pw_nat (k : Nat) : pw k = ((2 ^ k : Nat) : Int) := by unfold pw; simp
theorem toNat_lt_pw {a : Int} {k : Nat} (ha : 0 ≤ a) (h : a < pw k) : a.toNat < 2 ^ k := by rw [pw_nat] at h; omega
theorem lt_pw_of {a : Int} {k : Nat} (h : a.toNat < 2 ^ k) : a < pw k := by rw [pw_nat]; omega
theorem bor_lt {a b : Int} {k : Nat} (ha : 0 ≤ a) (hb : 0 ≤ b) (h1 : a < pw k) (h2 : b < pw k) : bor a b < pw k :=
  lt_pw_of (by have := Nat.or_lt_two_pow (toNat_lt_pw ha h1) (toNat_lt_pw hb h2); simpa [bor] using this)
theorem bxor_lt {a b : Int} {k : Nat} (ha : 0 ≤ a) (hb : 0 ≤ b) (h1 : a < pw k) (h2 : b < pw k) : bxor a b < pw k :=
  lt_pw_of (by have := Nat.xor_lt_two_pow (toNat_lt_pw ha h1) (toNat_lt_pw hb h2); simpa [bxor] using this)
theorem pw_lt {n : Int} {k : Nat} (h0 : 0 ≤ n) (h : n < k) : pw n < pw k := by
  obtain ⟨m, rfl⟩ := Int.eq_ofNat_of_zero_le h0
  rw [pw_nat, pw_nat]
  have : (2 : Nat) ^ m < 2 ^ k := Nat.pow_lt_pow_right (by omega) (by omega)
  omega
end Peg
