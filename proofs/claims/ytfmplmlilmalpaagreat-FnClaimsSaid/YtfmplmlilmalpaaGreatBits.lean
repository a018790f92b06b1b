/- Bits: plain facts on powers of two and on bits of whole numbers; no program in sight. No condition. -/
import Derived.WalkKit
set_option linter.unusedVariables false
set_option linter.unusedSimpArgs false
namespace Peg
open Go Go.RowKit
/-- 2 to the power of n. -/
def pw (n : Int) : Int := 2 ^ n.toNat
theorem pw_pos (n : Int) : 1 ≤ pw n := by
  unfold pw
  have : (0 : Int) < 2 ^ n.toNat := Int.pow_pos (by omega)
  omega
theorem pw_le {n m : Int} (h0 : 0 ≤ n) (h : n ≤ m) : pw n ≤ pw m := by
  unfold pw
  have h1 : (2 : Nat) ^ n.toNat ≤ 2 ^ m.toNat := Nat.pow_le_pow_right (by omega) (by omega)
  exact_mod_cast h1
theorem pw_62 {n : Int} (h0 : 0 ≤ n) (h : n ≤ 62) : pw n ≤ 4611686018427387904 := by
  have := pw_le h0 h
  have e : pw 62 = 4611686018427387904 := by decide
  omega
theorem pw_wrap {n : Int} (h0 : 0 ≤ n) (h : n ≤ 62) : wrap64 (2 ^ n.toNat) = pw n := by
  have h1 := pw_62 h0 h
  have h2 := pw_pos n
  show wrap64 (pw n) = pw n
  exact IntWalk.wrap64_in _ (by omega)
theorem pw_wrap1 {n : Int} (h0 : 0 ≤ n) (h : n ≤ 62) : wrap64 (pw n - 1) = pw n - 1 := by
  have h1 := pw_62 h0 h
  have h2 := pw_pos n
  exact IntWalk.wrap64_in _ (by omega)
/-- bits of two numbers that are not negative -/
def band (a b : Int) : Int := ((a.toNat &&& b.toNat : Nat) : Int)
def bor (a b : Int) : Int := ((a.toNat ||| b.toNat : Nat) : Int)
def bxor (a b : Int) : Int := ((a.toNat ^^^ b.toNat : Nat) : Int)
/-- a without the bits of b -/
def bdel (a b : Int) : Int := a - band a b
theorem band_nonneg (a b : Int) : 0 ≤ band a b := by unfold band; omega
theorem band_le_right (a b : Int) (h : 0 ≤ b) : band a b ≤ b := by
  unfold band
  have := @Nat.and_le_right a.toNat b.toNat
  omega
theorem band_le_left (a b : Int) (h : 0 ≤ a) : band a b ≤ a := by
  unfold band
  have := @Nat.and_le_left a.toNat b.toNat
  omega
end Peg
namespace Peg
open Go Go.RowKit
theorem ofInt_toNat {a : Int} (h0 : 0 ≤ a) (h1 : a < 9223372036854775808) : (BitVec.ofInt 64 a).toNat = a.toNat := by
  rw [BitVec.toNat_ofInt]
  have : a % ((2 ^ 64 : Nat) : Int) = a := Int.emod_eq_of_lt h0 (by have : ((2 ^ 64 : Nat) : Int) = 18446744073709551616 := by decide
                                                                    omega)
  rw [this]
theorem wrap_nat {n : Nat} (h : n < 9223372036854775808) : IntKind.i64.wrap (n : Int) = n := IntWalk.i64_in _ (by omega)
theorem toNat_lt63 {a : Int} (h0 : 0 ≤ a) (h1 : a < 9223372036854775808) : a.toNat < 2 ^ 63 := by
  have : (2 : Nat) ^ 63 = 9223372036854775808 := by decide
  omega
theorem two63 : (2 : Nat) ^ 63 = 9223372036854775808 := by decide
theorem bits_and {a b : Int} (ha : 0 ≤ a) (ha' : a < 9223372036854775808) (hb : 0 ≤ b) (hb' : b < 9223372036854775808) : bits BinOp.and IntKind.i64 a b = band a b := by
  show IntKind.i64.wrap (((BitVec.ofInt 64 a &&& BitVec.ofInt 64 b).toNat : Nat) : Int) = _
  unfold band
  rw [BitVec.toNat_and, ofInt_toNat ha ha', ofInt_toNat hb hb']
  exact wrap_nat (by have := @Nat.and_le_left a.toNat b.toNat; omega)
theorem bits_or {a b : Int} (ha : 0 ≤ a) (ha' : a < 9223372036854775808) (hb : 0 ≤ b) (hb' : b < 9223372036854775808) : bits BinOp.or IntKind.i64 a b = bor a b := by
  show IntKind.i64.wrap (((BitVec.ofInt 64 a ||| BitVec.ofInt 64 b).toNat : Nat) : Int) = _
  unfold bor
  rw [BitVec.toNat_or, ofInt_toNat ha ha', ofInt_toNat hb hb']
  exact wrap_nat (by have := Nat.or_lt_two_pow (toNat_lt63 ha ha') (toNat_lt63 hb hb'); rw [two63] at this; exact this)
theorem bits_xor {a b : Int} (ha : 0 ≤ a) (ha' : a < 9223372036854775808) (hb : 0 ≤ b) (hb' : b < 9223372036854775808) : bits BinOp.xor IntKind.i64 a b = bxor a b := by
  show IntKind.i64.wrap (((BitVec.ofInt 64 a ^^^ BitVec.ofInt 64 b).toNat : Nat) : Int) = _
  unfold bxor
  rw [BitVec.toNat_xor, ofInt_toNat ha ha', ofInt_toNat hb hb']
  exact wrap_nat (by have := Nat.xor_lt_two_pow (toNat_lt63 ha ha') (toNat_lt63 hb hb'); rw [two63] at this; exact this)
theorem and_not_toNat (x y : BitVec 64) : (x &&& ~~~y).toNat = x.toNat - (x.toNat &&& y.toNat) := by
  have h1 : x = (x &&& ~~~y) + (x &&& y) := by
    rw [BitVec.add_eq_or_of_and_eq_zero]
    · ext i; simp only [BitVec.getElem_or, BitVec.getElem_and, BitVec.getElem_not]; cases x[i] <;> cases y[i] <;> rfl
    · ext i; simp only [BitVec.getElem_zero, BitVec.getElem_and, BitVec.getElem_not]; cases x[i] <;> cases y[i] <;> rfl
  have h2 : (x &&& ~~~y).toNat + (x &&& y).toNat < 2 ^ 64 := by
    have e : (x &&& ~~~y) &&& (x &&& y) = 0#64 := by ext i; simp only [BitVec.getElem_zero, BitVec.getElem_and, BitVec.getElem_not]; cases x[i] <;> cases y[i] <;> rfl
    have := BitVec.toNat_add_of_and_eq_zero e
    rw [← this]
    exact BitVec.isLt _
  have h3 : x.toNat = (x &&& ~~~y).toNat + (x &&& y).toNat := by
    have := congrArg BitVec.toNat h1
    rw [BitVec.toNat_add, Nat.mod_eq_of_lt h2] at this
    exact this
  rw [BitVec.toNat_and] at h3
  have := @Nat.and_le_left x.toNat y.toNat
  simp only [BitVec.toNat_and] at *
  omega
theorem bits_andNot {a b : Int} (ha : 0 ≤ a) (ha' : a < 9223372036854775808) (hb : 0 ≤ b) (hb' : b < 9223372036854775808) : bits BinOp.andNot IntKind.i64 a b = bdel a b := by
  show IntKind.i64.wrap (((BitVec.ofInt 64 a &&& ~~~BitVec.ofInt 64 b).toNat : Nat) : Int) = _
  unfold bdel band
  rw [and_not_toNat, ofInt_toNat ha ha', ofInt_toNat hb hb', wrap_nat (by omega)]
  have := @Nat.and_le_left a.toNat b.toNat
  omega
theorem bdel_zero {a b : Int} : (bdel a b == 0) = (band a b == a) := by
  rw [Bool.eq_iff_iff]; simp [bdel]; omega
end Peg
