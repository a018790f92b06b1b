/- Post2: reading a position from its lines, plain; no program in sight. No condition. -/
import Derived.Test.YtkaojpcpfbbicaaPost1
import Derived.Test.YtkaojpcpfbbicaaBitsG
set_option linter.unusedVariables false
set_option linter.unusedSimpArgs false
namespace Peg
/-- the pegs of a line, from hole s on -/
def accRow (line : ByteArray) (s : Nat) (p : Int) : Nat → Int
  | 0 => p
  | x + 1 => if line.data.toList[x]? = some 111 then bor (accRow line s p x) (pw ((s + x : Nat) : Int)) else accRow line s p x
def accTo (A : Nat) (L : List ByteArray) : Nat → Int
  | 0 => 0
  | y + 1 => accRow (gD L B0 y) (y * A) (accTo A L y) A
def readPos (a b o : Int) (L : List ByteArray) : Option Int :=
  if boardOk a b o = true ∧ L.length = b.toNat ∧ (∀ y, y < L.length → (gD L B0 y).size = a.toNat) ∧ posOk a b o (accTo a.toNat L b.toNat) = true ∧ posText a b o (accTo a.toNat L b.toNat) = L then some (accTo a.toNat L b.toNat) else none
theorem accRow_bd {line : ByteArray} {s : Nat} {p : Int} (h0 : 0 ≤ p) (h1 : p < pw (49 : Nat)) : ∀ x, s + x ≤ 49 → 0 ≤ accRow line s p x ∧ accRow line s p x < pw (49 : Nat)
  | 0, _ => ⟨h0, h1⟩
  | x + 1, h => by
    obtain ⟨i0, i1⟩ := accRow_bd (line := line) (s := s) h0 h1 x (by omega)
    rw [accRow]
    split
    · have hp := pw_pos ((s + x : Nat) : Int)
      exact ⟨bor_nonneg _ _, bor_lt i0 (by omega) i1 (pw_lt (by omega) (by omega))⟩
    · exact ⟨i0, i1⟩
theorem accTo_bd {A : Nat} {L : List ByteArray} (hA : A ≤ 7) : ∀ y, y ≤ 7 → 0 ≤ accTo A L y ∧ accTo A L y < pw (49 : Nat)
  | 0, _ => ⟨by simp [accTo], by have := pw_pos ((49 : Nat) : Int); simp only [accTo]; omega⟩
  | y + 1, h => by
    obtain ⟨i0, i1⟩ := accTo_bd (L := L) hA y (by omega)
    have : y * A ≤ 6 * 7 := Nat.mul_le_mul (by omega) hA
    exact accRow_bd i0 i1 A (by omega)
theorem pw49 : pw ((49 : Nat) : Int) = 562949953421312 := by decide
theorem accRow_yes {line : ByteArray} {s x : Nat} {p : Int} (hx : x < line.size) (h : line[x] = 111) : accRow line s p (x + 1) = bor (accRow line s p x) (pw ((s + x : Nat) : Int)) := by
  have : line.data.toList[x]? = some 111 := by
    rw [List.getElem?_eq_getElem (by rw [Array.length_toList]; exact hx), ← h]
    rfl
  rw [accRow, if_pos this]
theorem accRow_no {line : ByteArray} {s x : Nat} {p : Int} (hx : x < line.size) (h : ¬ line[x] = 111) : accRow line s p (x + 1) = accRow line s p x := by
  have : ¬ line.data.toList[x]? = some 111 := by
    rw [List.getElem?_eq_getElem (by rw [Array.length_toList]; exact hx)]
    intro e
    have e2 : line.data[x] = 111 := by simpa using e
    exact h e2
  rw [accRow, if_neg this]
theorem list_gD {T L : List ByteArray} (hl : T.length = L.length) (h : ∀ j, j < L.length → gD T B0 j = gD L B0 j) : T = L := by
  apply List.ext_getElem hl
  intro i h1 h2
  have := h i h2
  rwa [gD_lt T B0 i h1, gD_lt L B0 i h2] at this
theorem str_neP {x y : ByteArray} (h : x ≠ y) : (x.toList == y.toList) = false := by
  rw [beq_eq_false_iff_ne]
  intro e
  rw [Go.Lib.toList_data, Go.Lib.toList_data] at e
  apply h
  cases x; cases y
  simp only at e
  rw [Array.ext' e]
theorem posText_length {a b o p : Int} (h : posOk a b o p = true) : (posText a b o p).length = b.toNat := by simp [posText, h, rowsB_length]
theorem posText_le (a b o p : Int) : (posText a b o p).length ≤ b.toNat := by
  unfold posText
  split
  · rw [rowsB_length]; exact Nat.le_refl _
  · simp
def optP (r : Option Int) : Go.Value := .tuple #[.int .i64 (r.getD 0), .bool r.isSome]
end Peg
