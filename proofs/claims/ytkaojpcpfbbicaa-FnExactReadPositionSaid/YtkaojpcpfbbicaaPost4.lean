/- Post4: contract of the reference's ReadPosition. Conditions: the slice's form, the strings' lengths in range. -/
import Derived.Test.YtkaojpcpfbbicaaPost2
set_option linter.unusedVariables false
set_option linter.unusedSimpArgs false
namespace Peg
/-- the reference's pegs: only of holes within the board -/
def accRowS (A : Nat) (g : Bool) (line : ByteArray) (s : Nat) (p : Int) : Nat → Int
  | 0 => p
  | x + 1 => if line.data.toList[x]? = some 111 ∧ x < A ∧ g = true then bor (accRowS A g line s p x) (pw ((s + x : Nat) : Int)) else accRowS A g line s p x
def accToS (A B : Nat) (L : List ByteArray) : Nat → Int
  | 0 => 0
  | y + 1 => accRowS A (decide (y < B)) (gD L B0 y) (y * A) (accToS A B L y) (min (gD L B0 y).size 7)
theorem accRowS_bd {A : Nat} {g : Bool} {line : ByteArray} {s : Nat} {p : Int} (hA : A ≤ 7) (hg : g = true → s ≤ 42) (h0 : 0 ≤ p) (h1 : p < pw (49 : Nat)) : ∀ x, 0 ≤ accRowS A g line s p x ∧ accRowS A g line s p x < pw (49 : Nat)
  | 0 => ⟨h0, h1⟩
  | x + 1 => by
    obtain ⟨i0, i1⟩ := accRowS_bd (line := line) hA hg h0 h1 x
    rw [accRowS]
    split
    · rename_i h
      have h2 := hg h.2.2
      have hp := pw_pos ((s + x : Nat) : Int)
      exact ⟨bor_nonneg _ _, bor_lt i0 (by omega) i1 (pw_lt (by omega) (by omega))⟩
    · exact ⟨i0, i1⟩
theorem accToS_bd {A B : Nat} {L : List ByteArray} (hA : A ≤ 7) (hB : B ≤ 7) : ∀ y, 0 ≤ accToS A B L y ∧ accToS A B L y < pw (49 : Nat)
  | 0 => ⟨by simp [accToS], by have := pw_pos ((49 : Nat) : Int); simp only [accToS]; omega⟩
  | y + 1 => by
    obtain ⟨i0, i1⟩ := accToS_bd (L := L) hA hB y
    refine accRowS_bd hA (fun h => ?_) i0 i1 _
    have : y < B := by simpa using h
    exact Nat.mul_le_mul (show y ≤ 6 by omega) hA
theorem accRowS_yes {A : Nat} {g : Bool} {line : ByteArray} {s x : Nat} {p : Int} (hx : x < line.size) (h : line[x] = 111) (hA : x < A) (hg : g = true) : accRowS A g line s p (x + 1) = bor (accRowS A g line s p x) (pw ((s + x : Nat) : Int)) := by
  have : line.data.toList[x]? = some 111 := by
    rw [List.getElem?_eq_getElem (by rw [Array.length_toList]; exact hx), ← h]
    rfl
  rw [accRowS, if_pos ⟨this, hA, hg⟩]
theorem accRowS_no {A : Nat} {g : Bool} {line : ByteArray} {s x : Nat} {p : Int} (hx : x < line.size) (h : ¬ (line[x] = 111 ∧ x < A ∧ g = true)) : accRowS A g line s p (x + 1) = accRowS A g line s p x := by
  rw [accRowS, if_neg]
  rintro ⟨e, h2, h3⟩
  rw [List.getElem?_eq_getElem (by rw [Array.length_toList]; exact hx)] at e
  have e2 : line.data[x] = 111 := by simpa using e
  exact h ⟨e2, h2, h3⟩
theorem accRowS_eq {A : Nat} {line : ByteArray} {s : Nat} {p : Int} : ∀ x, x ≤ A → accRowS A true line s p x = accRow line s p x
  | 0, _ => rfl
  | x + 1, h => by
    rw [accRowS, accRow, accRowS_eq x (by omega)]
    simp [show x < A by omega]
theorem accToS_eq {A B : Nat} {L : List ByteArray} (hA : A ≤ 7) (h : ∀ y, y < L.length → (gD L B0 y).size = A) : ∀ y, y ≤ B → y ≤ L.length → accToS A B L y = accTo A L y
  | 0, _, _ => rfl
  | y + 1, h1, h2 => by
    rw [accToS, accTo, accToS_eq hA h y (by omega) (by omega), h y (by omega), Nat.min_eq_left hA, decide_eq_true (show y < B by omega)]
    exact accRowS_eq A (Nat.le_refl _)
theorem rowB_size (p o : Int) (A y : Nat) : (rowB p o A y).size = A := by simp [rowB, ByteArray.size, rowTo_length]
theorem gD_rows {p o : Int} {A B y : Nat} (h : y < B) : gD (rowsB p o A B) B0 y = rowB p o A y := by
  rw [gD_lt _ _ _ (by rw [rowsB_length]; exact h)]
  simp [rowsB]
/-- what the reference's check of the text says -/
theorem readPos_of {A B : Nat} {o : Int} {L : List ByteArray} (hok : boardOk A B o = true) (hT : posText A B o (accToS A B L (min L.length 7)) = L) (hne : L ≠ []) : readPos A B o L = some (accToS A B L (min L.length 7)) := by
  have hA : A ≤ 7 := by have := inR_iff.1 (boardOk_sides hok).1; omega
  have hB : B ≤ 7 := by have := inR_iff.1 (boardOk_sides hok).2; omega
  cases hpo : posOk A B o (accToS A B L (min L.length 7)) with
  | false =>
    exfalso
    apply hne
    rw [← hT]
    simp [posText, hpo]
  | true =>
    have hT2 : rowsB (accToS A B L (min L.length 7)) o A B = L := by
      have h := hT
      simp only [posText, hpo, if_true, Int.toNat_natCast] at h
      exact h
    have hl : L.length = B := by rw [← hT2, rowsB_length]
    have hs : ∀ y, y < L.length → (gD L B0 y).size = A := by
      intro y hy
      rw [← hT2, gD_rows (by omega), rowB_size]
    have he : accToS A B L (min L.length 7) = accTo A L B := by
      rw [Nat.min_eq_left (by omega), accToS_eq hA hs L.length (by omega) (Nat.le_refl _), hl]
    rw [readPos, if_pos]
    · simp [he]
    · refine ⟨hok, by simpa using hl, by simpa using hs, ?_, ?_⟩
      · simpa [← he] using hpo
      · simpa [← he] using hT
theorem readPos_not {A B : Nat} {o : Int} {L : List ByteArray} (hok : boardOk A B o = true) (h : posText A B o (accToS A B L (min L.length 7)) ≠ L) : readPos A B o L = none := by
  have hA : A ≤ 7 := by have := inR_iff.1 (boardOk_sides hok).1; omega
  have hB : B ≤ 7 := by have := inR_iff.1 (boardOk_sides hok).2; omega
  rw [readPos, if_neg]
  rintro ⟨_, h1, h2, _, h3⟩
  simp only [Int.toNat_natCast] at h1 h2 h3
  apply h
  rw [Nat.min_eq_left (by omega), accToS_eq hA h2 L.length (by omega) (Nat.le_refl _), h1]
  exact h3
end Peg
