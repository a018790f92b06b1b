/- DrawG0: bits that are taken from and given to positions and boards; no program in sight. No condition. -/
import Derived.Test.YtfmplmlilmalpaaGreatPlay
import Derived.Test.YtfmplmlilmalpaaGreatWay0
set_option linter.unusedVariables false
set_option linter.unusedSimpArgs false
namespace Peg
theorem band_bit {p i : Int} (h : tb p i = true) : band p (pw i) = pw i := by
  refine tb_ext (band_nonneg _ _) (by have := pw_pos i; omega) fun j => ?_
  rw [band_tb, pw_tb]
  by_cases e : i.toNat = j
  · subst e; rw [tb_nat] at h; simp [h]
  · simp [e]
theorem sub_bit {p i : Int} (h : tb p i = true) : p - pw i = bdel p (pw i) := by rw [bdel, band_bit h]
theorem pos_sub_bit {a b o p i : Int} (hp : posOk a b o p = true) (h : tb p i = true) : posOk a b o (p - pw i) = true := by
  obtain ⟨h1, h2, h3⟩ := posOk_bd hp
  have hle := band_le_left p (pw i) h2
  rw [sub_bit h]
  have h0 : 0 ≤ bdel p (pw i) := by unfold bdel; omega
  have he : band (bdel p (pw i)) o = bdel p (pw i) := by
    refine tb_ext (band_nonneg _ _) h0 fun j => ?_
    have h4 : p.toNat.testBit j = (p.toNat.testBit j && o.toNat.testBit j) := by rw [← band_tb, h3]
    rw [band_tb, bdel_tb h2]
    rw [h4]
    cases p.toNat.testBit j <;> cases o.toNat.testBit j <;> simp
  simp only [posOk, Bool.and_eq_true, decide_eq_true_eq, beq_iff_eq]
  exact ⟨⟨h1, h0⟩, he⟩
theorem pos_add_bit {a b o p i : Int} (hp : posOk a b o p = true) (h : tb o i = true) : posOk a b o (bor p (pw i)) = true := by
  obtain ⟨h1, h2, h3⟩ := posOk_bd hp
  have he : band (bor p (pw i)) o = bor p (pw i) := by
    refine tb_ext (band_nonneg _ _) (bor_nonneg _ _) fun j => ?_
    have h4 : p.toNat.testBit j = (p.toNat.testBit j && o.toNat.testBit j) := by rw [← band_tb, h3]
    rw [band_tb, bor_tb, pw_tb, h4]
    by_cases e : i.toNat = j
    · subst e; rw [tb_nat] at h; simp [h]
    · simp [e]
  simp only [posOk, Bool.and_eq_true, decide_eq_true_eq, beq_iff_eq]
  exact ⟨⟨h1, bor_nonneg _ _⟩, he⟩
theorem pos_zero {a b o : Int} (hb : boardOk a b o = true) : posOk a b o 0 = true := by
  simp only [posOk, Bool.and_eq_true, decide_eq_true_eq, beq_iff_eq]
  refine ⟨⟨hb, by omega⟩, ?_⟩
  unfold band; simp
theorem pos_all {a b o : Int} (hb : boardOk a b o = true) : posOk a b o o = true := by
  have h0 := holes_lt hb
  simp only [posOk, Bool.and_eq_true, decide_eq_true_eq, beq_iff_eq]
  refine ⟨⟨hb, by omega⟩, ?_⟩
  unfold band; simp; omega
theorem pegs_one (k : Nat) (h : k < 49) : pegs (pw (k : Int)) = 1 := by
  rw [pegs_eq, show (pw (k : Int)).toNat = 2 ^ k by rw [pw_nat]; rfl]
  have : ∀ j, j < 49 → (List.range 49).countP (fun i : Nat => (2 ^ j).testBit i) = 1 := by decide
  exact this k h
theorem holes_pegs {a b o : Int} (hb : boardOk a b o = true) : (holesOf a b o).length = pegs o := by rw [holesOf_49 hb]; rfl
theorem isSmall_iff {a b o : Int} : isSmall a b o = true ↔ boardOk a b o = true ∧ a * b ≤ 16 := by simp [isSmall]
theorem tb_lt {a b o i : Int} (hb : boardOk a b o = true) (h : tb o i = true) (h0 : 0 ≤ i) : i < a * b := by
  have h1 := boardOk_holes hb
  have h8 := area (boardOk_sides hb).1 (boardOk_sides hb).2
  by_cases hlt : i < a * b
  · exact hlt
  · have := tb_high (p := o) (k := a * b) (by omega) (by omega) (by omega) i (by omega)
    rw [h] at this; cases this
theorem small_sub {a b o i : Int} (hs : isSmall a b o = true) (h : tb o i = true) (h0 : 0 ≤ i) (h5 : 5 < (holesOf a b o).length) : isSmall a b (o - pw i) = true := by
  obtain ⟨hb, h16⟩ := isSmall_iff.1 hs
  have hlt := tb_lt hb h h0
  have hle : pw i ≤ o := by
    have := band_bit h
    have h1 := band_le_left o (pw i) (by have := holes_lt hb; omega)
    omega
  have hne : o ≠ pw i := by
    intro e
    rw [holes_pegs hb, e] at h5
    obtain ⟨k, rfl⟩ : ∃ k : Nat, i = k := ⟨i.toNat, by omega⟩
    rw [pegs_one k (by omega)] at h5
    omega
  have hp := pw_pos i
  have hbo := boardOk_holes hb
  refine isSmall_iff.2 ⟨?_, h16⟩
  simp only [boardOk, Bool.and_eq_true] at hb ⊢
  exact ⟨hb.1, inR_iff.2 (by omega)⟩
theorem rect_small {a b : Int} (ha : 1 ≤ a ∧ a ≤ 7) (hb : 1 ≤ b ∧ b ≤ 7) (h : a * b ≤ 16) : isSmall a b (pw (a * b) - 1) = true := by
  have h1 : 1 ≤ a * b := by
    have := Int.mul_le_mul ha.1 hb.1 (by omega) (by omega)
    omega
  have h2 : pw 1 ≤ pw (a * b) := pw_le (by omega) h1
  have h3 : pw 1 = 2 := rfl
  refine isSmall_iff.2 ⟨?_, h⟩
  simp only [boardOk, Bool.and_eq_true]
  exact ⟨⟨inR_iff.2 ha, inR_iff.2 hb⟩, inR_iff.2 (by omega)⟩
theorem jumpsOf_do {a b o p : Int} {l : Ln} (h : l ∈ jumpsOf a b o p) : doOk false a b o p l = true := by
  simp only [jumpsOf] at h
  split at h
  · rename_i hp
    obtain ⟨h1, h2⟩ := List.mem_filter.1 h
    simp only [doOk, Bool.and_eq_true, can]
    exact ⟨⟨hp, isLn_of h1⟩, h2⟩
  · cases h
theorem jumpsOf_le (a b o p : Int) : (jumpsOf a b o p).length ≤ 196 := by
  unfold jumpsOf
  split
  · exact Nat.le_trans (List.length_filter_le _ _) (linesOf_le a b o)
  · simp
theorem holes_tb {a b o x : Int} (h : x ∈ holesOf a b o) : 0 ≤ x ∧ tb o x = true ∧ boardOk a b o = true := by
  obtain ⟨h1, h2⟩ := holesOf_mem h
  have h3 := hasHole_bd h1
  exact ⟨h3.2.1, by simp only [hasHole, Bool.and_eq_true] at h1; exact h1.2, h2⟩
theorem holes_some {a b o : Int} (hb : boardOk a b o = true) : 0 < (holesOf a b o).length := by
  rw [holes_pegs hb, pegs_eq]
  have h0 := boardOk_holes hb
  have h1 := holes_lt hb
  rw [List.countP_pos_iff]
  obtain ⟨i, hi⟩ := Nat.exists_testBit_of_ne_zero (x := o.toNat) (by omega)
  have hlt := tb_lt (i := i) hb (by rw [tb_nat]; simpa using hi) (by omega)
  have h8 := area (boardOk_sides hb).1 (boardOk_sides hb).2
  exact ⟨i, List.mem_range.2 (by omega), hi⟩
end Peg
