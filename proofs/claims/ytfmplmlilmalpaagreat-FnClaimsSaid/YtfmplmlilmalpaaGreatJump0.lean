/- Jump0: jumps and undone jumps, as plain data; no program in sight. No condition. -/
import Derived.Test.YtfmplmlilmalpaaGreatBitsG
import Derived.Test.YtfmplmlilmalpaaGreatGame1
set_option linter.unusedVariables false
set_option linter.unusedSimpArgs false
namespace Peg
/-- the bits of a line's holes -/
def lbits (l : Ln) : Int := bor (bor (pw l.f) (pw l.o)) (pw l.t)
def canJ (p : Int) (l : Ln) : Bool := tb p l.f && tb p l.o && !tb p l.t
def canU (p : Int) (l : Ln) : Bool := !tb p l.f && !tb p l.o && tb p l.t
def can (back : Bool) (p : Int) (l : Ln) : Bool := if back then canU p l else canJ p l
/-- the position behind a jump, or before it -/
def flip (p : Int) (l : Ln) : Int := bxor p (lbits l)
/-- holes on a board of less than 50 holes, and three of them -/
def LnOk (l : Ln) : Prop := (0 ≤ l.f ∧ l.f ≤ 48) ∧ (0 ≤ l.o ∧ l.o ≤ 48) ∧ (0 ≤ l.t ∧ l.t ≤ 48) ∧ l.f ≠ l.o ∧ l.f ≠ l.t ∧ l.o ≠ l.t
theorem tb_nat (p k : Int) : tb p k = p.toNat.testBit k.toNat := rfl
theorem lbits_nonneg (l : Ln) : 0 ≤ lbits l := bor_nonneg _ _
theorem flip_nonneg (p : Int) (l : Ln) : 0 ≤ flip p l := bxor_nonneg _ _
theorem lbits_tb (l : Ln) (i : Nat) : (lbits l).toNat.testBit i = (decide (l.f.toNat = i) || decide (l.o.toNat = i) || decide (l.t.toNat = i)) := by
  simp only [lbits, bor_tb, pw_tb]
theorem flip_tb (p : Int) (l : Ln) (i : Nat) : (flip p l).toNat.testBit i = (p.toNat.testBit i ^^ (decide (l.f.toNat = i) || decide (l.o.toNat = i) || decide (l.t.toNat = i))) := by
  simp only [flip, bxor_tb, lbits_tb]
theorem lnOk_nat {l : Ln} (h : LnOk l) : l.f.toNat ≠ l.o.toNat ∧ l.f.toNat ≠ l.t.toNat ∧ l.o.toNat ≠ l.t.toNat := by
  unfold LnOk at h; omega
theorem jump_eq {p : Int} {l : Ln} (hp : 0 ≤ p) (hl : LnOk l) (h : canJ p l = true) : bor (bdel (bdel p (pw l.f)) (pw l.o)) (pw l.t) = flip p l := by
  obtain ⟨n1, n2, n3⟩ := lnOk_nat hl
  have d1 := bdel_bd hp (pw l.f)
  have d2 := bdel_bd d1.1 (pw l.o)
  refine tb_ext (bor_nonneg _ _) (flip_nonneg _ _) fun i => ?_
  rw [flip_tb, bor_tb, bdel_tb d1.1, bdel_tb hp, pw_tb, pw_tb, pw_tb]
  simp only [canJ, tb_nat, Bool.and_eq_true, Bool.not_eq_true'] at h
  obtain ⟨⟨h1, h2⟩, h3⟩ := h
  by_cases e1 : l.f.toNat = i
  · subst e1; simp [h1, Ne.symm n1, Ne.symm n2]
  · by_cases e2 : l.o.toNat = i
    · subst e2; simp [h2, n1, Ne.symm n3]
    · by_cases e3 : l.t.toNat = i
      · subst e3; simp [h3, n2, n3]
      · simp [e1, e2, e3]
theorem undo_eq {p : Int} {l : Ln} (hp : 0 ≤ p) (hl : LnOk l) (h : canU p l = true) : bor (bor (bdel p (pw l.t)) (pw l.f)) (pw l.o) = flip p l := by
  obtain ⟨n1, n2, n3⟩ := lnOk_nat hl
  have d1 := bdel_bd hp (pw l.t)
  refine tb_ext (bor_nonneg _ _) (flip_nonneg _ _) fun i => ?_
  rw [flip_tb, bor_tb, bor_tb, bdel_tb hp, pw_tb, pw_tb, pw_tb]
  simp only [canU, tb_nat, Bool.and_eq_true, Bool.not_eq_true'] at h
  obtain ⟨⟨h1, h2⟩, h3⟩ := h
  by_cases e1 : l.f.toNat = i
  · subst e1; simp [h1, Ne.symm n1, Ne.symm n2]
  · by_cases e2 : l.o.toNat = i
    · subst e2; simp [h2, n1, Ne.symm n3]
    · by_cases e3 : l.t.toNat = i
      · subst e3; simp [h3, n2, n3]
      · simp [e1, e2, e3]
/-- the reference's tests -/
theorem canJ_iff {p : Int} {l : Ln} (hl : LnOk l) : (band p (lbits l) == bor (pw l.f) (pw l.o)) = canJ p l := by
  obtain ⟨n1, n2, n3⟩ := lnOk_nat hl
  rw [Bool.eq_iff_iff, beq_iff_eq]
  constructor
  · intro h
    have hh : ∀ i : Nat, (p.toNat.testBit i && (decide (l.f.toNat = i) || decide (l.o.toNat = i) || decide (l.t.toNat = i))) = (decide (l.f.toNat = i) || decide (l.o.toNat = i)) := by
      intro i
      rw [← lbits_tb, ← band_tb, h, bor_tb, pw_tb, pw_tb]
    have h1 := hh l.f.toNat
    have h2 := hh l.o.toNat
    have h3 := hh l.t.toNat
    simp [n2, n3] at h1 h2 h3
    simp [canJ, tb_nat, h1, h2, h3]
  · intro h
    simp only [canJ, tb_nat, Bool.and_eq_true, Bool.not_eq_true'] at h
    obtain ⟨⟨h1, h2⟩, h3⟩ := h
    refine tb_ext (band_nonneg _ _) (bor_nonneg _ _) fun i => ?_
    rw [band_tb, lbits_tb, bor_tb, pw_tb, pw_tb]
    by_cases e1 : l.f.toNat = i
    · subst e1; simp [h1]
    · by_cases e2 : l.o.toNat = i
      · subst e2; simp [h2]
      · by_cases e3 : l.t.toNat = i
        · subst e3; simp [h3, n2, n3]
        · simp [e1, e2, e3]
theorem canU_iff {p : Int} {l : Ln} (hl : LnOk l) : (band p (lbits l) == pw l.t) = canU p l := by
  obtain ⟨n1, n2, n3⟩ := lnOk_nat hl
  rw [Bool.eq_iff_iff, beq_iff_eq]
  constructor
  · intro h
    have hh : ∀ i : Nat, (p.toNat.testBit i && (decide (l.f.toNat = i) || decide (l.o.toNat = i) || decide (l.t.toNat = i))) = decide (l.t.toNat = i) := by
      intro i
      rw [← lbits_tb, ← band_tb, h, pw_tb]
    have h1 := hh l.f.toNat
    have h2 := hh l.o.toNat
    have h3 := hh l.t.toNat
    simp [Ne.symm n2, Ne.symm n3] at h1 h2 h3
    simp [canU, tb_nat, h1, h2, h3]
  · intro h
    simp only [canU, tb_nat, Bool.and_eq_true, Bool.not_eq_true'] at h
    obtain ⟨⟨h1, h2⟩, h3⟩ := h
    refine tb_ext (band_nonneg _ _) (by have := pw_pos l.t; omega) fun i => ?_
    rw [band_tb, lbits_tb, pw_tb]
    by_cases e1 : l.f.toNat = i
    · subst e1; simp [h1, Ne.symm n2]
    · by_cases e2 : l.o.toNat = i
      · subst e2; simp [h2, Ne.symm n3]
      · by_cases e3 : l.t.toNat = i
        · subst e3; simp [h3]
        · simp [e1, e2, e3]
theorem lbits_lt {l : Ln} {k : Nat} (h : LnOk l) (hf : l.f < k) (ho : l.o < k) (ht : l.t < k) : lbits l < pw k := by
  unfold LnOk at h
  have p1 := pw_pos l.f; have p2 := pw_pos l.o; have p3 := pw_pos l.t
  exact bor_lt (bor_nonneg _ _) (by omega) (bor_lt (by omega) (by omega) (pw_lt (by omega) hf) (pw_lt (by omega) ho)) (pw_lt (by omega) ht)
theorem flip_lt {p : Int} {l : Ln} {k : Nat} (hp : 0 ≤ p) (hpk : p < pw k) (h : LnOk l) (hf : l.f < k) (ho : l.o < k) (ht : l.t < k) : flip p l < pw k :=
  bxor_lt hp (lbits_nonneg l) hpk (lbits_lt h hf ho ht)
end Peg
