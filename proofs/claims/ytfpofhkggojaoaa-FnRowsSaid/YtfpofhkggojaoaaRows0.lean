/- Rows0: plain facts on rows of pegs, as lists of bytes; no program in sight. No condition. -/
import Derived.WalkKit
import Derived.Lib.Hide
set_option linter.unusedVariables false
set_option linter.unusedSimpArgs false
namespace Peg
/-- a peg or a point -/
def okB (c : UInt8) : Bool := c == 111 || c == 46
def rowOk (s : ByteArray) : Bool := decide (1 ≤ s.size) && decide (s.size ≤ 14) && s.data.toList.all okB
theorem take_snoc (s : ByteArray) (k : Nat) (h : k < s.size) : s.data.toList.take (k + 1) = s.data.toList.take k ++ [s[k]] := by
  rw [List.take_succ_eq_append_getElem (by simpa using h)]; rfl
theorem all_snoc (s : ByteArray) (k : Nat) (h : k < s.size) (p : UInt8 → Bool) : (s.data.toList.take (k + 1)).all p = ((s.data.toList.take k).all p && p s[k]) := by
  rw [take_snoc s k h]; simp
theorem all_not (s : ByteArray) (k : Nat) (h : k < s.size) (p : UInt8 → Bool) (hp : p s[k] = false) : s.data.toList.all p = false := by
  rw [List.all_eq_false]
  exact ⟨s[k], by simp [ByteArray.getElem_eq_getElem_data], by simp [hp]⟩
theorem okB_cases (c : UInt8) : (okB c = true ∧ (c.toNat = 111 ∨ c.toNat = 46)) ∨ (okB c = false ∧ c.toNat ≠ 111 ∧ c.toNat ≠ 46) := by
  cases h : okB c
  · right
    simp [okB] at h
    refine ⟨rfl, fun e => h.1 ?_, fun e => h.2 ?_⟩ <;> exact UInt8.toNat_inj.1 (by simpa using e)
  · left
    simp [okB] at h
    exact ⟨rfl, h.imp (fun e => by rw [e]; rfl) (fun e => by rw [e]; rfl)⟩
end Peg
