/- Rows1: contracts of RowOk, of package impl and of package spec. Condition: the string's length fits an int. -/
import Derived.Test.YtfpofhkggojaoaaNum
import Derived.Test.YtfpofhkggojaoaaRows0
set_option linter.unusedVariables false
set_option linter.unusedSimpArgs false
namespace Go.Proofs.Ytfpofhkggojaoaa
open Go.ChangeShapes Go.WideShapes Go.ChangeAt Go.RowKit Peg Go.Sort
theorem sRowOk_any (s : ByteArray) (hs : s.size ≤ maxLen) (w : World) :
    Calls Try.prog 145 #[.string s] w fun e w' => e = .returned (.bool (rowOk s)) ∧ w = w' := by
  unfold maxLen at hs
  go_enter Try.func145, Try.ntmps145
  go_wp2_with fail
  go_loop [3] (fun i => ∃ k : Nat, k ≤ s.size ∧ Hid ((s.data.toList.take k).all okB = true) ∧ i = .int .i64 k) (fun i => s.size - (intOf i).toNat)
  case atStart => exact ⟨0, Nat.zero_le _, by simp [Hid], rfl⟩
  case round =>
    obtain ⟨k, hk, hall, rfl⟩ := hrel
    by_cases hlt : k < s.size
    · rcases okB_cases s[k] with ⟨hb, h1⟩ | ⟨hb, h1, h2⟩
      · have HS : Hid ((s.data.toList.take (k + 1)).all okB = true) := by
          show _ = true
          rw [all_snoc s k hlt, hb, hall.out]; rfl
        clear hb
        have e : (((s[k].toNat : Int) != 111) = false) ∨ (((s[k].toNat : Int) != 111) = true ∧ ((s[k].toNat : Int) != 46) = false) := by
          rcases h1 with h1 | h1 <;> simp [h1]
        clear h1
        rcases e with e1 | ⟨e1, e2⟩
        all_goals
          go_wp2
          go_round
          case rel => exact ⟨k + 1, by omega, HS, by go_num⟩
          case measure => simp [intOf]; omega
      · have hf : rowOk s = false := by simp [rowOk, all_not s k hlt okB hb]
        have e1 : ((s[k].toNat : Int) != 111) = true := by simp; omega
        have e2 : ((s[k].toNat : Int) != 46) = true := by simp; omega
        clear h1 h2 hb
        go_wp2
        go_ret
        exact ⟨by simp [hf], rfl⟩
    · have ha : s.data.toList.all okB = true := by
        have h0 := hall.out
        rwa [List.take_of_length_le (by simp; omega)] at h0
      have hf : rowOk s = inR s.size 1 14 := by rw [Bool.eq_iff_iff]; simp [rowOk, ha, inR]; omega
      have HF : Hid (rowOk s = inR s.size 1 14) := hf
      clear ha hf
      go_wp2_with (go_at_call 133; refine (l01In_any _ _ _ _).mono ?_; rintro e w' ⟨rfl, rfl⟩)
      go_ret
      exact ⟨by rw [HF.out]; rfl, rfl⟩
theorem RowOk_any (s : ByteArray) (hs : s.size ≤ maxLen) (w : World) :
    Calls Try.prog 64 #[.string s] w fun e w' => e = .returned (.bool (rowOk s)) ∧ w = w' := by
  unfold maxLen at hs
  by_cases hr : inR s.size 1 14 = true
  rotate_left
  · have hf : rowOk s = false := by
      cases h : rowOk s
      · rfl
      · exfalso; apply hr; simp [rowOk] at h; simp [inR]; omega
    go_enter Try.func64, Try.ntmps64
    go_wp2_with (go_at_call 125; refine (within_any _ _ _ _).mono ?_; rintro e w' ⟨rfl, rfl⟩)
    go_ret
    exact ⟨by simp [hf], rfl⟩
  go_enter Try.func64, Try.ntmps64
  go_wp2_with (go_at_call 125; refine (within_any _ _ _ _).mono ?_; rintro e w' ⟨rfl, rfl⟩)
  go_loop [3] (fun i => ∃ k : Nat, k ≤ s.size ∧ Hid ((s.data.toList.take k).all okB = true) ∧ i = .int .i64 k) (fun i => s.size - (intOf i).toNat)
  case atStart => exact ⟨0, Nat.zero_le _, by simp [Hid], rfl⟩
  case round =>
    obtain ⟨k, hk, hall, rfl⟩ := hrel
    by_cases hlt : k < s.size
    · rcases okB_cases s[k] with ⟨hb, h1⟩ | ⟨hb, h1, h2⟩
      · have HS : Hid ((s.data.toList.take (k + 1)).all okB = true) := by
          show _ = true
          rw [all_snoc s k hlt, hb, hall.out]; rfl
        clear hb
        have e : (((s[k].toNat : Int) != 111) = false) ∨ (((s[k].toNat : Int) != 111) = true ∧ ((s[k].toNat : Int) != 46) = false) := by
          rcases h1 with h1 | h1 <;> simp [h1]
        clear h1
        rcases e with e1 | ⟨e1, e2⟩
        all_goals
          go_wp2
          go_round
          case rel => exact ⟨k + 1, by omega, HS, by go_num⟩
          case measure => simp [intOf]; omega
      · have hf : rowOk s = false := by simp [rowOk, all_not s k hlt okB hb]
        have e1 : ((s[k].toNat : Int) != 111) = true := by simp; omega
        have e2 : ((s[k].toNat : Int) != 46) = true := by simp; omega
        clear h1 h2 hb
        go_wp2
        go_ret
        exact ⟨by simp [hf], rfl⟩
    · have ha : s.data.toList.all okB = true := by
        have h0 := hall.out
        rwa [List.take_of_length_le (by simp; omega)] at h0
      have hf : rowOk s = true := by rw [inR_iff] at hr; simp [rowOk, ha]; omega
      have HF : Hid (rowOk s = true) := hf
      clear ha hf
      go_wp2
      go_ret
      exact ⟨by rw [HF.out]; rfl, rfl⟩
end Go.Proofs.Ytfpofhkggojaoaa
