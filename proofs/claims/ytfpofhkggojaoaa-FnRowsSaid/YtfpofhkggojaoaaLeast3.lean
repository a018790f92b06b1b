/- Least3: contracts of CountSingleRows and the reference's. Condition: the number fits an int. -/
import Derived.Test.YtfpofhkggojaoaaLeast2
import Derived.Test.YtfpofhkggojaoaaTurn
import Derived.Test.YtfpofhkggojaoaaHoles
set_option linter.unusedVariables false
set_option linter.unusedSimpArgs false
namespace Peg
def setRow (set : Int) (k : Nat) : List UInt8 := (List.range k).map fun (i : Nat) => if tb set (i : Int) = true then 111 else 46
theorem setRow_succ (set : Int) (k : Nat) : setRow set (k + 1) = setRow set k ++ [if tb set (k : Int) = true then 111 else 46] := by simp [setRow, List.range_succ]
theorem setRow_length (set : Int) (k : Nat) : (setRow set k).length = k := by simp [setRow]
noncomputable def single (n : Nat) (set : Nat) : Bool := rowLeast (toB (setRow set n)) == 1
noncomputable def countTo (n m : Nat) : Nat := ((List.range m).filter (single n)).length
theorem countTo_succ (n m : Nat) : countTo n (m + 1) = countTo n m + if single n m = true then 1 else 0 := by
  unfold countTo
  rw [List.range_succ, List.filter_append, List.length_append]
  congr 1
  by_cases h : single n m = true <;> simp [h]
theorem countTo_le (n m : Nat) : countTo n m ≤ m := by
  unfold countTo
  have := List.length_filter_le (single n) (List.range m)
  simpa using this
noncomputable def countRows (n : Int) : Int := if inR n 1 10 = true then (countTo n.toNat (2 ^ n.toNat) : Nat) else -1
end Peg
namespace Go.Proofs.Ytfpofhkggojaoaa
open Go.ChangeShapes Go.WideShapes Go.ChangeAt Go.RowKit Peg Go.Sort
set_option maxHeartbeats 4000000 in
set_option maxRecDepth 100000 in
theorem CountSingleRows_any (x : Int) (w : World) :
    Calls Try.prog 66 #[.int .i64 x] w fun e w' => e = .returned (.int .i64 (countRows x)) ∧ Below w.heap.size w w' := by
  have HW : Hid (∀ W, Calls Try.prog 125 #[.int .i64 x, .int .i64 1, .int .i64 10] W fun e w' => e = .returned (.bool (inR x 1 10)) ∧ W = w') := fun W => within_any x 1 10 W
  cases hin : inR x 1 10
  · have HE : Hid (countRows x = -1) := by show _ = _; simp [countRows, hin]
    rw [hin] at HW
    clear hin
    go_enter Try.func66, Try.ntmps66
    go_wp2_with (go_at_call 125; refine (HW.out _).mono ?_; rintro e w' ⟨rfl, rfl⟩)
    go_ret
    exact ⟨by rw [HE.out]; rfl, Below.refl _ _⟩
  have hx := inR_iff.1 hin
  obtain ⟨n, rfl⟩ : ∃ n : Nat, x = n := ⟨x.toNat, by omega⟩
  have hN : 2 ^ n ≤ 1024 := by
    have : 2 ^ n ≤ 2 ^ 10 := Nat.pow_le_pow_right (by omega) (by omega)
    omega
  have HE : Hid (countRows (n : Int) = (countTo n (2 ^ n) : Nat)) := by show _ = _; simp [countRows, hin]
  have hsh : wrap64 (2 ^ (n : Int).toNat) = ((2 ^ n : Nat) : Int) := by
    have := pw_wrap (n := (n : Int)) (by omega) (by omega)
    rw [this]; simp [pw]
  have hsh2 : wrap64 (2 ^ n) = ((2 ^ n : Nat) : Int) := by simpa using hsh
  rw [hin] at HW
  have HB : Hid (∀ W (set k : Nat), set ≤ 1024 → Calls Try.prog 123 #[.int .i64 (set : Int), .int .i64 (k : Int)] W fun e w' => e = .returned (.bool (tb (set : Int) (k : Int))) ∧ W = w') := fun W set k h => hasBit_any _ _ (by omega) (by omega) (by omega) W
  have HS : Hid (∀ W (s : ByteArray), s.size ≤ 1048576 → Calls Try.prog 65 #[.string s] W fun e w' => e = .returned (.bool (rowLeast s == 1)) ∧ Below W.heap.size W w') := fun W s h => IsSingleRow_any s h W
  clear hin
  obtain ⟨N, hNN⟩ : ∃ N : Nat, 2 ^ n = N := ⟨_, rfl⟩
  rw [hNN] at hN hsh hsh2 HE
  clear hNN
  go_enter Try.func66, Try.ntmps66
  go_wp2_with (go_at_call 125; refine (HW.out _).mono ?_; rintro e w' ⟨rfl, rfl⟩)
  go_loopw [3, 4] (fun t3 t4 wr => ∃ m : Nat, m ≤ N ∧ t4 = .int .i64 m ∧ t3 = .int .i64 (countTo n m : Nat) ∧ Below w.heap.size w wr) (fun _ t _ => N - (intOf t).toNat)
  case atStart => exact ⟨0, by omega, rfl, by simp [countTo], by (repeat' first | (with_reducible exact Below.refl _ _) | (with_reducible refine Below.alloc ?_ ?_ _) | (with_reducible refine Below.drew ?_) | (with_reducible refine Below.setCell ?_ ?_ _) | (with_reducible refine below_via (by assumption) ?_ ?_) | go_size)⟩
  case round =>
    obtain ⟨m, hm, rfl, rfl, hbw⟩ := hrel
    have hz := hbw.size
    have hcl := countTo_le n m
    by_cases hlt : m < N
    · have HCS := Lib.hid (countTo_succ n m)
      have HSI : Hid (single n m = (rowLeast (toB (setRow m n)) == 1)) := rfl
      generalize countTo n m = c at *
      go_wp2_with fail
      simp only [hsh2]
      go_loopw [5, 6] (fun t5 t6 wq => ∃ k : Nat, k ≤ n ∧ t6 = .int .i64 k ∧ Own EU8 wq wr.heap.size t5 (setRow (m : Int) k) ∧ Below wr.heap.size wr wq) (fun _ t _ => n - (intOf t).toNat)
      case atStart => exact ⟨0, by omega, rfl, Own.emptyAny _ _ _ _, by (repeat' first | (with_reducible exact Below.refl _ _) | (with_reducible refine Below.alloc ?_ ?_ _) | (with_reducible refine Below.drew ?_) | (with_reducible refine Below.setCell ?_ ?_ _) | (with_reducible refine below_via (by assumption) ?_ ?_) | go_size)⟩
      case round =>
        obtain ⟨k, hk, rfl, hrow, hbq⟩ := hrel
        have hzq := hbq.size
        by_cases hkn : k < n
        · have HSS := Lib.hid (setRow_succ (m : Int) k)
          have hl := setRow_length (m : Int) k
          have HBB := Lib.hid (fun W => HB.out W m k (by omega))
          generalize setRow (m : Int) k = D at *
          cases htb : tb (m : Int) (k : Int)
          · have HSN : Hid (setRow (m : Int) (k + 1) = D ++ [46]) := by show _ = _; rw [HSS.out, htb]; rfl
            rw [htb] at HBB
            clear htb
            go_wp2_with (first | (go_at_call 123; refine (HBB.out _).mono ?_; rintro e w' ⟨rfl, rfl⟩) | (at_builtin; (refine append1 (E := EU8) (l := D) rfl rfl _ _ 40 rfl Try.underlying40 rfl hrow (46 : UInt8) rfl (by omega) (by omega) ?_); intro v' w2 hown2 hb2 hg2))
            go_roundw
            case rel => exact ⟨k + 1, by omega, by go_num, by rw [HSN.out]; exact hown2, hbq.trans hb2⟩
            case measure => simp [intOf]; omega
          · have HSN : Hid (setRow (m : Int) (k + 1) = D ++ [111]) := by show _ = _; rw [HSS.out, htb]; rfl
            rw [htb] at HBB
            clear htb
            go_wp2_with (first | (go_at_call 123; refine (HBB.out _).mono ?_; rintro e w' ⟨rfl, rfl⟩) | (at_builtin; (refine append1 (E := EU8) (l := D) rfl rfl _ _ 40 rfl Try.underlying40 rfl hrow (111 : UInt8) rfl (by omega) (by omega) ?_); intro v' w2 hown2 hb2 hg2))
            go_roundw
            case rel => exact ⟨k + 1, by omega, by go_num, by rw [HSN.out]; exact hown2, hbq.trans hb2⟩
            case measure => simp [intOf]; omega
        · obtain rfl : k = n := by omega
          have hbk := back_own hrow
          have hl := setRow_length (m : Int) k
          have HSR : Hid (∀ W, Calls Try.prog 65 #[.string ⟨(setRow (m : Int) k).toArray⟩] W fun e w' => e = .returned (.bool (single k m)) ∧ Below W.heap.size W w') := fun W => HS.out W (toB (setRow (m : Int) k)) (by rw [← size_toList, toB_data, hl]; omega)
          generalize setRow (m : Int) k = D at *
          clear hrow
          cases hsg : single k m
          · have HC2 : Hid (countTo k (m + 1) = c) := by show _ = _; rw [HCS.out, hsg]; rfl
            rw [hsg] at HSR
            clear hsg
            go_wp2_with (go_at_call 65; refine (HSR.out _).mono ?_; rintro e w' ⟨rfl, hb⟩; have HBB := Lib.hid hb; clear hb)
            go_roundw
            case rel => exact ⟨m + 1, by omega, by go_num, by rw [HC2.out], hbw.trans ((hbq.trans (HBB.out.mono hzq)).mono hz)⟩
            case measure => simp [intOf]; omega
          · have HC2 : Hid (countTo k (m + 1) = c + 1) := by show _ = _; rw [HCS.out, hsg]; rfl
            rw [hsg] at HSR
            clear hsg
            go_wp2_with (go_at_call 65; refine (HSR.out _).mono ?_; rintro e w' ⟨rfl, hb⟩; have HBB := Lib.hid hb; clear hb)
            go_roundw
            case rel => exact ⟨m + 1, by omega, by go_num, by rw [HC2.out]; go_num, hbw.trans ((hbq.trans (HBB.out.mono hzq)).mono hz)⟩
            case measure => simp [intOf]; omega
    · obtain rfl : m = N := by omega
      go_wp2_with fail
      go_ret
      exact ⟨by rw [HE.out]; rfl, hbw⟩
end Go.Proofs.Ytfpofhkggojaoaa
