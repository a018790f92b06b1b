/- RowJ: contracts of RowJumps and the reference's. Conditions: the row's length in range. -/
import Derived.Test.YtfpofhkggojaoaaMemS
import Derived.Test.YtfpofhkggojaoaaRows1
import Derived.Laws.DeepStrings4
import Derived.IntWalk
set_option linter.unusedVariables false
set_option linter.unusedSimpArgs false
namespace Peg
def sA : ByteArray := ⟨#[111, 111, 46]⟩
def sB : ByteArray := ⟨#[46, 111, 111]⟩
def sC : ByteArray := ⟨#[46, 46, 111]⟩
def sD : ByteArray := ⟨#[111, 46, 46]⟩
/-- the rows after a jump whose three holes begin at k -/
def rjAt (s : ByteArray) (k : Nat) : List ByteArray :=
  if ((s.extract k (k + 3)).toList == [111, 111, 46]) = true then [s.extract 0 k ++ sC ++ s.extract (k + 3) s.size] else if ((s.extract k (k + 3)).toList == [46, 111, 111]) = true then [s.extract 0 k ++ sD ++ s.extract (k + 3) s.size] else []
def rowJumps (s : ByteArray) : List ByteArray := if rowOk s = true then (List.range (s.size - 2)).flatMap (rjAt s) else []
theorem rjAt_le (s : ByteArray) (k : Nat) : (rjAt s k).length ≤ 1 := by
  unfold rjAt; split
  · simp
  · split <;> simp
theorem rjTo_le (s : ByteArray) (k : Nat) : ((List.range k).flatMap (rjAt s)).length ≤ k := by
  induction k with
  | zero => simp
  | succ k ih => rw [List.range_succ, List.flatMap_append]; have := rjAt_le s k; simp at this ih ⊢; omega
theorem rjTo_succ (s : ByteArray) (k : Nat) : (List.range (k + 1)).flatMap (rjAt s) = (List.range k).flatMap (rjAt s) ++ rjAt s k := by
  rw [List.range_succ, List.flatMap_append]; simp
end Peg
namespace Go.Proofs.Ytfpofhkggojaoaa
open Go.ChangeShapes Go.WideShapes Go.ChangeAt Go.RowKit Peg Go.Sort
def RetStrs (w : World) (l : List ByteArray) (e : Ending) (w' : World) : Prop := ∃ v, e = .returned v ∧ Own EStr w' w.heap.size v l ∧ Below w.heap.size w w'
set_option maxRecDepth 100000 in
theorem RowJumps_any (s : ByteArray) (hs : s.size ≤ 1048576) (w : World) :
    Calls Try.prog 61 #[.string s] w (RetStrs w (rowJumps s)) := by
  cases hok : rowOk s
  · have HR : Hid (rowJumps s = []) := by show _ = _; simp [rowJumps, hok]
    have HO : Hid (∀ W, Calls Try.prog 64 #[.string s] W fun e w' => e = .returned (.bool false) ∧ W = w') := fun W => by rw [← hok]; exact RowOk_any s (by unfold maxLen; omega) W
    go_enter Try.func61, Try.ntmps61
    go_wp2_with (go_at_call 64; refine (HO.out _).mono ?_; rintro e w' ⟨rfl, rfl⟩)
    go_ret
    exact ⟨_, rfl, by rw [HR.out]; exact Own.emptyAny _ _ _ _, Below.refl _ _⟩
  have HR : Hid (rowJumps s = (List.range (s.size - 2)).flatMap (rjAt s)) := by show _ = _; simp [rowJumps, hok]
  have HO : Hid (∀ W, Calls Try.prog 64 #[.string s] W fun e w' => e = .returned (.bool true) ∧ W = w') := fun W => by rw [← hok]; exact RowOk_any s (by unfold maxLen; omega) W
  clear hok
  go_enter Try.func61, Try.ntmps61
  go_wp2_with (go_at_call 64; refine (HO.out _).mono ?_; rintro e w' ⟨rfl, rfl⟩)
  go_loopw [3, 4] (fun v i wr => ∃ k : Nat, k ≤ s.size - 2 ∧ i = .int .i64 k ∧ Own EStr wr w.heap.size v ((List.range k).flatMap (rjAt s)) ∧ Below w.heap.size w wr) (fun _ i _ => s.size - (intOf i).toNat)
  case atStart => exact ⟨0, by omega, rfl, Own.emptyAny _ _ _ _, by (repeat' first | (with_reducible exact Below.refl _ _) | (with_reducible refine Below.alloc ?_ ?_ _) | (with_reducible refine Below.drew ?_) | (with_reducible refine Below.setCell ?_ ?_ _) | (with_reducible refine below_via (by assumption) ?_ ?_) | go_size)⟩
  case round =>
    obtain ⟨k, hk, rfl, hown, hbw⟩ := hrel
    have hle := rjTo_le s k
    have hz := hbw.size
    by_cases hlt : k + 3 ≤ s.size
    · have HS := Lib.hid (rjTo_succ s k)
      have HA : Hid (rjAt s k = if ((s.extract k (k + 3)).toList == [111, 111, 46]) = true then [s.extract 0 k ++ sC ++ s.extract (k + 3) s.size] else if ((s.extract k (k + 3)).toList == [46, 111, 111]) = true then [s.extract 0 k ++ sD ++ s.extract (k + 3) s.size] else []) := rfl
      generalize (List.range k).flatMap (rjAt s) = D at *
      have hks : k ≤ s.size := by omega
      have hk3 : (0 : Int) ≤ (k : Int) + 3 := by omega
      have hk4 : (k : Int) + 3 ≤ (s.size : Int) := by omega
      have hk5 : ((k : Int) + 3).toNat = k + 3 := by omega
      have hs1 : ¬ (9223372036854775807 < k + 3) := by omega
      have hs3 : ¬ (9223372036854775807 < s.size) := by omega
      cases h1 : ((s.extract k (k + 3)).toList == [111, 111, 46])
      rotate_left
      · have HX : Hid (rjAt s k = [s.extract 0 k ++ sC ++ s.extract (k + 3) s.size]) := by show _ = _; rw [HA.out]; simp [h1]
        have hown1 := (hown.keep ((Below.refl _ _).drew)).alloc (.cells #[.string (s.extract 0 k ++ sC ++ s.extract (k + 3) s.size)] 9)
        have hsg := Own.single (E := EStr) (s.extract 0 k ++ sC ++ s.extract (k + 3) s.size) wr.drew w.heap.size hz
        go_wp2_with fail
        have hwr : IntKind.i64.wrap ((k : Int) + 3) = (k : Int) + 3 := IntWalk.i64_in _ (by omega)
        go_region_law (refine step_appendN (E := EStr) (l := D) (l2 := [s.extract 0 k ++ sC ++ s.extract (k + 3) s.size]) rfl rfl (.tmp 23) (.tmp 33) 92 rfl Try.underlying92 rfl rfl hown1 hsg (by simp; omega) (by simp; omega) ?_; intro v' w2 hown3 hb3 hg3)
        clear hg3 hwr hown1 hsg
        go_wp2_with fail
        go_roundw
        case rel => exact ⟨k + 1, by omega, by go_num, by rw [HS.out, HX.out]; exact hown3, ((hbw.alloc hz _).drew).trans hb3⟩
        case measure => simp [intOf]; omega
      cases h2 : ((s.extract k (k + 3)).toList == [46, 111, 111])
      rotate_left
      · have HX : Hid (rjAt s k = [s.extract 0 k ++ sD ++ s.extract (k + 3) s.size]) := by show _ = _; rw [HA.out]; simp [h1, h2]
        have hown1 := (hown.keep ((Below.refl _ _).drew)).alloc (.cells #[.string (s.extract 0 k ++ sD ++ s.extract (k + 3) s.size)] 9)
        have hsg := Own.single (E := EStr) (s.extract 0 k ++ sD ++ s.extract (k + 3) s.size) wr.drew w.heap.size hz
        go_wp2_with fail
        have hwr : IntKind.i64.wrap ((k : Int) + 3) = (k : Int) + 3 := IntWalk.i64_in _ (by omega)
        go_region_law (refine step_appendN (E := EStr) (l := D) (l2 := [s.extract 0 k ++ sD ++ s.extract (k + 3) s.size]) rfl rfl (.tmp 37) (.tmp 47) 92 rfl Try.underlying92 rfl rfl hown1 hsg (by simp; omega) (by simp; omega) ?_; intro v' w2 hown3 hb3 hg3)
        clear hg3 hwr hown1 hsg
        go_wp2_with fail
        go_roundw
        case rel => exact ⟨k + 1, by omega, by go_num, by rw [HS.out, HX.out]; exact hown3, ((hbw.alloc hz _).drew).trans hb3⟩
        case measure => simp [intOf]; omega
      have HX : Hid (rjAt s k = []) := by show _ = _; rw [HA.out]; simp [h1, h2]
      go_wp2_with fail
      go_roundw
      case rel => exact ⟨k + 1, by omega, by go_num, by rw [HS.out, HX.out]; simpa using hown, hbw⟩
      case measure => simp [intOf]; omega
    · have HE : Hid ((List.range (s.size - 2)).flatMap (rjAt s) = (List.range k).flatMap (rjAt s)) := by show _ = _; rw [show s.size - 2 = k from by omega]
      go_wp2_with fail
      go_ret
      exact ⟨_, rfl, by rw [HR.out, HE.out]; exact hown, hbw⟩
set_option maxRecDepth 100000 in
theorem sRowJumps_any (s : ByteArray) (hs : s.size ≤ 1048576) (w : World) :
    Calls Try.prog 147 #[.string s] w (RetStrs w (rowJumps s)) := by
  cases hok : rowOk s
  · have HR : Hid (rowJumps s = []) := by show _ = _; simp [rowJumps, hok]
    have HO : Hid (∀ W, Calls Try.prog 145 #[.string s] W fun e w' => e = .returned (.bool false) ∧ W = w') := fun W => by rw [← hok]; exact sRowOk_any s (by unfold maxLen; omega) W
    go_enter Try.func147, Try.ntmps147
    go_wp2_with fail
    refine wp_loop_once ?_
    by_cases h3 : 3 ≤ s.size
    · go_wp2_with (go_at_call 145; refine (HO.out _).mono ?_; rintro e w' ⟨rfl, rfl⟩)
      go_ret
      exact ⟨_, rfl, by rw [HR.out]; exact Own.emptyAny _ _ _ _, by (repeat' first | (with_reducible exact Below.refl _ _) | (with_reducible refine Below.alloc ?_ ?_ _) | (with_reducible refine Below.drew ?_) | (with_reducible refine Below.setCell ?_ ?_ _) | (with_reducible refine below_via (by assumption) ?_ ?_) | go_size)⟩
    · go_wp2_with fail
      go_ret
      exact ⟨_, rfl, by rw [HR.out]; exact Own.emptyAny _ _ _ _, by (repeat' first | (with_reducible exact Below.refl _ _) | (with_reducible refine Below.alloc ?_ ?_ _) | (with_reducible refine Below.drew ?_) | (with_reducible refine Below.setCell ?_ ?_ _) | (with_reducible refine below_via (by assumption) ?_ ?_) | go_size)⟩
  have HR : Hid (rowJumps s = (List.range (s.size - 2)).flatMap (rjAt s)) := by show _ = _; simp [rowJumps, hok]
  have HO : Hid (∀ W, Calls Try.prog 145 #[.string s] W fun e w' => e = .returned (.bool true) ∧ W = w') := fun W => by rw [← hok]; exact sRowOk_any s (by unfold maxLen; omega) W
  clear hok
  go_enter Try.func147, Try.ntmps147
  go_wp2_with fail
  go_loopw [3, 4] (fun v i wr => ∃ k : Nat, k ≤ s.size - 2 ∧ i = .int .i64 k ∧ Own EStr wr w.heap.size v ((List.range k).flatMap (rjAt s)) ∧ Below w.heap.size w wr) (fun _ i _ => s.size - (intOf i).toNat)
  case atStart => exact ⟨0, by omega, rfl, Own.emptyAny _ _ _ _, by (repeat' first | (with_reducible exact Below.refl _ _) | (with_reducible refine Below.alloc ?_ ?_ _) | (with_reducible refine Below.drew ?_) | (with_reducible refine Below.setCell ?_ ?_ _) | (with_reducible refine below_via (by assumption) ?_ ?_) | go_size)⟩
  case round =>
    obtain ⟨k, hk, rfl, hown, hbw⟩ := hrel
    have hle := rjTo_le s k
    have hz := hbw.size
    by_cases hlt : k + 3 ≤ s.size
    · have HS := Lib.hid (rjTo_succ s k)
      have HA : Hid (rjAt s k = if ((s.extract k (k + 3)).toList == [111, 111, 46]) = true then [s.extract 0 k ++ sC ++ s.extract (k + 3) s.size] else if ((s.extract k (k + 3)).toList == [46, 111, 111]) = true then [s.extract 0 k ++ sD ++ s.extract (k + 3) s.size] else []) := rfl
      generalize (List.range k).flatMap (rjAt s) = D at *
      have hks : k ≤ s.size := by omega
      have hk3 : (0 : Int) ≤ (k : Int) + 3 := by omega
      have hk4 : (k : Int) + 3 ≤ (s.size : Int) := by omega
      have hk5 : ((k : Int) + 3).toNat = k + 3 := by omega
      have hs1 : ¬ (9223372036854775807 < k + 3) := by omega
      have hs3 : ¬ (9223372036854775807 < s.size) := by omega
      cases h1 : ((s.extract k (k + 3)).toList == [111, 111, 46])
      rotate_left
      · have HX : Hid (rjAt s k = [s.extract 0 k ++ sC ++ s.extract (k + 3) s.size]) := by show _ = _; rw [HA.out]; simp [h1]
        have h2 : ((s.extract k (k + 3)).toList == [46, 111, 111]) = false := by rw [eq_of_beq h1]; rfl
        have hown1 := (hown.keep ((Below.refl _ _).drew)).alloc (.cells #[.string (s.extract 0 k ++ sC ++ s.extract (k + 3) s.size)] 9)
        have hsg := Own.single (E := EStr) (s.extract 0 k ++ sC ++ s.extract (k + 3) s.size) wr.drew w.heap.size hz
        go_wp2_with (go_at_call 145; refine (HO.out _).mono ?_; rintro e w' ⟨rfl, rfl⟩)
        have hwr : IntKind.i64.wrap ((k : Int) + 3) = (k : Int) + 3 := IntWalk.i64_in _ (by omega)
        go_region_law (refine step_appendN (E := EStr) (l := D) (l2 := [s.extract 0 k ++ sC ++ s.extract (k + 3) s.size]) rfl rfl (.tmp 23) (.tmp 33) 92 rfl Try.underlying92 rfl rfl hown1 hsg (by simp; omega) (by simp; omega) ?_; intro v' w2 hown3 hb3 hg3)
        clear hg3 hwr hown1 hsg
        go_wp2_with fail
        go_roundw
        case rel => exact ⟨k + 1, by omega, by go_num, by rw [HS.out, HX.out]; exact hown3, ((hbw.alloc hz _).drew).trans hb3⟩
        case measure => simp [intOf]; omega
      cases h2 : ((s.extract k (k + 3)).toList == [46, 111, 111])
      rotate_left
      · have HX : Hid (rjAt s k = [s.extract 0 k ++ sD ++ s.extract (k + 3) s.size]) := by show _ = _; rw [HA.out]; simp [h1, h2]
        have hown1 := (hown.keep ((Below.refl _ _).drew)).alloc (.cells #[.string (s.extract 0 k ++ sD ++ s.extract (k + 3) s.size)] 9)
        have hsg := Own.single (E := EStr) (s.extract 0 k ++ sD ++ s.extract (k + 3) s.size) wr.drew w.heap.size hz
        go_wp2_with (go_at_call 145; refine (HO.out _).mono ?_; rintro e w' ⟨rfl, rfl⟩)
        have hwr : IntKind.i64.wrap ((k : Int) + 3) = (k : Int) + 3 := IntWalk.i64_in _ (by omega)
        go_region_law (refine step_appendN (E := EStr) (l := D) (l2 := [s.extract 0 k ++ sD ++ s.extract (k + 3) s.size]) rfl rfl (.tmp 41) (.tmp 51) 92 rfl Try.underlying92 rfl rfl hown1 hsg (by simp; omega) (by simp; omega) ?_; intro v' w2 hown3 hb3 hg3)
        clear hg3 hwr hown1 hsg
        go_wp2_with fail
        go_roundw
        case rel => exact ⟨k + 1, by omega, by go_num, by rw [HS.out, HX.out]; exact hown3, ((hbw.alloc hz _).drew).trans hb3⟩
        case measure => simp [intOf]; omega
      have HX : Hid (rjAt s k = []) := by show _ = _; rw [HA.out]; simp [h1, h2]
      go_wp2_with (go_at_call 145; refine (HO.out _).mono ?_; rintro e w' ⟨rfl, rfl⟩)
      go_roundw
      case rel => exact ⟨k + 1, by omega, by go_num, by rw [HS.out, HX.out]; simpa using hown, hbw⟩
      case measure => simp [intOf]; omega
    · have HE : Hid ((List.range (s.size - 2)).flatMap (rjAt s) = (List.range k).flatMap (rjAt s)) := by show _ = _; rw [show s.size - 2 = k from by omega]
      go_wp2_with fail
      go_ret
      exact ⟨_, rfl, by rw [HR.out, HE.out]; exact hown, hbw⟩
end Go.Proofs.Ytfpofhkggojaoaa
