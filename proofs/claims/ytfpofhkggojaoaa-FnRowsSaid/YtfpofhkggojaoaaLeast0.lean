/- Least0: the least number of pegs that jumps on a row lead to; no program in sight. No condition. -/
import Derived.Test.YtfpofhkggojaoaaRowJ
import Derived.Laws.Strings
set_option linter.unusedVariables false
set_option linter.unusedSimpArgs false
namespace Peg
def pg (s : ByteArray) : Nat := s.data.toList.count 111
theorem rowJumps_split {s x : ByteArray} (h : x ∈ rowJumps s) : rowOk s = true ∧ ∃ A B : List UInt8, (s.data.toList = A ++ ([111, 111, 46] ++ B) ∧ x.data.toList = A ++ ([46, 46, 111] ++ B)) ∨ (s.data.toList = A ++ ([46, 111, 111] ++ B) ∧ x.data.toList = A ++ ([111, 46, 46] ++ B)) := by
  unfold rowJumps at h
  split at h
  · rename_i hok
    refine ⟨hok, ?_⟩
    obtain ⟨k, hk, hx⟩ := List.mem_flatMap.1 h
    have hk' := List.mem_range.1 hk
    have hs : s.data.toList = (s.data.toList.take k) ++ ((s.extract k (k + 3)).data.toList ++ (s.data.toList.drop (k + 3))) := by
      have e : (s.extract k (k + 3)).data.toList = (s.data.toList.drop k).take 3 := by
        simp only [ByteArray.data_extract, Array.toList_extract, List.extract_eq_take_drop, Nat.add_sub_cancel_left]
      rw [e]
      conv => lhs; rw [← List.take_append_drop k s.data.toList, ← List.take_append_drop 3 (s.data.toList.drop k)]
      rw [List.drop_drop]
    have e0 : (s.extract 0 k).data.toList = s.data.toList.take k := by simp
    have e1 : (s.extract (k + 3) s.size).data.toList = s.data.toList.drop (k + 3) := by
      simp only [ByteArray.data_extract, Array.toList_extract, List.extract_eq_take_drop]
      exact List.take_of_length_le (by rw [List.length_drop, Array.length_toList]; exact Nat.le_refl _)
    refine ⟨s.data.toList.take k, s.data.toList.drop (k + 3), ?_⟩
    unfold rjAt at hx
    split at hx
    · rename_i h1
      left
      rw [Go.ByteArray.toList_eq] at h1
      rw [beq_iff_eq.1 h1] at hs
      refine ⟨hs, ?_⟩
      rw [List.mem_singleton.1 hx, ByteArray.data_append, ByteArray.data_append, Array.toList_append, Array.toList_append, e0, e1]
      simp [sC]
    · split at hx
      · rename_i h1
        right
        rw [Go.ByteArray.toList_eq] at h1
        rw [beq_iff_eq.1 h1] at hs
        refine ⟨hs, ?_⟩
        rw [List.mem_singleton.1 hx, ByteArray.data_append, ByteArray.data_append, Array.toList_append, Array.toList_append, e0, e1]
        simp [sD]
      · simp at hx
  · simp at h
theorem size_toList (s : ByteArray) : s.data.toList.length = s.size := Array.length_toList
theorem rowJumps_ok {s x : ByteArray} (h : x ∈ rowJumps s) : rowOk x = true ∧ x.size = s.size ∧ pg x + 1 = pg s := by
  obtain ⟨hok, A, B, h1⟩ := rowJumps_split h
  have hlen : x.data.toList.length = s.data.toList.length := by
    rcases h1 with ⟨h1, h2⟩ | ⟨h1, h2⟩ <;> rw [h1, h2] <;> simp
  rw [size_toList, size_toList] at hlen
  unfold rowOk at *
  simp only [Bool.and_eq_true] at hok
  unfold pg
  rcases h1 with ⟨h1, h2⟩ | ⟨h1, h2⟩
  · rw [h1] at hok ⊢
    rw [h2, hlen, hok.1.1, hok.1.2]
    refine ⟨?_, rfl, by simp [List.count_cons]; omega⟩
    have h3 := hok.2
    simp [List.all_append, okB] at h3 ⊢
    exact h3
  · rw [h1] at hok ⊢
    rw [h2, hlen, hok.1.1, hok.1.2]
    refine ⟨?_, rfl, by simp [List.count_cons]; omega⟩
    have h3 := hok.2
    simp [List.all_append, okB] at h3 ⊢
    exact h3
/-- the rows that k jumps lead to -/
def rowsAt (s : ByteArray) : Nat → List ByteArray
  | 0 => [s]
  | k + 1 => (rowsAt s k).flatMap rowJumps
theorem rowsAt_ok {s x : ByteArray} (hs : rowOk s = true) {k : Nat} (h : x ∈ rowsAt s k) : rowOk x = true ∧ x.size = s.size ∧ pg x + k = pg s := by
  induction k generalizing x with
  | zero => rw [List.mem_singleton.1 h]; exact ⟨hs, rfl, rfl⟩
  | succ k ih =>
    obtain ⟨y, hy, hx⟩ := List.mem_flatMap.1 h
    obtain ⟨h1, h2, h3⟩ := ih hy
    obtain ⟨h4, h5, h6⟩ := rowJumps_ok hx
    exact ⟨h4, by omega, by omega⟩
theorem rowsAt_none {s : ByteArray} (hs : rowOk s = true) {k : Nat} (h : pg s < k) : rowsAt s k = [] := by
  rw [List.eq_nil_iff_forall_not_mem]
  intro x hx
  have := (rowsAt_ok hs hx).2.2
  omega
theorem rowsAt_end {s : ByteArray} {k j : Nat} (h : rowsAt s k = []) : rowsAt s (k + j) = [] := by
  induction j with
  | zero => exact h
  | succ j ih => show (rowsAt s (k + j)).flatMap rowJumps = []; rw [ih]; rfl
def IsLeast (s : ByteArray) (n : Nat) : Prop := (∃ k x, x ∈ rowsAt s k ∧ pg x = n) ∧ ∀ k x, x ∈ rowsAt s k → n ≤ pg x
theorem IsLeast.uniq {s : ByteArray} {n m : Nat} (h1 : IsLeast s n) (h2 : IsLeast s m) : n = m := by
  obtain ⟨⟨k, x, hx, rfl⟩, h3⟩ := h1
  obtain ⟨⟨j, y, hy, rfl⟩, h4⟩ := h2
  have := h3 j y hy
  have := h4 k x hx
  omega
noncomputable def rowLeast (s : ByteArray) : Int := if rowOk s = true then ((Classical.epsilon (IsLeast s) : Nat) : Int) else -1
theorem rowLeast_of {s : ByteArray} (hs : rowOk s = true) {n : Nat} (h : IsLeast s n) : rowLeast s = n := by
  unfold rowLeast
  rw [if_pos hs]
  have := (Classical.epsilon_spec (p := IsLeast s) ⟨n, h⟩).uniq h
  rw [this]
theorem least_layers {s : ByteArray} (hs : rowOk s = true) {k : Nat} (h0 : rowsAt s k ≠ []) (h1 : rowsAt s (k + 1) = []) : k ≤ pg s ∧ IsLeast s (pg s - k) := by
  obtain ⟨x, hx⟩ := List.exists_mem_of_ne_nil _ h0
  have hk := (rowsAt_ok hs hx).2.2
  refine ⟨by omega, ⟨⟨k, x, hx, by omega⟩, fun j y hy => ?_⟩⟩
  have hj := (rowsAt_ok hs hy).2.2
  by_cases hjk : k + 1 ≤ j
  · have := rowsAt_end (j := j - (k + 1)) h1
    rw [show k + 1 + (j - (k + 1)) = j from by omega] at this
    rw [this] at hy
    simp at hy
  · omega
theorem least_closed {s : ByteArray} {T : List ByteArray} {b : Nat} (h0 : s ∈ T) (hc : ∀ x ∈ T, ∀ y ∈ rowJumps x, y ∈ T) (he : ∃ k x, x ∈ rowsAt s k ∧ pg x = b) (hb : ∀ x ∈ T, b ≤ pg x) : IsLeast s b := by
  refine ⟨he, fun k x hx => hb x ?_⟩
  induction k generalizing x with
  | zero => rw [List.mem_singleton.1 hx]; exact h0
  | succ k ih =>
    obtain ⟨y, hy, hx⟩ := List.mem_flatMap.1 hx
    exact hc y (ih y hy) x hx
/-- all rows of n holes -/
def allRows : Nat → List (List UInt8)
  | 0 => [[]]
  | n + 1 => (allRows n).map (fun r => 111 :: r) ++ (allRows n).map (fun r => 46 :: r)
theorem allRows_length (n : Nat) : (allRows n).length = 2 ^ n := by
  induction n with
  | zero => rfl
  | succ n ih => simp [allRows, ih, Nat.pow_succ]; omega
theorem allRows_mem : ∀ (n : Nat) (l : List UInt8), l.length = n → l.all okB = true → l ∈ allRows n := by
  intro n
  induction n with
  | zero => intro l h _; rw [List.length_eq_zero_iff.1 h]; simp [allRows]
  | succ n ih =>
    intro l h hok
    cases l with
    | nil => simp at h
    | cons x l =>
      simp at h
      rw [List.all_cons, Bool.and_eq_true] at hok
      have := ih l h hok.2
      simp only [allRows, List.mem_append, List.mem_map]
      have h2 := hok.1
      simp [okB] at h2
      rcases h2 with rfl | rfl
      · exact .inl ⟨l, this, rfl⟩
      · exact .inr ⟨l, this, rfl⟩
theorem nodup_le {α : Type} [DecidableEq α] : ∀ (l m : List α), l.Nodup → (∀ x ∈ l, x ∈ m) → l.length ≤ m.length := by
  intro l
  induction l with
  | nil => intro m _ _; simp
  | cons x l ih =>
    intro m hn hs
    have hx : x ∈ m := hs x (by simp)
    have h1 := ih (m.erase x) (List.nodup_cons.1 hn).2 (fun y hy => by
      have hne : y ≠ x := fun e => (List.nodup_cons.1 hn).1 (by rw [← e]; exact hy)
      exact (List.mem_erase_of_ne hne).2 (hs y (by simp [hy])))
    rw [List.length_erase_of_mem hx] at h1
    have : 0 < m.length := List.length_pos_of_mem hx
    simp; omega
theorem rows_bound {T : List ByteArray} {n : Nat} (hn : n ≤ 14) (hd : T.Nodup) (h : ∀ x ∈ T, rowOk x = true ∧ x.size = n) : T.length ≤ 16384 := by
  have h1 : (T.map fun x => x.data.toList).Nodup := by
    refine List.pairwise_map.2 (hd.imp ?_)
    intro a b hab e
    apply hab
    have : a.data = b.data := Array.toList_inj.1 e
    cases a; cases b; simp at this; rw [this]
  have h2 := nodup_le _ (allRows n) h1 (fun l hl => by
    obtain ⟨x, hx, rfl⟩ := List.mem_map.1 hl
    obtain ⟨h3, h4⟩ := h x hx
    unfold rowOk at h3
    simp only [Bool.and_eq_true] at h3
    exact allRows_mem n _ (by rw [size_toList, h4]) h3.2)
  rw [allRows_length, List.length_map] at h2
  exact Nat.le_trans h2 (Nat.pow_le_pow_right (by omega) hn)
theorem rowJumps_len (s : ByteArray) : (rowJumps s).length ≤ 14 := by
  unfold rowJumps
  split
  · rename_i h
    have := rjTo_le s (s.size - 2)
    unfold rowOk at h
    simp at h
    omega
  · simp
end Peg
