/- Bfs0: the search over all positions, as plain data: marks and a list that grows; no program in sight. No condition. -/
import Derived.Test.YtledmebhlmpjaaaPzC
set_option linter.unusedVariables false
set_option linter.unusedSimpArgs false
namespace Peg
structure St where
  seen : List Bool
  list : List Int
/-- one line tried at the position p -/
def visit (back : Bool) (p : Int) (s : St) (l : Ln) : St :=
  if can back p l = true then if s.seen.getD (flip p l).toNat false = true then s else ⟨s.seen.set (flip p l).toNat true, s.list ++ [flip p l]⟩ else s
def visits (back : Bool) (p : Int) (ls : List Ln) (s : St) : St := ls.foldl (visit back p) s
/-- the state after i rounds; it stays when the list is at its end -/
def stAt (back : Bool) (ls : List Ln) (s0 : St) : Nat → St
  | 0 => s0
  | i + 1 => if i < (stAt back ls s0 i).list.length then visits back ((stAt back ls s0 i).list.getD i 0) ls (stAt back ls s0 i) else stAt back ls s0 i
theorem stAt_succ {back : Bool} {ls : List Ln} {s0 : St} {i : Nat} (h : i < (stAt back ls s0 i).list.length) : stAt back ls s0 (i + 1) = visits back ((stAt back ls s0 i).list.getD i 0) ls (stAt back ls s0 i) := by
  rw [stAt, if_pos h]
theorem stAt_stay {back : Bool} {ls : List Ln} {s0 : St} {i : Nat} (h : (stAt back ls s0 i).list.length ≤ i) : ∀ d, stAt back ls s0 (i + d) = stAt back ls s0 i := by
  intro d
  induction d with
  | zero => rfl
  | succ d ih =>
    rw [← Nat.add_assoc, stAt, ih, if_neg (by omega)]
/-- What holds of every state: as many marks as the list is long; every position on it in range. N: the number of marks in all. -/
structure StOk (N : Nat) (s : St) : Prop where
  size : s.seen.length = N
  marks : s.seen.count true = s.list.length
  range : ∀ p ∈ s.list, 0 ≤ p ∧ p < N
theorem StOk.le {N : Nat} {s : St} (h : StOk N s) : s.list.length ≤ N := by
  rw [← h.marks, ← h.size]; exact List.count_le_length
theorem count_set {l : List Bool} {i : Nat} (h : i < l.length) (h2 : l.getD i false = false) : (l.set i true).count true = l.count true + 1 := by
  induction l generalizing i with
  | nil => simp at h
  | cons x r ih =>
    cases i with
    | zero => simp at h2; subst h2; simp [List.count_cons]
    | succ i =>
      simp at h2
      have := ih (i := i) (by simpa using h) (by simpa using h2)
      simp [List.count_cons, this]
      omega
/-- lines that lead from a position in range to one in range -/
def Leads (N : Nat) (ls : List Ln) : Prop := ∀ l ∈ ls, ∀ p : Int, 0 ≤ p → p < N → flip p l < N
theorem visit_ok {N : Nat} {back : Bool} {p : Int} {s : St} {l : Ln} (h : StOk N s) (hq : flip p l < N) : StOk N (visit back p s l) := by
  unfold visit
  split
  · split
    · exact h
    · rename_i h2
      have h0 := flip_nonneg p l
      have hlt : (flip p l).toNat < s.seen.length := by rw [h.size]; omega
      refine ⟨by simp [h.size], ?_, ?_⟩
      · rw [count_set hlt (by simpa using h2), h.marks]; simp
      · intro q hq'
        simp only [List.mem_append, List.mem_singleton] at hq'
        rcases hq' with hq' | rfl
        · exact h.range q hq'
        · exact ⟨h0, hq⟩
  · exact h
theorem visits_ok {N : Nat} {back : Bool} {p : Int} : ∀ (ls : List Ln) (s : St), StOk N s → (∀ l ∈ ls, flip p l < N) → StOk N (visits back p ls s) := by
  intro ls
  induction ls with
  | nil => intro s h _; exact h
  | cons l r ih => intro s h hl; exact ih _ (visit_ok h (hl l (by simp))) (fun x hx => hl x (by simp [hx]))
theorem stAt_ok {N : Nat} {back : Bool} {ls : List Ln} {s0 : St} (h0 : StOk N s0) (hl : Leads N ls) : ∀ i, StOk N (stAt back ls s0 i) := by
  intro i
  induction i with
  | zero => exact h0
  | succ i ih =>
    unfold stAt
    split
    · rename_i h
      have hm : (stAt back ls s0 i).list.getD i 0 ∈ (stAt back ls s0 i).list := by simp [h]
      have hr := ih.range _ hm
      exact visits_ok ls _ ih (fun l hlm => hl l hlm _ hr.1 hr.2)
    · exact ih
theorem visit_prefix (back : Bool) (p : Int) (s : St) (l : Ln) : ∃ t, (visit back p s l).list = s.list ++ t := by
  unfold visit
  split
  · split
    · exact ⟨[], by simp⟩
    · exact ⟨_, rfl⟩
  · exact ⟨[], by simp⟩
theorem visits_prefix (back : Bool) (p : Int) : ∀ (ls : List Ln) (s : St), ∃ t, (visits back p ls s).list = s.list ++ t := by
  intro ls
  induction ls with
  | nil => intro s; exact ⟨[], by simp [visits]⟩
  | cons l r ih =>
    intro s
    obtain ⟨t1, h1⟩ := visit_prefix back p s l
    obtain ⟨t2, h2⟩ := ih (visit back p s l)
    exact ⟨t1 ++ t2, by show (visits back p r (visit back p s l)).list = _; rw [h2, h1, List.append_assoc]⟩
theorem visits_len {N : Nat} (back : Bool) (p : Int) (ls : List Ln) (s : St) : s.list.length ≤ (visits back p ls s).list.length := by
  obtain ⟨t, h⟩ := visits_prefix back p ls s
  rw [h]; simp
/-- the first state: the position p alone -/
def st0 (N : Nat) (p : Int) : St := ⟨(List.replicate N false).set p.toNat true, [p]⟩
theorem st0_ok {N : Nat} {p : Int} (h0 : 0 ≤ p) (h : p < N) : StOk N (st0 N p) := by
  refine ⟨by simp [st0], ?_, ?_⟩
  · show ((List.replicate N false).set p.toNat true).count true = 1
    rw [count_set (by simp; omega) (by rw [List.getD_eq_getElem?_getD, List.getElem?_replicate]; split <;> rfl)]
    simp [List.count_replicate]
  · intro q hq
    simp [st0] at hq
    subst hq
    exact ⟨h0, h⟩
/-- the marks of all positions that are reached -/
def seenOf (back : Bool) (ls : List Ln) (N : Nat) (p : Int) : List Bool := (stAt back ls (st0 N p) (N + 1)).seen
/-- where the rounds have come to the list's end, the marks are all made -/
theorem seenOf_end {back : Bool} {ls : List Ln} {N : Nat} {p : Int} (h0 : 0 ≤ p) (h : p < N) (hl : Leads N ls) {i : Nat} (hi : (stAt back ls (st0 N p) i).list.length = i) : (stAt back ls (st0 N p) i).seen = seenOf back ls N p := by
  have hle := (stAt_ok (back := back) (st0_ok h0 h) hl i).le
  unfold seenOf
  have := stAt_stay (back := back) (ls := ls) (s0 := st0 N p) (i := i) (by omega) (N + 1 - i)
  rw [show i + (N + 1 - i) = N + 1 from by omega] at this
  rw [this]
theorem visits_take (back : Bool) (p : Int) (L : List Ln) (s : St) (j : Nat) (d : Ln) (h : j < L.length) : visits back p (L.take (j + 1)) s = visit back p (visits back p (L.take j) s) (L.getD j d) := by
  unfold visits
  rw [List.take_succ_eq_append_getElem h, List.foldl_append]
  simp [h]
end Peg
