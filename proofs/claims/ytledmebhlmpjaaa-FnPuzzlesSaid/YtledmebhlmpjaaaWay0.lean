/- Way0: what the search marks are the positions that jumps lead to, forwards and backwards; pegs are counted; no program in sight. No condition. -/
import Derived.Test.YtledmebhlmpjaaaPlay0
import Derived.Test.YtledmebhlmpjaaaReach2
set_option linter.unusedVariables false
set_option linter.unusedSimpArgs false
namespace Peg
inductive Steps (ls : List Ln) (back : Bool) : Int → Int → Prop
  | refl (p : Int) : Steps ls back p p
  | step {p q : Int} {l : Ln} : l ∈ ls → can back p l = true → Steps ls back (flip p l) q → Steps ls back p q
theorem Steps.snoc {ls : List Ln} {back : Bool} {p q : Int} {l : Ln} (h : Steps ls back p q) (hl : l ∈ ls) (hc : can back q l = true) : Steps ls back p (flip q l) := by
  induction h with
  | refl p => exact .step hl hc (.refl _)
  | step h1 h2 _ ih => exact .step h1 h2 (ih hc)
theorem Steps.trans {ls : List Ln} {back : Bool} {p q r : Int} (h : Steps ls back p q) (h2 : Steps ls back q r) : Steps ls back p r := by
  induction h with
  | refl p => exact h2
  | step h1 hc _ ih => exact .step h1 hc (ih h2)
def Sync (N : Nat) (s : St) : Prop := s.seen.length = N ∧ ∀ q : Int, 0 ≤ q → (s.seen.getD q.toNat false = true ↔ q ∈ s.list)
theorem getD_set_bool (l : List Bool) (i j : Nat) (hi : i < l.length) : (l.set i true).getD j false = if j = i then true else l.getD j false := by
  by_cases h : j = i
  · subst h; simp [hi]
  · simp [h, List.getElem?_set, Ne.symm h]
theorem visit_sync {N : Nat} {back : Bool} {p : Int} {s : St} {l : Ln} (h : Sync N s) (hq : flip p l < N) :
    Sync N (visit back p s l) ∧ ∀ q, q ∈ (visit back p s l).list ↔ q ∈ s.list ∨ (can back p l = true ∧ q = flip p l) := by
  have h0 := flip_nonneg p l
  unfold visit
  cases hc : can back p l
  · simp; exact h
  · simp only [if_true]
    cases hs : s.seen.getD (flip p l).toNat false
    · simp only [Bool.false_eq_true, if_false, true_and]
      refine ⟨⟨by simp [h.1], fun q hq0 => ?_⟩, fun q => by simp⟩
      rw [getD_set_bool _ _ _ (by rw [h.1]; omega)]
      by_cases e : q.toNat = (flip p l).toNat
      · have : q = flip p l := by omega
        subst this; simp
      · have : q ≠ flip p l := by rintro rfl; exact e rfl
        simp only [e, if_false, List.mem_append, List.mem_singleton, this, or_false]
        exact h.2 q hq0
    · simp only [if_true, true_and]
      have hm := (h.2 _ h0).1 hs
      refine ⟨h, fun q => ⟨.inl, ?_⟩⟩
      rintro (hq | rfl)
      · exact hq
      · exact hm
theorem visits_sync {N : Nat} {back : Bool} {p : Int} : ∀ (ls : List Ln) (s : St), Sync N s → (∀ l ∈ ls, flip p l < N) →
    Sync N (visits back p ls s) ∧ ∀ q, q ∈ (visits back p ls s).list ↔ q ∈ s.list ∨ ∃ l ∈ ls, can back p l = true ∧ q = flip p l := by
  intro ls
  induction ls with
  | nil => intro s h _; exact ⟨h, fun q => by simp [visits]⟩
  | cons x r ih =>
    intro s h hl
    obtain ⟨h1, h2⟩ := visit_sync (back := back) h (hl x (by simp))
    obtain ⟨h3, h4⟩ := ih _ h1 (fun l hl' => hl l (by simp [hl']))
    refine ⟨h3, fun q => ?_⟩
    show q ∈ (visits back p r (visit back p s x)).list ↔ _
    rw [h4, h2]
    constructor
    · rintro ((h | h) | ⟨l, hl', h⟩)
      · exact .inl h
      · exact .inr ⟨x, by simp, h⟩
      · exact .inr ⟨l, by simp [hl'], h⟩
    · rintro (h | ⟨l, hl', h⟩)
      · exact .inl (.inl h)
      · rcases List.mem_cons.1 hl' with rfl | hl'
        · exact .inl (.inr h)
        · exact .inr ⟨l, hl', h⟩
theorem st0_sync {N : Nat} {p : Int} (h0 : 0 ≤ p) (h : p < N) : Sync N (st0 N p) := by
  refine ⟨by simp [st0], fun q hq => ?_⟩
  show ((List.replicate N false).set p.toNat true).getD q.toNat false = true ↔ q ∈ [p]
  rw [getD_set_bool _ _ _ (by simp; omega)]
  by_cases e : q.toNat = p.toNat
  · have : q = p := by omega
    subst this; simp
  · have : q ≠ p := by rintro rfl; exact e rfl
    simp only [e, if_false, List.mem_singleton, this, iff_false]
    rw [List.getD_eq_getElem?_getD, List.getElem?_replicate]
    split <;> simp
theorem stAt_full {N : Nat} {back : Bool} {ls : List Ln} {p : Int} (h0 : 0 ≤ p) (h : p < N) (hl : Leads N ls) : ∀ i,
    Sync N (stAt back ls (st0 N p) i) ∧ (∀ q ∈ (stAt back ls (st0 N p) i).list, Steps ls back p q) ∧ p ∈ (stAt back ls (st0 N p) i).list ∧
      ∀ j, j < i → (hj : j < (stAt back ls (st0 N p) i).list.length) → ∀ l ∈ ls, can back ((stAt back ls (st0 N p) i).list[j]) l = true → flip ((stAt back ls (st0 N p) i).list[j]) l ∈ (stAt back ls (st0 N p) i).list := by
  intro i
  induction i with
  | zero =>
    refine ⟨st0_sync h0 h, fun q hq => ?_, by simp [stAt, st0], fun j hj => absurd hj (by omega)⟩
    simp [stAt, st0] at hq
    subst hq
    exact .refl _
  | succ i ih =>
    obtain ⟨a1, a2, a3, a4⟩ := ih
    have hok := stAt_ok (back := back) (st0_ok h0 h) hl i
    by_cases hlt : i < (stAt back ls (st0 N p) i).list.length
    · have e0 := stAt_succ (back := back) (ls := ls) (s0 := st0 N p) hlt
      generalize stAt back ls (st0 N p) (i + 1) = s' at *
      subst e0
      generalize stAt back ls (st0 N p) i = s at *
      have hm : s.list.getD i 0 = s.list[i] := by simp [hlt]
      rw [hm]
      have hmem : s.list[i] ∈ s.list := List.getElem_mem hlt
      have hr := hok.range _ hmem
      obtain ⟨b1, b2⟩ := visits_sync (back := back) ls s a1 (fun l hl' => hl l hl' _ hr.1 hr.2)
      obtain ⟨t, ht⟩ := visits_prefix back s.list[i] ls s
      refine ⟨b1, fun q hq => ?_, (b2 p).2 (.inl a3), fun j hj hjl l hll hc => ?_⟩
      · rcases (b2 q).1 hq with hq | ⟨l, hll, hc, rfl⟩
        · exact a2 q hq
        · exact (a2 _ hmem).snoc hll hc
      · have hjs : j < s.list.length := by omega
        have e : (visits back s.list[i] ls s).list[j] = s.list[j] := by
          simp only [ht]; rw [List.getElem_append_left hjs]
        rw [e] at hc ⊢
        rw [b2]
        rcases Nat.lt_or_ge j i with hji | hji
        · exact .inl (a4 j hji hjs l hll hc)
        · have : j = i := by omega
          subst this
          exact .inr ⟨l, hll, hc, rfl⟩
    · have e0 : stAt back ls (st0 N p) (i + 1) = stAt back ls (st0 N p) i := stAt_stay (by omega) 1
      generalize stAt back ls (st0 N p) (i + 1) = s' at *
      subst e0
      exact ⟨a1, a2, a3, fun j hj hjl l hll hc => a4 j (by omega) hjl l hll hc⟩
theorem seen_iff {N : Nat} {back : Bool} {ls : List Ln} {p q : Int} (h0 : 0 ≤ p) (h : p < N) (hl : Leads N ls) (hq : 0 ≤ q) : (seenOf back ls N p).getD q.toNat false = true ↔ Steps ls back p q := by
  obtain ⟨a1, a2, a3, a4⟩ := stAt_full (back := back) h0 h hl (N + 1)
  have hok := stAt_ok (back := back) (st0_ok h0 h) hl (N + 1)
  have hle := hok.le
  unfold seenOf
  rw [a1.2 q hq]
  constructor
  · exact a2 q
  · intro hs
    have key : ∀ x y, Steps ls back x y → x ∈ (stAt back ls (st0 N p) (N + 1)).list → y ∈ (stAt back ls (st0 N p) (N + 1)).list := by
      intro x y hxy
      induction hxy with
      | refl p => exact id
      | step h1 hc _ ih =>
        intro hx
        obtain ⟨j, hj, e⟩ := List.mem_iff_getElem.1 hx
        refine ih ?_
        have := a4 j (by omega) hj _ h1 (by rw [e]; exact hc)
        rwa [e] at this
    exact key p q hs a3
/-- a jump that is undone, an undone jump that is done again -/
theorem flip_flip {p : Int} (hp : 0 ≤ p) (l : Ln) : flip (flip p l) l = p := by
  refine tb_ext (flip_nonneg _ _) hp fun i => ?_
  rw [flip_tb, flip_tb]
  generalize (decide (l.f.toNat = i) || decide (l.o.toNat = i) || decide (l.t.toNat = i)) = b
  cases p.toNat.testBit i <;> cases b <;> rfl
theorem can_flip {back : Bool} {p : Int} {l : Ln} (h : can back p l = true) : can (!back) (flip p l) l = true := by
  have e : ∀ k : Int, tb (flip p l) k = (tb p k ^^ (decide (l.f.toNat = k.toNat) || decide (l.o.toNat = k.toNat) || decide (l.t.toNat = k.toNat))) := fun k => flip_tb p l k.toNat
  cases back
  · simp only [can, canJ, canU, Bool.false_eq_true, if_false, Bool.not_false, if_true] at h ⊢
    rw [e, e, e]
    simp at h ⊢
    simp [h]
  · simp only [can, canJ, canU, if_true, Bool.not_true, Bool.false_eq_true, if_false] at h ⊢
    rw [e, e, e]
    simp at h ⊢
    simp [h]
theorem Steps.rev {ls : List Ln} {back : Bool} {p q : Int} (hp : 0 ≤ p) (h : Steps ls back p q) : Steps ls (!back) q p := by
  induction h with
  | refl p => exact .refl _
  | step h1 hc _ ih =>
    have h2 := (ih (flip_nonneg _ _)).snoc h1 (can_flip hc)
    rwa [flip_flip hp] at h2
theorem Steps.pos {a b o p q : Int} {back : Bool} (hp : posOk a b o p = true) (h : Steps (linesOf a b o) back p q) : posOk a b o q = true := by
  induction h with
  | refl p => exact hp
  | step h1 hc _ ih => exact ih (posOk_flip hp h1)
/-- the marks of a board -/
theorem hasB_iff {a b o p q : Int} {back : Bool} (hs : isSmall a b o = true) (hp : posOk a b o p = true) : hasB (spreadOf a b o p back) q = true ↔ Steps (linesOf a b o) back p q := by
  have hpN := pos_N hp
  have hl := leads_of (small_N hs).1
  have e : spreadOf a b o p back = seenOf back (linesOf a b o) (boardN a b) p := by simp [spreadOf, hs, hp]
  rw [e]
  constructor
  · intro h
    simp only [hasB, Bool.and_eq_true, decide_eq_true_eq] at h
    exact (seen_iff hpN.1 hpN.2 hl h.1.1).1 h.2
  · intro h
    have hq := pos_N (h.pos hp)
    simp only [hasB, Bool.and_eq_true, decide_eq_true_eq, seenOf_length]
    exact ⟨⟨hq.1, hq.2⟩, (seen_iff hpN.1 hpN.2 hl hq.1).2 h⟩
theorem back_iff {a b o p q : Int} (hs : isSmall a b o = true) (hp : posOk a b o p = true) (hq : posOk a b o q = true) : hasB (spreadOf a b o q true) p = reach a b o p q false := by
  rw [Bool.eq_iff_iff]
  unfold reach
  rw [hasB_iff hs hq, hasB_iff hs hp]
  exact ⟨fun h => h.rev (pos_N hq).1, fun h => h.rev (pos_N hp).1⟩
/-- what the program's CanReach says is what the reference's says -/
theorem reach_false {a b o p q : Int} {back : Bool} (h : (isSmall a b o && posOk a b o p && posOk a b o q) = false) : reach a b o p q back = false := by
  cases hr : reach a b o p q back
  · rfl
  · exfalso
    unfold reach at hr
    cases hs : isSmall a b o
    · simp [spreadOf, hs, hasB] at hr
    cases hp : posOk a b o p
    · simp [spreadOf, hp, hasB] at hr
    have := ((hasB_iff hs hp).1 hr).pos hp
    simp [hs, hp, this] at h
/-! pegs -/
def pegs (p : Int) : Nat := (holesTo p 49).length
theorem pegs_eq (p : Int) : pegs p = (List.range 49).countP fun i : Nat => p.toNat.testBit i := by
  unfold pegs holesTo
  rw [List.length_map, List.countP_eq_length_filter]
  rfl
theorem cnt_upd (h : Nat → Bool) (k : Nat) (b : Bool) : ∀ n, k < n → (List.range n).countP (fun i => if i = k then b else h i) + (if h k then 1 else 0) = (List.range n).countP h + (if b then 1 else 0) := by
  have low : ∀ n, n ≤ k → (List.range n).countP (fun i => if i = k then b else h i) = (List.range n).countP h := by
    intro n
    induction n with
    | zero => simp
    | succ n ih =>
      intro hn
      rw [List.range_succ, List.countP_append, List.countP_append, ih (by omega)]
      simp [List.countP_cons, show n ≠ k from by omega]
  intro n
  induction n with
  | zero => intro h; omega
  | succ n ih =>
    intro hn
    rw [List.range_succ, List.countP_append, List.countP_append]
    rcases Nat.lt_or_ge k n with h1 | h1
    · have := ih h1
      simp [List.countP_cons, show n ≠ k from by omega]
      omega
    · have : n = k := by omega
      subst this
      rw [low n (Nat.le_refl _)]
      simp [List.countP_cons]
      omega
theorem pegs_jump {p : Int} {l : Ln} (hl : LnOk l) (h : canJ p l = true) : pegs (flip p l) + 1 = pegs p := by
  obtain ⟨n1, n2, n3⟩ := lnOk_nat hl
  have hb : l.f.toNat < 49 ∧ l.o.toNat < 49 ∧ l.t.toNat < 49 := by unfold LnOk at hl; omega
  simp only [canJ, tb_nat, Bool.and_eq_true, Bool.not_eq_true'] at h
  obtain ⟨⟨h1, h2⟩, h3⟩ := h
  rw [pegs_eq, pegs_eq]
  have e : (fun i : Nat => (flip p l).toNat.testBit i) = fun i => if i = l.t.toNat then true else (if i = l.o.toNat then false else (if i = l.f.toNat then false else p.toNat.testBit i)) := by
    funext i
    rw [flip_tb]
    by_cases e3 : i = l.t.toNat
    · subst e3; simp [h3, n2, n3]
    by_cases e2 : i = l.o.toNat
    · subst e2; simp [h2, n1, e3]
    by_cases e1 : i = l.f.toNat
    · subst e1; simp [h1, e2, e3]
    · simp [e1, e2, e3, Ne.symm e1, Ne.symm e2, Ne.symm e3]
  rw [e]
  have u1 := cnt_upd (fun i => p.toNat.testBit i) l.f.toNat false 49 hb.1
  have u2 := cnt_upd (fun i => if i = l.f.toNat then false else p.toNat.testBit i) l.o.toNat false 49 hb.2.1
  have u3 := cnt_upd (fun i => if i = l.o.toNat then false else (if i = l.f.toNat then false else p.toNat.testBit i)) l.t.toNat true 49 hb.2.2
  have m1 : ¬ l.o.toNat = l.f.toNat := fun h => n1 h.symm
  have m2 : ¬ l.t.toNat = l.f.toNat := fun h => n2 h.symm
  have m3 : ¬ l.t.toNat = l.o.toNat := fun h => n3 h.symm
  simp only [h1, if_true, Bool.false_eq_true, if_false, Nat.add_zero] at u1
  simp only [if_neg m1, h2, if_true, Bool.false_eq_true, if_false, Nat.add_zero] at u2
  simp only [if_neg m3, if_neg m2, h3, if_true, Bool.false_eq_true, if_false, Nat.add_zero] at u3
  omega
theorem pegs_le (p : Int) : pegs p ≤ 49 := holesTo_length p 49
end Peg
