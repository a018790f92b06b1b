/- PzS: several texts in one (Orders0, Orders1, Orders2). Conditions: those that each theorem names. -/
import Derived.Test.YtledmebhlmpjaaaPzO
import Derived.Test.YtledmebhlmpjaaaPzB
import Derived.Test.YtledmebhlmpjaaaPzV
set_option linter.unusedVariables false
set_option linter.unusedSimpArgs false
namespace Peg
/-! paths of a graph, counted from the front and from the back -/
section
variable {β : Type} [DecidableEq β] (out inn : β → List β)
def pF : Nat → β → β → Nat
  | 0, s, t => if s = t then 1 else 0
  | m + 1, s, t => ((out s).map fun u => pF m u t).sum
def pB : Nat → β → β → Nat
  | 0, s, t => if s = t then 1 else 0
  | m + 1, s, t => ((inn t).map fun u => pB m s u).sum
theorem sum_swap {γ δ : Type} (f : γ → δ → Nat) (L : List γ) (M : List δ) : (L.map fun x => (M.map fun y => f x y).sum).sum = (M.map fun y => (L.map fun x => f x y).sum).sum := by
  induction L with
  | nil =>
    show 0 = (M.map fun _ => 0).sum
    induction M with
    | nil => rfl
    | cons y M ih =>
      rw [List.map_cons, List.sum_cons, ← ih]
      rfl
  | cons x L ih =>
    rw [List.map_cons, List.sum_cons, ih]
    clear ih
    induction M with
    | nil => rfl
    | cons y M ih2 =>
      simp only [List.map_cons, List.sum_cons] at ih2 ⊢
      omega
theorem sum_ite_count (L : List β) (t : β) : (L.map fun u => if u = t then 1 else 0).sum = L.count t := by
  induction L with
  | nil => rfl
  | cons x L ih =>
    rw [List.map_cons, List.sum_cons, ih, List.count_cons]
    by_cases h : x = t
    · subst h; simp; omega
    · simp [h]
theorem sum_ite_count' (L : List β) (t : β) : (L.map fun u => if t = u then 1 else 0).sum = L.count t := by
  rw [← sum_ite_count]
  congr 1
  refine List.map_congr_left fun u _ => ?_
  by_cases h : u = t
  · subst h; rfl
  · rw [if_neg h, if_neg (fun e => h e.symm)]
theorem pF_pB (h : ∀ s t, (out s).count t = (inn t).count s) : ∀ (m : Nat) (s t : β), pF out m s t = pB inn m s t
  | 0, s, t => rfl
  | 1, s, t => by
    show ((out s).map fun u => if u = t then 1 else 0).sum = ((inn t).map fun u => if s = u then 1 else 0).sum
    rw [sum_ite_count, sum_ite_count', h]
  | m + 2, s, t => by
    have e1 : pF out (m + 2) s t = ((out s).map fun u => ((inn t).map fun v => pF out m u v).sum).sum := by
      show ((out s).map fun u => pF out (m + 1) u t).sum = _
      congr 1
      refine List.map_congr_left fun u _ => ?_
      rw [pF_pB h (m + 1) u t]
      show ((inn t).map fun v => pB inn m u v).sum = _
      congr 1
      refine List.map_congr_left fun v _ => ?_
      exact (pF_pB h m u v).symm
    have e2 : pB inn (m + 2) s t = ((inn t).map fun v => ((out s).map fun u => pF out m u v).sum).sum := by
      show ((inn t).map fun v => pB inn (m + 1) s v).sum = _
      congr 1
      refine List.map_congr_left fun v _ => ?_
      rw [← pF_pB h (m + 1) s v]
      rfl
    rw [e1, e2, sum_swap]
end
/-! sets of jumps as numbers -/
def needsOf (w : List Ln) (k : Nat) : Nat → Nat
  | 0 => 0
  | i + 1 => if dis (gD w Ln0 i) (gD w Ln0 k) = true then needsOf w k i ||| 2 ^ i else needsOf w k i
theorem needsOf_bit (w : List Ln) (k : Nat) : ∀ (m i : Nat), (needsOf w k m).testBit i = (decide (i < m) && dis (gD w Ln0 i) (gD w Ln0 k))
  | 0, i => by simp [needsOf]
  | m + 1, i => by
    unfold needsOf
    by_cases hd : dis (gD w Ln0 m) (gD w Ln0 k) = true
    · rw [if_pos hd, Nat.testBit_or, needsOf_bit w k m i, Nat.testBit_two_pow]
      by_cases h : m = i
      · subst h; simp [hd]
      · by_cases h2 : i < m
        · simp [h, h2, show i < m + 1 from by omega]
        · simp [h, h2, show ¬ i < m + 1 from by omega]
    · rw [if_neg hd, needsOf_bit w k m i]
      by_cases h : m = i
      · subst h; simp [hd]
      · by_cases h2 : i < m
        · simp [h2, show i < m + 1 from by omega]
        · simp [h2, show ¬ i < m + 1 from by omega]
def needs (w : List Ln) (k : Nat) : Nat := needsOf w k k
def within (x s : Nat) : Bool := (x &&& s) == x
theorem within_iff {x s : Nat} : within x s = true ↔ ∀ i, x.testBit i = true → s.testBit i = true := by
  unfold within
  rw [beq_iff_eq]
  constructor
  · intro h i hi
    have := congrArg (fun y => y.testBit i) h
    simp only [Nat.testBit_and, hi, Bool.true_and] at this
    exact this
  · intro h
    apply Nat.eq_of_testBit_eq
    intro i
    rw [Nat.testBit_and]
    cases hx : x.testBit i
    · rfl
    · rw [h i hx]; rfl
def outS (w : List Ln) (s : Nat) : List Nat := ((List.range w.length).filter fun k => !s.testBit k && within (needs w k) s).map fun k => s ^^^ 2 ^ k
def innS (w : List Ln) (t : Nat) : List Nat := ((List.range w.length).filter fun k => t.testBit k && within (needs w k) t).map fun k => t ^^^ 2 ^ k
theorem xor_bit (s k j : Nat) : (s ^^^ 2 ^ k).testBit j = (s.testBit j ^^ decide (k = j)) := by
  rw [Nat.testBit_xor, Nat.testBit_two_pow]
theorem xor_xor (s k : Nat) : (s ^^^ 2 ^ k) ^^^ 2 ^ k = s := by
  apply Nat.eq_of_testBit_eq
  intro j
  rw [xor_bit, xor_bit]
  cases s.testBit j <;> cases decide (k = j) <;> rfl
theorem needs_own (w : List Ln) (k : Nat) : (needs w k).testBit k = false := by
  unfold needs
  rw [needsOf_bit]
  simp
theorem edge_same (w : List Ln) (s t k : Nat) : ((!s.testBit k && within (needs w k) s) && (s ^^^ 2 ^ k == t)) = ((t.testBit k && within (needs w k) t) && (t ^^^ 2 ^ k == s)) := by
  rw [Bool.eq_iff_iff]
  simp only [Bool.and_eq_true, Bool.not_eq_true', beq_iff_eq, within_iff]
  constructor
  · rintro ⟨⟨h1, h2⟩, rfl⟩
    refine ⟨⟨by rw [xor_bit, h1]; simp, fun i hi => ?_⟩, xor_xor s k⟩
    rw [xor_bit, h2 i hi]
    have : k ≠ i := by rintro rfl; rw [needs_own] at hi; cases hi
    simp [this]
  · rintro ⟨⟨h1, h2⟩, rfl⟩
    refine ⟨⟨by rw [xor_bit, h1]; simp, fun i hi => ?_⟩, xor_xor t k⟩
    rw [xor_bit, h2 i hi]
    have : k ≠ i := by rintro rfl; rw [needs_own] at hi; cases hi
    simp [this]
theorem edges_count (w : List Ln) (s t : Nat) : (outS w s).count t = (innS w t).count s := by
  unfold outS innS
  rw [List.count, List.count, List.countP_map, List.countP_map, List.countP_filter, List.countP_filter]
  refine List.countP_congr fun k _ => ?_
  have := edge_same w s t k
  simp only [Function.comp]
  rw [Bool.and_comm (s ^^^ 2 ^ k == t), Bool.and_comm (t ^^^ 2 ^ k == s), this]
theorem inj_sum {f : Ln → Nat} {g : Nat → Nat} {v : Nat → Ln} : ∀ (J : List Ln) (K : List Nat), J.Pairwise (· ≠ ·) → (∀ l ∈ J, f l = 0 ∨ ∃ k ∈ K, v k = l ∧ f l ≤ g k) → (J.map f).sum ≤ (K.map g).sum
  | [], K, _, _ => by simp
  | l :: J, K, hp, h => by
    obtain ⟨h1, h2⟩ := List.pairwise_cons.1 hp
    rw [List.map_cons, List.sum_cons]
    rcases h l (by simp) with h0 | ⟨k, hk, hv, hle⟩
    · rw [h0, Nat.zero_add]
      exact inj_sum J K h2 fun x hx => h x (by simp [hx])
    · have hs : (K.map g).sum = g k + ((K.erase k).map g).sum := by
        have := (List.perm_cons_erase hk).map g
        rw [this.sum_nat]
        simp
      rw [hs]
      have := inj_sum (f := f) (g := g) (v := v) J (K.erase k) h2 fun x hx => by
        rcases h x (by simp [hx]) with h3 | ⟨k', hk', hv', hle'⟩
        · exact .inl h3
        · refine .inr ⟨k', (List.mem_erase_of_ne ?_).2 hk', hv', hle'⟩
          rintro rfl
          exact h1 x hx (hv.symm.trans hv')
      omega
/-! what is left of a game -/
theorem rmv_map {f : Nat → Ln} {x : Ln} : ∀ {I : List Nat} {a' : List Ln}, rmv x (I.map f) = some a' → ∃ I1 k I2, I = I1 ++ k :: I2 ∧ f k = x ∧ (∀ i ∈ I1, dis (f i) x = false) ∧ a' = (I1 ++ I2).map f
  | [], a', h => by simp [rmv] at h
  | i :: I, a', h => by
    rw [List.map_cons, rmv_cons] at h
    by_cases e : f i = x
    · rw [if_pos e] at h
      cases h
      exact ⟨[], i, I, rfl, e, by simp, rfl⟩
    · rw [if_neg e] at h
      split at h
      · cases h
      · rename_i hd
        cases e2 : rmv x (I.map f) with
        | none => simp [e2] at h
        | some r =>
          simp [e2] at h
          obtain ⟨I1, k, I2, h1, h2, h3, h4⟩ := rmv_map e2
          refine ⟨i :: I1, k, I2, by rw [h1]; rfl, h2, fun j hj => ?_, by rw [← h, h4]; rfl⟩
          rcases List.mem_cons.1 hj with rfl | hj
          · simpa using hd
          · exact h3 j hj
def idx (n r : Nat) : List Nat := (List.range n).filter fun k => r.testBit k
def sub (w : List Ln) (r : Nat) : List Ln := (idx w.length r).map fun k => gD w Ln0 k
theorem rmv_sub {w : List Ln} {r : Nat} {x : Ln} {a' : List Ln} (h : rmv x (sub w r) = some a') :
    ∃ k, k < w.length ∧ r.testBit k = true ∧ gD w Ln0 k = x ∧ (∀ i, i < k → r.testBit i = true → dis (gD w Ln0 i) (gD w Ln0 k) = false) ∧ a' = sub w (r ^^^ 2 ^ k) := by
  obtain ⟨I1, k, I2, h1, h2, h3, h4⟩ := rmv_map h
  have hs : (idx w.length r).Pairwise (· < ·) := List.Pairwise.filter _ List.pairwise_lt_range
  have hm : k ∈ idx w.length r := by rw [h1]; simp
  simp only [idx, List.mem_filter, List.mem_range] at hm
  rw [h1] at hs
  have hs2 := List.pairwise_append.1 hs
  have hs3 := List.pairwise_cons.1 hs2.2.1
  refine ⟨k, hm.1, hm.2, h2, fun i hi hb => ?_, ?_⟩
  · have hi2 : i ∈ idx w.length r := by
      simp only [idx, List.mem_filter, List.mem_range]
      exact ⟨by omega, hb⟩
    rw [h1, List.mem_append, List.mem_cons] at hi2
    rcases hi2 with h5 | h5 | h5
    · rw [h2]; exact h3 i h5
    · omega
    · have := hs3.1 i h5; omega
  · rw [h4]
    unfold sub
    congr 1
    have e1 : idx w.length (r ^^^ 2 ^ k) = (idx w.length r).filter fun i => !decide (k = i) := by
      unfold idx
      rw [List.filter_filter]
      refine List.filter_congr fun i _ => ?_
      rw [xor_bit]
      by_cases e : k = i
      · subst e; simp [hm.2]
      · simp [e]
    rw [e1, h1, List.filter_append, List.filter_cons]
    have f1 : I1.filter (fun i => !decide (k = i)) = I1 := by
      rw [List.filter_eq_self]
      intro i hi
      have := hs2.2.2 i hi k (by simp)
      simp; omega
    have f2 : I2.filter (fun i => !decide (k = i)) = I2 := by
      rw [List.filter_eq_self]
      intro i hi
      have := hs3.1 i hi
      simp; omega
    rw [f1, f2]
    simp
end Peg
namespace Peg
theorem lineTo_over {a b o k q : Int} {l : Ln} (h : lineTo a b o k q = some l) : 0 ≤ k % a + dx q ∧ k % a + dx q < a ∧ l.o = (k / a + dy q) * a + (k % a + dx q) := by
  unfold lineTo at h
  split at h
  · rename_i h1
    split at h
    · simp only [Option.some.injEq] at h
      have hv : stepTo a b o k q = (k / a + dy q) * a + (k % a + dx q) ∧ 0 ≤ k % a + dx q ∧ k % a + dx q < a := by
        simp only [stepTo] at h1 ⊢
        split at h1
        · rename_i x1
          split at h1
          · rename_i y1
            split at h1
            · rename_i t1
              rw [if_pos x1, if_pos y1, if_pos t1]
              rw [inR_iff] at x1
              exact ⟨rfl, x1.1, by omega⟩
            · omega
          · omega
        · omega
      refine ⟨hv.2.1, hv.2.2, ?_⟩
      rw [← hv.1, ← h]
    · cases h
  · cases h
theorem lineTo_inj {a b o k q q' : Int} {l : Ln} (h : lineTo a b o k q = some l) (h' : lineTo a b o k q' = some l) (hq : 0 ≤ q ∧ q < 4) (hq' : 0 ≤ q' ∧ q' < 4) : q = q' := by
  obtain ⟨a1, a2, a3⟩ := lineTo_over h
  obtain ⟨b1, b2, b3⟩ := lineTo_over h'
  rw [a3] at b3
  have hx : k % a + dx q = k % a + dx q' := by
    have e1 : ((k / a + dy q) * a + (k % a + dx q)) % a = k % a + dx q := by
      rw [Int.add_comm, Int.add_mul_emod_self_right]; exact Int.emod_eq_of_lt a1 a2
    have e2 : ((k / a + dy q') * a + (k % a + dx q')) % a = k % a + dx q' := by
      rw [Int.add_comm, Int.add_mul_emod_self_right]; exact Int.emod_eq_of_lt b1 b2
    rw [← e1, b3, e2]
  have hy : (k / a + dy q) * a = (k / a + dy q') * a := by omega
  have hy2 : k / a + dy q = k / a + dy q' := Int.eq_of_mul_eq_mul_right (by omega) hy
  have h3 : dx q = dx q' := by omega
  have h4 : dy q = dy q' := by omega
  have c1 : q = 0 ∨ q = 1 ∨ q = 2 ∨ q = 3 := by omega
  have c2 : q' = 0 ∨ q' = 1 ∨ q' = 2 ∨ q' = 3 := by omega
  rcases c1 with rfl | rfl | rfl | rfl <;> rcases c2 with rfl | rfl | rfl | rfl <;> first | rfl | (exfalso; revert h3 h4; decide)
theorem linesFrom_nodup (a b o k : Int) : (linesFrom a b o k).Pairwise (· ≠ ·) := by
  unfold linesFrom linesPart
  rw [List.pairwise_filterMap]
  refine List.Pairwise.imp_of_mem ?_ List.nodup_range
  intro q q' hq hq' hne l hl l' hl' e
  subst e
  simp only [List.mem_range] at hq hq'
  exact hne (by have := lineTo_inj hl hl' (by omega) (by omega); omega)
theorem linesOf_nodup (a b o : Int) : (linesOf a b o).Pairwise (· ≠ ·) := by
  unfold linesOf
  rw [List.pairwise_flatMap]
  refine ⟨fun k _ => linesFrom_nodup a b o k, ?_⟩
  have hn : (holesOf a b o).Pairwise (· ≠ ·) := by
    unfold holesOf
    split
    · unfold holesTo
      rw [List.pairwise_map]
      exact List.Pairwise.imp (fun hne he => hne (by omega)) (List.Pairwise.filter _ List.nodup_range)
    · exact List.Pairwise.nil
  refine List.Pairwise.imp (fun hne => ?_) hn
  intro x hx y hy e
  subst e
  exact hne ((linesFrom_f hx).symm.trans (linesFrom_f hy))
theorem pick_exists {f : Ln → Nat} : ∀ {L : List Ln} {l : Ln} {j : Nat}, l ∈ L → j < f l → ∃ i, i < (L.map f).sum ∧ pick f L i = some (l, j)
  | [], l, j, h, _ => by cases h
  | x :: s, l, j, h, hj => by
    by_cases e : l = x
    · subst e
      exact ⟨j, by rw [List.map_cons, List.sum_cons]; omega, by rw [pick, if_pos hj]⟩
    · rcases List.mem_cons.1 h with h1 | h1
      · exact absurd h1 e
      · obtain ⟨i, h2, h3⟩ := pick_exists h1 hj
        refine ⟨f x + i, by rw [List.map_cons, List.sum_cons]; omega, ?_⟩
        rw [pick, if_neg (by omega), Nat.add_sub_cancel_left]
        exact h3
theorem gAt_cons {a b o g p : Int} {i j : Nat} {l : Ln} (hne : p ≠ g) (h : pick (fun l => games a b o g (flip p l)) ((linesOf a b o).filter (canJ p)) i = some (l, j)) (hp : pegs (flip p l) + 1 = pegs p) : gAt a b o g (pegs p) p i = l :: gAt a b o g (pegs (flip p l)) (flip p l) j := by
  rw [← hp, gAt, if_neg hne, h]
def full (n : Nat) : Nat := 2 ^ n - 1
theorem full_bit (n i : Nat) : (full n).testBit i = decide (i < n) := by
  unfold full
  rw [Nat.testBit_two_pow_sub_one]
theorem games_paths {a b o g : Int} {w : List Ln} : ∀ (m : Nat) (p : Int) (r : Nat), posOk a b o p = true → (sub w r).length = m → (∀ i, r.testBit i = true → i < w.length) →
    (∀ i, i < games a b o g p → eqv (sub w r) (gAt a b o g (pegs p) p i) = true) → games a b o g p ≤ pF (outS w) m (full w.length ^^^ r) (full w.length)
  | m, p, r, hp, hm, hr, h => by
    by_cases hg : p = g
    · subst hg
      have h0 := h 0 (by rw [games_goal]; omega)
      have e0 : gAt a b o p (pegs p) p 0 = [] := by cases pegs p <;> simp [gAt]
      rw [e0] at h0
      have e1 : sub w r = [] := by simpa [eqv] using h0
      rw [e1] at hm
      have hm0 : m = 0 := by simpa using hm.symm
      subst hm0
      have hr0 : r = 0 := by
        apply Nat.eq_of_testBit_eq
        intro i
        rw [Nat.zero_testBit]
        cases hb : r.testBit i
        · rfl
        · have hi : i ∈ idx w.length r := by
            simp only [idx, List.mem_filter, List.mem_range]
            exact ⟨hr i hb, hb⟩
          have : idx w.length r = [] := by simpa [sub] using e1
          rw [this] at hi; cases hi
      rw [games_goal, hr0, Nat.xor_zero]
      simp [pF]
    · rw [games_step hg]
      -- what each first jump says
      have key : ∀ l ∈ (linesOf a b o).filter (canJ p), games a b o g (flip p l) = 0 ∨ ∃ k, k < w.length ∧ r.testBit k = true ∧ gD w Ln0 k = l ∧ (∀ i, i < k → r.testBit i = true → dis (gD w Ln0 i) (gD w Ln0 k) = false) ∧ (sub w (r ^^^ 2 ^ k)).length + 1 = m ∧ (∀ j, j < games a b o g (flip p l) → eqv (sub w (r ^^^ 2 ^ k)) (gAt a b o g (pegs (flip p l)) (flip p l) j) = true) := by
        intro l hl
        rcases Nat.eq_zero_or_pos (games a b o g (flip p l)) with h0 | h0
        · exact .inl h0
        · obtain ⟨h1, h2⟩ := List.mem_filter.1 hl
          have hpj := pegs_jump (linesOf_in h1).1 h2
          have each : ∀ j, j < games a b o g (flip p l) → eqv (sub w r) (l :: gAt a b o g (pegs (flip p l)) (flip p l) j) = true := by
            intro j hj
            obtain ⟨i, h3, h4⟩ := pick_exists (f := fun l => games a b o g (flip p l)) hl hj
            have := h i (by rw [games_step hg]; exact h3)
            rwa [gAt_cons hg h4 hpj] at this
          have e0 := each 0 h0
          rw [eqv] at e0
          cases er : rmv l (sub w r) with
          | none => rw [er] at e0; cases e0
          | some a' =>
            obtain ⟨k, k1, k2, k3, k4, k5⟩ := rmv_sub er
            refine .inr ⟨k, k1, k2, k3, k4, by rw [← k5]; have := rmv_len er; omega, fun j hj => ?_⟩
            have := each j hj
            rw [eqv, er] at this
            rw [← k5]
            exact this
      match m, hm with
      | 0, hm =>
        have : ((((linesOf a b o).filter (canJ p)).map fun l => games a b o g (flip p l)).sum) ≤ ([].map fun k : Nat => (0 : Nat)).sum := inj_sum (v := fun _ => Ln0) _ _ (List.Pairwise.filter _ (linesOf_nodup a b o)) fun l hl => by
          rcases key l hl with h0 | ⟨k, _, _, _, _, h5, _⟩
          · exact .inl h0
          · omega
        simp at this
        omega
      | m + 1, hm =>
        have hsum : pF (outS w) (m + 1) (full w.length ^^^ r) (full w.length) = (((List.range w.length).filter fun k => !(full w.length ^^^ r).testBit k && within (needs w k) (full w.length ^^^ r)).map fun k => pF (outS w) m ((full w.length ^^^ r) ^^^ 2 ^ k) (full w.length)).sum := by
          rw [pF, outS, List.map_map]
          rfl
        rw [hsum]
        refine inj_sum (v := fun k => gD w Ln0 k) _ _ (List.Pairwise.filter _ (linesOf_nodup a b o)) fun l hl => ?_
        rcases key l hl with h0 | ⟨k, k1, k2, k3, k4, k5, k6⟩
        · exact .inl h0
        · refine .inr ⟨k, ?_, k3, ?_⟩
          · rw [List.mem_filter, List.mem_range]
            refine ⟨k1, ?_⟩
            rw [Bool.and_eq_true, within_iff]
            refine ⟨by rw [Nat.testBit_xor, full_bit, k2]; simp [k1], fun i hi => ?_⟩
            unfold needs at hi
            rw [needsOf_bit, Bool.and_eq_true, decide_eq_true_eq] at hi
            rw [Nat.testBit_xor, full_bit]
            cases hb : r.testBit i
            · simp; omega
            · have := k4 i hi.1 hb
              rw [hi.2] at this; cases this
          · have e : (full w.length ^^^ r) ^^^ 2 ^ k = full w.length ^^^ (r ^^^ 2 ^ k) := Nat.xor_assoc _ _ _
            rw [e]
            obtain ⟨h1, h2⟩ := List.mem_filter.1 hl
            refine games_paths m (flip p l) (r ^^^ 2 ^ k) (posOk_flip hp h1) (by omega) (fun i hi => ?_) k6
            rw [xor_bit] at hi
            by_cases e2 : k = i
            · omega
            · simp [e2] at hi
              exact hr i hi
end Peg
namespace Peg
def pc (n t : Nat) : Nat := (idx n t).length
def wt (w : List Ln) (t : Nat) : Nat := pB (innS w) (pc w.length t) 0 t
def ordersOf (w : List Ln) : Nat := wt w (full w.length)
theorem idx_xor {n t k : Nat} (hk : k < n) (hb : t.testBit k = true) : pc n t = pc n (t ^^^ 2 ^ k) + 1 := by
  unfold pc idx
  have key : ∀ m, ((List.range m).filter fun i => t.testBit i).length = ((List.range m).filter fun i => (t ^^^ 2 ^ k).testBit i).length + if k < m then 1 else 0 := by
    intro m
    induction m with
    | zero => simp
    | succ m ih =>
      rw [List.range_succ, List.filter_append, List.filter_append, List.length_append, List.length_append, ih]
      have e : (t ^^^ 2 ^ k).testBit m = (t.testBit m ^^ decide (k = m)) := xor_bit t k m
      by_cases h1 : k = m
      · subst h1
        simp [hb, e]
      · cases hm : t.testBit m
        · simp [hm, e, h1]
          by_cases h2 : k < m
          · simp [h2, show k < m + 1 from by omega]
          · simp [h2, show ¬ k < m + 1 from by omega]
        · simp [hm, e, h1]
          by_cases h2 : k < m
          · simp [h2, show k < m + 1 from by omega]
          · simp [h2, show ¬ k < m + 1 from by omega]
  have := key n
  rw [if_pos hk] at this
  exact this
theorem pc_zero {n t : Nat} (ht : t < 2 ^ n) (h : pc n t = 0) : t = 0 := by
  apply Nat.eq_of_testBit_eq
  intro i
  rw [Nat.zero_testBit]
  cases hb : t.testBit i
  · rfl
  · have hi : i < n := by
      rcases Nat.lt_or_ge i n with h1 | h1
      · exact h1
      · have := Nat.testBit_lt_two_pow (Nat.lt_of_lt_of_le ht (Nat.pow_le_pow_right (by decide) h1))
        rw [this] at hb; cases hb
    have hm : i ∈ idx n t := by
      simp only [idx, List.mem_filter, List.mem_range]
      exact ⟨hi, hb⟩
    have : idx n t = [] := List.length_eq_zero_iff.1 h
    rw [this] at hm; cases hm
theorem wt_zero (w : List Ln) : wt w 0 = 1 := by
  unfold wt pc
  have : idx w.length 0 = [] := by
    unfold idx
    rw [List.filter_eq_nil_iff]
    intro k _
    simp
  rw [this]
  simp [pB]
/-- the jumps that can be the last one of a set -/
def lastOk (w : List Ln) (t k : Nat) : Bool := t.testBit k && within (needs w k) t
def wtTo (w : List Ln) (t m : Nat) : Nat := (((List.range m).filter (lastOk w t)).map fun k => wt w (t ^^^ 2 ^ k)).sum
theorem wt_step {w : List Ln} {t : Nat} (ht : t < 2 ^ w.length) (h0 : t ≠ 0) : wt w t = wtTo w t w.length := by
  unfold wt wtTo
  cases hp : pc w.length t with
  | zero => exact absurd (pc_zero ht hp) h0
  | succ m =>
    rw [pB, innS, List.map_map]
    congr 1
    refine List.map_congr_left fun k hk => ?_
    obtain ⟨h1, h2⟩ := List.mem_filter.1 hk
    rw [List.mem_range] at h1
    rw [Bool.and_eq_true] at h2
    have := idx_xor h1 h2.1
    show pB (innS w) m 0 (t ^^^ 2 ^ k) = wt w (t ^^^ 2 ^ k)
    unfold wt
    rw [show pc w.length (t ^^^ 2 ^ k) = m from by omega]
theorem wtTo_succ (w : List Ln) (t m : Nat) : wtTo w t (m + 1) = wtTo w t m + if lastOk w t m = true then wt w (t ^^^ 2 ^ m) else 0 := by
  unfold wtTo
  rw [List.range_succ, List.filter_append, List.map_append, List.sum_append]
  cases h : lastOk w t m <;> simp [h]
theorem pB_le (w : List Ln) : ∀ (m s t : Nat), pB (innS w) m s t ≤ w.length ^ m
  | 0, s, t => by
    rw [pB]
    split <;> simp
  | m + 1, s, t => by
    rw [pB]
    have key : ∀ (L : List Nat), (L.map fun u => pB (innS w) m s u).sum ≤ L.length * w.length ^ m := by
      intro L
      induction L with
      | nil => simp
      | cons x L ih =>
        have := pB_le w m s x
        rw [List.map_cons, List.sum_cons, List.length_cons, Nat.add_mul, Nat.one_mul]
        omega
    refine Nat.le_trans (key _) ?_
    rw [Nat.pow_succ, Nat.mul_comm]
    refine Nat.mul_le_mul_left _ ?_
    unfold innS
    rw [List.length_map]
    exact Nat.le_trans (List.length_filter_le _ _) (by simp)
theorem pc_le (n t : Nat) : pc n t ≤ n := by
  unfold pc idx
  exact Nat.le_trans (List.length_filter_le _ _) (by simp)
theorem wt_le {w : List Ln} (hw : w.length ≤ 10) (t : Nat) : wt w t ≤ 10000000000 := by
  unfold wt
  refine Nat.le_trans (pB_le w _ _ _) ?_
  have h1 : w.length ^ pc w.length t ≤ 10 ^ pc w.length t := Nat.pow_le_pow_left hw _
  have h2 : 10 ^ pc w.length t ≤ 10 ^ 10 := Nat.pow_le_pow_right (by decide) (Nat.le_trans (pc_le _ _) hw)
  exact Nat.le_trans h1 (Nat.le_trans h2 (by decide))
theorem sub_full (w : List Ln) : sub w (full w.length) = w := by
  unfold sub idx
  have : (List.range w.length).filter (fun k => (full w.length).testBit k) = List.range w.length := by
    rw [List.filter_eq_self]
    intro k hk
    rw [full_bit]
    simpa using hk
  rw [this]
  exact range_getD w Ln0
/-- games that are one up to order are no more than the orders of one of them -/
theorem games_orders {a b o g p : Int} {w : List Ln} (hp : posOk a b o p = true) (h : ∀ i, i < games a b o g p → eqv w (gameAt a b o p g i) = true) : games a b o g p ≤ ordersOf w := by
  have h1 := games_paths (w := w) w.length p (full w.length) hp (by rw [sub_full]) (fun i hi => by rw [full_bit] at hi; simpa using hi) (fun i hi => by rw [sub_full]; exact h i hi)
  rw [Nat.xor_self] at h1
  refine Nat.le_trans h1 ?_
  rw [pF_pB _ _ (edges_count w)]
  unfold ordersOf wt
  have : pc w.length (full w.length) = w.length := by
    have := congrArg List.length (sub_full w)
    simpa [sub, pc] using this
  rw [this]
  exact Nat.le_refl _
end Peg
