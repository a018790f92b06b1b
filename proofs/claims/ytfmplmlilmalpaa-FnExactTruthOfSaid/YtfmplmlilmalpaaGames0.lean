/- Games0: the number of games to a goal, plain: by jumps, with a bound; the game at an index; no program in sight. No condition. -/
import Derived.Test.YtfmplmlilmalpaaWay1
set_option linter.unusedVariables false
set_option linter.unusedSimpArgs false
namespace Peg
/-- the number of games from p to g of at most f jumps -/
def gm (ls : List Ln) (g : Int) : Nat → Int → Nat
  | 0, p => if p = g then 1 else 0
  | f + 1, p => if p = g then 1 else ((ls.filter (canJ p)).map fun l => gm ls g f (flip p l)).sum
def games (a b o g p : Int) : Nat := gm (linesOf a b o) g (pegs p) p
theorem pegs_two {p : Int} {l : Ln} (hl : LnOk l) (h : canJ p l = true) : 2 ≤ pegs p := by
  have h1 := pegs_jump hl h
  have h2 : 1 ≤ pegs (flip p l) := by
    rw [pegs_eq]
    refine List.countP_pos_iff.2 ⟨l.t.toNat, ?_, ?_⟩
    · unfold LnOk at hl; rw [List.mem_range]; omega
    · obtain ⟨n1, n2, n3⟩ := lnOk_nat hl
      simp only [canJ, tb_nat, Bool.and_eq_true, Bool.not_eq_true'] at h
      rw [flip_tb, h.2]
      simp
  omega
theorem games_goal (a b o g : Int) : games a b o g g = 1 := by
  unfold games
  cases pegs g <;> simp [gm]
theorem games_step {a b o g p : Int} (h : p ≠ g) : games a b o g p = (((linesOf a b o).filter (canJ p)).map fun l => games a b o g (flip p l)).sum := by
  unfold games
  cases hp : pegs p with
  | zero =>
    have : (linesOf a b o).filter (canJ p) = [] := by
      rw [List.filter_eq_nil_iff]
      intro l hl hc
      have := pegs_two (linesOf_in hl).1 hc
      omega
    rw [this]
    simp [gm, h]
  | succ f =>
    rw [gm, if_neg h]
    congr 1
    refine List.map_congr_left fun l hl => ?_
    obtain ⟨h1, h2⟩ := List.mem_filter.1 hl
    have := pegs_jump (linesOf_in h1).1 h2
    rw [show pegs (flip p l) = f from by omega]
theorem gm_zero {ls : List Ln} {g p : Int} (h : ¬ Steps ls false p g) : ∀ f, gm ls g f p = 0
  | 0 => by
    rw [gm, if_neg]
    rintro rfl
    exact h (.refl _)
  | f + 1 => by
    rw [gm, if_neg (by rintro rfl; exact h (.refl _))]
    have key : ∀ L : List Ln, (∀ l ∈ L, l ∈ ls.filter (canJ p)) → (L.map fun l => gm ls g f (flip p l)).sum = 0 := by
      intro L
      induction L with
      | nil => intro _; rfl
      | cons l L ih =>
        intro hL
        obtain ⟨h1, h2⟩ := List.mem_filter.1 (hL l (by simp))
        rw [List.map_cons, List.sum_cons, ih fun m hm => hL m (by simp [hm]), gm_zero (fun h3 => h (.step h1 h2 h3)) f]
    exact key _ fun _ hl => hl
/-! how many jumps there are -/
theorem linesFrom_f {a b o k : Int} {l : Ln} (h : l ∈ linesFrom a b o k) : l.f = k := by
  simp only [linesFrom, linesPart, List.mem_filterMap] at h
  obtain ⟨q, _, hq⟩ := h
  unfold lineTo at hq
  split at hq
  · split at hq
    · simp only [Option.some.injEq] at hq
      subst hq; rfl
    · cases hq
  · cases hq
theorem holesTo_mono (p : Int) : ∀ (d n : Nat), (holesTo p n).length ≤ (holesTo p (n + d)).length
  | 0, n => Nat.le_refl _
  | d + 1, n => by
    refine Nat.le_trans (holesTo_mono p d n) ?_
    rw [← Nat.add_assoc]
    cases h : tb p ((n + d : Nat) : Int)
    · rw [holesTo_succ_no _ _ h]; exact Nat.le_refl _
    · rw [holesTo_succ_yes _ _ h]; simp
theorem jumps_part {a b o p : Int} {c : Nat} (hc : ∀ k ∈ holesOf a b o, (linesFrom a b o k).length ≤ c) (hh : ∀ n, ∀ k ∈ holesTo o n, n ≤ (a * b).toNat → k ∈ holesOf a b o) :
    ∀ n, n ≤ (a * b).toNat → (((holesTo o n).flatMap (linesFrom a b o)).filter (canJ p)).length ≤ c * (holesTo p n).length
  | 0, _ => by simp [holesTo]
  | n + 1, hn => by
    have ih := jumps_part (p := p) hc hh n (by omega)
    have hm : (holesTo p n).length ≤ (holesTo p (n + 1)).length := holesTo_mono p 1 n
    cases ho : tb o (n : Int)
    · rw [holesTo_succ_no _ _ ho]
      exact Nat.le_trans ih (Nat.mul_le_mul_left c hm)
    · have hk := hc n (hh (n + 1) n (by rw [holesTo_succ_yes _ _ ho]; simp) hn)
      rw [holesTo_succ_yes _ _ ho, List.flatMap_append, List.filter_append, List.length_append]
      cases hp : tb p (n : Int)
      · rw [holesTo_succ_no _ _ hp]
        have : ((([(n : Int)] : List Int).flatMap (linesFrom a b o)).filter (canJ p)) = [] := by
          rw [List.filter_eq_nil_iff]
          intro l hl
          simp only [List.flatMap_cons, List.flatMap_nil, List.append_nil] at hl
          simp [canJ, linesFrom_f hl, hp]
        rw [this]
        simpa using ih
      · rw [holesTo_succ_yes _ _ hp]
        have h1 : ((([(n : Int)] : List Int).flatMap (linesFrom a b o)).filter (canJ p)).length ≤ c := by
          refine Nat.le_trans (List.length_filter_le _ _) ?_
          simpa using hk
        rw [List.length_append, Nat.mul_add]
        simp only [List.length_singleton, Nat.mul_one]
        omega
theorem jumps_le {a b o p : Int} {c : Nat} (hc : ∀ k ∈ holesOf a b o, (linesFrom a b o k).length ≤ c) (hb : boardOk a b o = true) : ((linesOf a b o).filter (canJ p)).length ≤ c * pegs p := by
  have ha := area (boardOk_sides hb).1 (boardOk_sides hb).2
  have h1 := jumps_part (p := p) hc (fun n k hk hn => by
    rw [holesOf, if_pos hb]
    simp only [holesTo, List.mem_map, List.mem_filter, List.mem_range] at hk ⊢
    obtain ⟨i, ⟨h1, h2⟩, h3⟩ := hk
    exact ⟨i, ⟨by omega, h2⟩, h3⟩) _ (Nat.le_refl _)
  have h2 : (holesTo p (a * b).toNat).length ≤ pegs p := by
    have := holesTo_mono p (49 - (a * b).toNat) (a * b).toNat
    rwa [show (a * b).toNat + (49 - (a * b).toNat) = 49 from by omega] at this
  rw [linesOf, holesOf, if_pos hb]
  exact Nat.le_trans h1 (Nat.mul_le_mul_left c h2)
/-- games of a board whose holes have at most c lines each -/
def gb (c : Nat) : Nat → Nat
  | 0 => 1
  | 1 => 1
  | k + 2 => c * (k + 2) * gb c (k + 1)
theorem sum_le {α : Type} (f : α → Nat) (B : Nat) : ∀ (l : List α), (∀ x ∈ l, f x ≤ B) → (l.map f).sum ≤ l.length * B
  | [], _ => by simp
  | x :: l, h => by
    have h1 := h x (by simp)
    have h2 := sum_le f B l fun y hy => h y (by simp [hy])
    simp only [List.map_cons, List.sum_cons, List.length_cons, Nat.add_mul]
    omega
theorem gb_pos {c : Nat} (hc : 1 ≤ c) : ∀ k, 1 ≤ gb c k
  | 0 => Nat.le_refl _
  | 1 => Nat.le_refl _
  | k + 2 => by
    rw [gb]
    exact Nat.mul_pos (Nat.mul_pos hc (by omega)) (gb_pos hc (k + 1))
theorem gb_mono {c : Nat} (hc : 1 ≤ c) (k : Nat) : gb c k ≤ gb c (k + 1) := by
  cases k with
  | zero => exact Nat.le_refl _
  | succ k =>
    rw [gb]
    exact Nat.le_mul_of_pos_left _ (Nat.mul_pos hc (by omega))
theorem gb_le {c : Nat} (hc : 1 ≤ c) (k : Nat) : ∀ d, gb c k ≤ gb c (k + d)
  | 0 => Nat.le_refl _
  | d + 1 => Nat.le_trans (gb_le hc k d) (gb_mono hc (k + d))
theorem games_le {a b o g : Int} {c : Nat} (hc1 : 1 ≤ c) (hc : ∀ k ∈ holesOf a b o, (linesFrom a b o k).length ≤ c) (hb : boardOk a b o = true) : ∀ (k : Nat) (p : Int), pegs p = k → games a b o g p ≤ gb c k
  | k, p, hk => by
    by_cases hg : p = g
    · subst hg; rw [games_goal]; exact gb_pos hc1 _
    · rw [games_step hg]
      match k, hk with
      | 0, hk | 1, hk =>
        have : (linesOf a b o).filter (canJ p) = [] := by
          rw [List.filter_eq_nil_iff]
          intro l hl hcj
          have := pegs_two (linesOf_in hl).1 hcj
          omega
        rw [this]
        simp
      | k + 2, hk =>
        refine Nat.le_trans (sum_le _ (gb c (k + 1)) _ fun l hl => ?_) ?_
        · obtain ⟨h1, h2⟩ := List.mem_filter.1 hl
          have h3 := pegs_jump (linesOf_in h1).1 h2
          exact games_le hc1 hc hb (k + 1) _ (by omega)
        · rw [gb]
          refine Nat.mul_le_mul_right _ ?_
          have := jumps_le (p := p) hc hb
          rwa [hk] at this
theorem lineTo_way {k way : Int} {o : Int} {l : Ln} (h : lineTo 4 4 o k way = some l) : 0 ≤ k % 4 + 2 * dx way ∧ k % 4 + 2 * dx way ≤ 3 ∧ 0 ≤ k / 4 + 2 * dy way ∧ k / 4 + 2 * dy way ≤ 3 := by
  unfold lineTo at h
  split at h
  · rename_i h1
    split at h
    · rename_i h2
      simp only [stepTo] at h1
      split at h1
      · split at h1
        · split at h1
          · rename_i x1 y1 t1
            have hv : stepTo 4 4 o k way = (k / 4 + dy way) * 4 + (k % 4 + dx way) := by
              simp only [stepTo]
              rw [if_pos x1, if_pos y1, if_pos t1]
            rw [hv] at h2
            simp only [stepTo] at h2
            split at h2
            · split at h2
              · rename_i x2 y2
                rw [inR_iff] at x1 y1 x2 y2
                generalize dx way = u at *
                generalize dy way = v at *
                omega
              · omega
            · omega
          · omega
        · omega
      · omega
    · cases h
  · cases h
theorem linesFrom_44 (o k : Int) : (linesFrom 4 4 o k).length ≤ 2 := by
  have e : linesFrom 4 4 o k = (lineTo 4 4 o k 0).toList ++ (lineTo 4 4 o k 1).toList ++ (lineTo 4 4 o k 2).toList ++ (lineTo 4 4 o k 3).toList := by
    unfold linesFrom
    rw [linesPart_succ, linesPart_succ, linesPart_succ, linesPart_succ]
    simp [linesPart]
  rw [e]
  have h02 : lineTo 4 4 o k 0 = none ∨ lineTo 4 4 o k 2 = none := by
    cases h0 : lineTo 4 4 o k 0 with
    | none => exact Or.inl rfl
    | some l =>
      cases h2 : lineTo 4 4 o k 2 with
      | none => exact Or.inr rfl
      | some m =>
        have a1 := lineTo_way h0
        have a2 := lineTo_way h2
        simp [dx, dy] at a1 a2
        omega
  have h13 : lineTo 4 4 o k 1 = none ∨ lineTo 4 4 o k 3 = none := by
    cases h0 : lineTo 4 4 o k 1 with
    | none => exact Or.inl rfl
    | some l =>
      cases h2 : lineTo 4 4 o k 3 with
      | none => exact Or.inr rfl
      | some m =>
        have a1 := lineTo_way h0
        have a2 := lineTo_way h2
        simp [dx, dy] at a1 a2
        omega
  have hl : ∀ x : Option Ln, x.toList.length ≤ 1 := fun x => by cases x <;> simp
  simp only [List.length_append]
  have l0 := hl (lineTo 4 4 o k 0)
  have l1 := hl (lineTo 4 4 o k 1)
  have l2 := hl (lineTo 4 4 o k 2)
  have l3 := hl (lineTo 4 4 o k 3)
  rcases h02 with h | h <;> rcases h13 with h' | h' <;> simp only [h, h', Option.toList_none, List.length_nil] <;> omega
/-- pegs on a board of n cells -/
theorem pegs_cells {p : Int} {n : Nat} (hn : n ≤ 49) (h0 : 0 ≤ p) (hp : p < pw n) : pegs p = (holesTo p n).length := by
  have key : ∀ d, n + d ≤ 49 → (holesTo p (n + d)).length = (holesTo p n).length := by
    intro d
    induction d with
    | zero => intro _; rfl
    | succ d ih =>
      intro hd
      rw [← Nat.add_assoc, holesTo_succ_no, ih (by omega)]
      rw [tb_nat]
      refine Nat.testBit_lt_two_pow ?_
      have h1 : p.toNat < 2 ^ n := by
        have : pw (n : Int) = ((2 ^ n : Nat) : Int) := by simp [pw]
        omega
      exact Nat.lt_of_lt_of_le h1 (Nat.pow_le_pow_right (by decide) (by simp only [Int.toNat_natCast]; omega))
  have := key (49 - n) (by omega)
  rw [show n + (49 - n) = 49 from by omega] at this
  exact this
theorem full_no {p : Int} {n : Nat} (h : (holesTo p n).length = n) : ∀ i, i < n → tb p (i : Int) = true := by
  intro i hi
  have h1 : (List.range n).filter (fun i : Nat => tb p (i : Int)) = List.range n := by
    refine List.filter_eq_self.2 ?_
    have h2 : ((List.range n).filter (fun i : Nat => tb p (i : Int))).length = (List.range n).length := by
      unfold holesTo at h; rw [List.length_map] at h; simpa using h
    exact List.length_filter_eq_length_iff.1 h2
  have := List.filter_eq_self.1 h1 i (List.mem_range.2 hi)
  simpa using this
/-- the number of games of a small board fits 62 bits -/
theorem games_fits {a b o g p : Int} (hs : isSmall a b o = true) (hp : posOk a b o p = true) : games a b o g p ≤ 9000000000000000000 := by
  obtain ⟨hb, ha1, ha2, _, _⟩ := small_N hs
  obtain ⟨hsa, hsb⟩ := boardOk_sides hb
  have hpN := pos_N hp
  have hpw : p < pw ((a * b).toNat : Int) := by
    rw [show (((a * b).toNat : Nat) : Int) = a * b from by omega, pwN (by omega)]; exact hpN.2
  have hpc := pegs_cells (n := (a * b).toNat) (by omega) hpN.1 hpw
  have hle : pegs p ≤ (a * b).toNat := by rw [hpc]; exact holesTo_length _ _
  by_cases h16 : a * b = 16
  · have h44 : a = 4 ∧ b = 4 := by
      rw [inR_iff] at hsa hsb
      have : a = 1 ∨ a = 2 ∨ a = 3 ∨ a = 4 ∨ a = 5 ∨ a = 6 ∨ a = 7 := by omega
      rcases this with rfl | rfl | rfl | rfl | rfl | rfl | rfl <;> omega
    obtain ⟨rfl, rfl⟩ := h44
    refine Nat.le_trans (games_le (c := 2) (by decide) (fun k _ => linesFrom_44 o k) hb _ p rfl) ?_
    have h1 := gb_le (c := 2) (by decide) (pegs p) (16 - pegs p)
    rw [show pegs p + (16 - pegs p) = 16 from by omega] at h1
    refine Nat.le_trans h1 ?_
    decide
  · have hc : ∀ k ∈ holesOf a b o, (linesFrom a b o k).length ≤ 4 := fun k _ => linesPart_length a b o k 4
    by_cases hf : pegs p ≤ 14
    · refine Nat.le_trans (games_le (c := 4) (by decide) hc hb _ p rfl) ?_
      have h1 := gb_le (c := 4) (by decide) (pegs p) (14 - pegs p)
      rw [show pegs p + (14 - pegs p) = 14 from by omega] at h1
      refine Nat.le_trans h1 ?_
      decide
    · have hN : (a * b).toNat = 15 := by omega
      have hno : (linesOf a b o).filter (canJ p) = [] := by
        rw [List.filter_eq_nil_iff]
        intro l hl hcj
        have hin := linesOf_in hl
        have hfull := full_no (p := p) (n := 15) (by rw [← hN, ← hpc]; omega) l.t.toNat (by
          have := hin.2
          omega)
        simp only [canJ, tb_nat, Bool.and_eq_true, Bool.not_eq_true'] at hcj
        rw [tb_nat] at hfull
        simp only [Int.toNat_natCast] at hfull
        rw [hfull] at hcj
        cases hcj.2
      by_cases hg : p = g
      · subst hg; rw [games_goal]; omega
      · rw [games_step hg, hno]; simp
end Peg
