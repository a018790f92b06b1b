/- ClT: several texts in one (Truth0, Claims0, Truth). Conditions: those that each theorem names. -/
import Derived.Test.YtfmplmlilmalpaaGreatClA
import Derived.Test.YtfmplmlilmalpaaGreatClO
import Derived.Test.YtfmplmlilmalpaaGreatCheckZ
import Derived.Test.YtfmplmlilmalpaaGreatFwM2Z
import Derived.Test.YtfmplmlilmalpaaGreatClL
import Derived.Test.YtfmplmlilmalpaaGreatClV
set_option linter.unusedVariables false
set_option linter.unusedSimpArgs false
namespace Peg
def truthBody (a b o s g : Int) (k n : Int) : Bool :=
  if k = 1 then reach a b o s g false
  else if k = 2 then !reach a b o s g false
  else if k = 3 then decide (fewestLeft a b o s ≤ n)
  else decide (0 ≤ fewestSweeps a b o s g) && decide (fewestSweeps a b o s g ≤ n)
def truthOf (a b o s g : Int) (k n : Int) (j : Nat) : Bool := puzzleOk a b o s g && (claimOk k n j && truthBody a b o s g k n)
end Peg
namespace Peg
theorem play_steps {a b o : Int} : ∀ (J : List Ln) (p q : Int), playTo false a b o p J = some q → Steps (linesOf a b o) false p q
  | [], p, q, h => by simp only [playTo, Option.some.injEq] at h; subst h; exact .refl _
  | l :: J, p, q, h => by
    simp only [playTo] at h
    split at h
    · rename_i hd
      obtain ⟨h1, h2, h3⟩ := doOk_pos hd
      exact .step (isLn_mem h2) h3 (play_steps J _ q h)
    · cases h
/-! weights -/
def sumH (W : List Int) (h : Nat → Bool) : Nat → Int
  | 0 => 0
  | k + 1 => sumH W h k + if h k = true then gD W 0 k else 0
theorem sumH_eq (W : List Int) (p : Int) : ∀ n, sumTo W p n = sumH W (fun i => p.toNat.testBit i) n
  | 0 => rfl
  | n + 1 => by
    rw [sumTo, sumH, sumH_eq W p n]
    rfl
theorem sumH_upd (W : List Int) (h : Nat → Bool) (k : Nat) (b : Bool) : ∀ n, (n ≤ k → sumH W (fun i => if i = k then b else h i) n = sumH W h n) ∧ (k < n → sumH W (fun i => if i = k then b else h i) n + (if h k = true then gD W 0 k else 0) = sumH W h n + (if b = true then gD W 0 k else 0))
  | 0 => ⟨fun _ => rfl, fun h => by omega⟩
  | n + 1 => by
    obtain ⟨h1, h2⟩ := sumH_upd W h k b n
    refine ⟨fun hn => ?_, fun hn => ?_⟩
    · rw [sumH, sumH, h1 (by omega), if_neg (show ¬ n = k by omega)]
    · rw [sumH, sumH]
      by_cases hk : n = k
      · subst hk
        rw [h1 (Nat.le_refl _)]
        simp only [if_true]
        omega
      · have := h2 (by omega)
        rw [if_neg hk]
        omega
theorem sum_jump {W : List Int} {p : Int} {l : Ln} {n : Nat} (hl : LnOk l) (h : canJ p l = true) (hf : l.f.toNat < n) (ho : l.o.toNat < n) (ht : l.t.toNat < n) :
    sumTo W (flip p l) n = sumTo W p n - gD W 0 l.f.toNat - gD W 0 l.o.toNat + gD W 0 l.t.toNat := by
  obtain ⟨n1, n2, n3⟩ := lnOk_nat hl
  simp only [canJ, tb_nat, Bool.and_eq_true, Bool.not_eq_true'] at h
  obtain ⟨⟨h1, h2⟩, h3⟩ := h
  rw [sumH_eq, sumH_eq]
  have e : (fun i : Nat => (flip p l).toNat.testBit i) = fun i => if i = l.t.toNat then true else (if i = l.o.toNat then false else (if i = l.f.toNat then false else p.toNat.testBit i)) := by
    funext i
    rw [flip_tb]
    by_cases e3 : i = l.t.toNat
    · subst e3; simp [h3, n2, n3]
    by_cases e2 : i = l.o.toNat
    · subst e2; simp [h2, n1, e3]
    by_cases e1 : i = l.f.toNat
    · subst e1; simp [h1, e2, e3]
    · simp [e1, e2, e3, Ne.symm e1, Ne.symm e2, Ne.symm e3]
  rw [e]
  have u1 := (sumH_upd W (fun i => p.toNat.testBit i) l.f.toNat false n).2 hf
  have u2 := (sumH_upd W (fun i => if i = l.f.toNat then false else p.toNat.testBit i) l.o.toNat false n).2 ho
  have u3 := (sumH_upd W (fun i => if i = l.o.toNat then false else (if i = l.f.toNat then false else p.toNat.testBit i)) l.t.toNat true n).2 ht
  have m1 : ¬ l.o.toNat = l.f.toNat := fun h => n1 h.symm
  have m2 : ¬ l.t.toNat = l.f.toNat := fun h => n2 h.symm
  have m3 : ¬ l.t.toNat = l.o.toNat := fun h => n3 h.symm
  simp only [h1, if_true, Bool.false_eq_true, if_false] at u1
  simp only [if_neg m1, h2, if_true, Bool.false_eq_true, if_false] at u2
  simp only [if_neg m3, if_neg m2, h3, if_true, Bool.false_eq_true, if_false] at u3
  omega
theorem falling_line {a b o : Int} {W : List Int} (h : falling a b o W = true) {l : Ln} (hl : l ∈ linesOf a b o) : gD W 0 l.t.toNat ≤ gD W 0 l.f.toNat + gD W 0 l.o.toNat := by
  simp only [falling, broken, Bool.and_eq_true, Bool.not_eq_true'] at h
  obtain ⟨h1, h2⟩ := h
  rw [h1, Bool.true_and, List.any_eq_false] at h2
  have := h2 l hl
  simp only [brokenAt, decide_eq_true_eq] at this
  omega
theorem sum_steps {a b o : Int} {W : List Int} (h : falling a b o W = true) {p q : Int} (hs : Steps (linesOf a b o) false p q) : sumTo W q W.length ≤ sumTo W p W.length := by
  have hw : weightsOk a b o W = true := by simp only [falling, Bool.and_eq_true] at h; exact h.1
  obtain ⟨hb, hl, _, _⟩ := weightsOk_bd hw
  induction hs with
  | refl p => exact Int.le_refl _
  | step h1 h2 _ ih =>
    refine Int.le_trans ih ?_
    have hin := linesOf_in h1
    have hok := hin.1
    unfold LnIn LnOk at hin
    rw [sum_jump hok h2 (by omega) (by omega) (by omega)]
    have := falling_line h h1
    omega
theorem proof_not {a b o s g : Int} {W : List Int} (h : isProof a b o W s g = true) : reach a b o s g false = false := by
  cases hr : reach a b o s g false
  · rfl
  · exfalso
    obtain ⟨r1, r2, r3⟩ := reach_parts hr
    simp only [isProof, Bool.and_eq_true, decide_eq_true_eq] at h
    obtain ⟨h1, _, _, h4⟩ := h
    have hw : weightsOk a b o W = true := by simp only [falling, Bool.and_eq_true] at h1; exact h1.1
    have h5 := sum_steps h1 ((hasB_iff r1 r2).1 hr)
    simp only [sumOf, hw, r2, r3, if_true] at h4
    omega
/-! keys -/
def par (h : Nat → Bool) (c : Nat → Nat) (i : Nat) : Nat → Bool
  | 0 => false
  | k + 1 => par h c i k ^^ (h k && decide (c k = i))
theorem par_flip (h f : Nat → Bool) (c : Nat → Nat) (i : Nat) : ∀ n, par (fun k => h k ^^ f k) c i n = (par h c i n ^^ par f c i n)
  | 0 => rfl
  | n + 1 => by
    rw [par, par, par, par_flip h f c i n]
    cases par h c i n <;> cases par f c i n <;> cases h n <;> cases f n <;> simp
theorem par_one (c : Nat → Nat) (i k : Nat) : ∀ n, par (fun j => decide (k = j)) c i n = (decide (k < n) && decide (c k = i))
  | 0 => by simp [par]
  | n + 1 => by
    rw [par, par_one c i k n]
    by_cases hk : k = n
    · subst hk; simp
    · by_cases h2 : k < n
      · simp [hk, h2, show k < n + 1 from by omega]
      · simp [hk, h2, show ¬ k < n + 1 from by omega]
def c1 (a : Int) (k : Nat) : Nat := (((k : Int) % a + (k : Int) / a) % 3).toNat
def c2 (a : Int) (k : Nat) : Nat := (3 + ((k : Int) % a + 2 * ((k : Int) / a)) % 3).toNat
def bI (x : Bool) : Int := if x then 1 else 0
theorem flipAt_at {c : List Int} {x : Bool} {i j : Nat} (hc : c.length = 6) (hi : i < 6) (hx : gD c 0 j = bI x) : gD (flipAt c i) 0 j = bI (x ^^ decide (i = j)) := by
  unfold flipAt
  rw [gD_setI _ _ _ _ (by omega)]
  by_cases h : j = i
  · subst h
    rw [if_pos rfl, hx]
    cases x <;> simp [bI]
  · rw [if_neg h, hx]
    simp [Ne.symm h]
theorem cls_par (a p : Int) (j : Nat) : ∀ n, (cls a (holesTo p n)).length = 6 ∧ gD (cls a (holesTo p n)) 0 j = bI (par (fun i => p.toNat.testBit i) (c1 a) j n ^^ par (fun i => p.toNat.testBit i) (c2 a) j n) ∨ 6 ≤ j ∧ (cls a (holesTo p n)).length = 6
  | 0 => by
    by_cases hj : 6 ≤ j
    · exact Or.inr ⟨hj, rfl⟩
    · refine Or.inl ⟨rfl, ?_⟩
      have : j = 0 ∨ j = 1 ∨ j = 2 ∨ j = 3 ∨ j = 4 ∨ j = 5 := by omega
      rcases this with rfl | rfl | rfl | rfl | rfl | rfl <;> rfl
  | n + 1 => by
    rcases cls_par a p j n with ⟨h1, h2⟩ | ⟨h1, h2⟩
    · refine Or.inl ?_
      rw [par, par]
      cases hp : tb p (n : Int)
      · rw [holesTo_succ_no _ _ hp]
        rw [tb_nat, Int.toNat_natCast] at hp
        rw [hp]
        simpa using ⟨h1, h2⟩
      · rw [holesTo_succ_yes _ _ hp, cls_snoc]
        rw [tb_nat, Int.toNat_natCast] at hp
        rw [hp]
        have m1 : ((n : Int) % a + (n : Int) / a) % 3 < 3 := by omega
        have e1 := flipAt_at (i := (((n : Int) % a + (n : Int) / a) % 3).toNat) (j := j) h1 (by omega) h2
        have e2 := flipAt_at (c := flipAt (cls a (holesTo p n)) (((n : Int) % a + (n : Int) / a) % 3).toNat) (i := (3 + ((n : Int) % a + 2 * ((n : Int) / a)) % 3).toNat) (j := j) (by simp [flipAt, h1]) (by omega) e1
        refine ⟨by simp [clsStep, flipAt, h1], ?_⟩
        unfold clsStep
        rw [e2]
        congr 1
        simp only [Bool.true_and]
        have g : ∀ x y u v : Bool, (((x ^^ y) ^^ u) ^^ v) = ((x ^^ u) ^^ (y ^^ v)) := by decide
        exact g _ _ _ _
    · refine Or.inr ⟨h1, ?_⟩
      cases hp : tb p (n : Int)
      · rw [holesTo_succ_no _ _ hp]; exact h2
      · rw [holesTo_succ_yes _ _ hp, cls_snoc]; simp [clsStep, flipAt, h2]
/-- each class of a kind has one of a line's three holes -/
theorem stepTo_xy {a b o k way : Int} (ha : 1 ≤ a) (h : 0 ≤ stepTo a b o k way) : stepTo a b o k way % a = k % a + dx way ∧ stepTo a b o k way / a = k / a + dy way := by
  unfold stepTo at *
  simp only at *
  split at h
  · rename_i hx
    rw [if_pos hx]
    split at h
    · rename_i hy
      rw [if_pos hy]
      split at h
      · rename_i ht
        rw [if_pos ht]
        rw [inR_iff] at hx
        constructor
        · rw [Int.add_comm, Int.add_mul_emod_self_right, Int.emod_eq_of_lt (by omega) (by omega)]
        · rw [Int.add_comm, Int.add_mul_ediv_right _ _ (by omega), Int.ediv_eq_zero_of_lt (by omega) (by omega)]
          omega
      · omega
    · omega
  · omega
theorem line_xy {a b o : Int} {l : Ln} (h : l ∈ linesOf a b o) : ∃ u v : Int, ((u = 1 ∨ u = -1) ∧ v = 0 ∨ u = 0 ∧ (v = 1 ∨ v = -1)) ∧ l.o % a = l.f % a + u ∧ l.o / a = l.f / a + v ∧ l.t % a = l.f % a + 2 * u ∧ l.t / a = l.f / a + 2 * v := by
  simp only [linesOf, List.mem_flatMap, linesFrom, linesPart, List.mem_filterMap, List.mem_range] at h
  obtain ⟨k, hk, q, hq, hx⟩ := h
  obtain ⟨hh, hb⟩ := holesOf_mem hk
  have ha := (inR_iff.1 (boardOk_sides hb).1).1
  unfold lineTo at hx
  split at hx
  · rename_i h1
    split at hx
    · rename_i h2
      simp only [Option.some.injEq] at hx
      subst hx
      have s1 := stepTo_xy ha h1
      have s2 := stepTo_xy ha h2
      refine ⟨dx q, dy q, ?_, s1.1, s1.2, ?_, ?_⟩
      · rcases (by omega : q = 0 ∨ q = 1 ∨ q = 2 ∨ q = 3) with rfl | rfl | rfl | rfl <;> simp [dx, dy]
      · simp only; rw [s2.1, s1.1]; omega
      · simp only; rw [s2.2, s1.2]; omega
    · cases hx
  · cases hx
theorem par_line (c : Nat → Nat) (i : Nat) (n u v t : Nat) (hu : u < n) (hv : v < n) (ht : t < n) (huv : u ≠ v) (hut : u ≠ t) (hvt : v ≠ t) : par (fun j => decide (u = j) || decide (v = j) || decide (t = j)) c i n = (decide (c u = i) ^^ decide (c v = i) ^^ decide (c t = i)) := by
  have e : (fun j : Nat => decide (u = j) || decide (v = j) || decide (t = j)) = fun j => (decide (u = j) ^^ decide (v = j)) ^^ decide (t = j) := by
    funext j
    by_cases h1 : u = j
    · subst h1; simp [Ne.symm huv, Ne.symm hut]
    · by_cases h2 : v = j
      · subst h2; simp [h1, Ne.symm hvt]
      · simp [h1, h2]
  rw [e, par_flip, par_flip, par_one, par_one, par_one]
  simp [hu, hv, ht, Bool.xor_assoc]
theorem par_jump {p : Int} {l : Ln} {c : Nat → Nat} {i : Nat} (hl : LnOk l) (hc : (decide (c l.f.toNat = i) ^^ decide (c l.o.toNat = i) ^^ decide (c l.t.toNat = i)) = true) :
    par (fun j => (flip p l).toNat.testBit j) c i 49 = !par (fun j => p.toNat.testBit j) c i 49 := by
  obtain ⟨n1, n2, n3⟩ := lnOk_nat hl
  have e : (fun j => (flip p l).toNat.testBit j) = fun j => p.toNat.testBit j ^^ (decide (l.f.toNat = j) || decide (l.o.toNat = j) || decide (l.t.toNat = j)) := by
    funext j; rw [flip_tb]
  unfold LnOk at hl
  rw [e, par_flip, par_line c i 49 _ _ _ (by omega) (by omega) (by omega) n1 n2 n3, hc]
  simp
theorem par_none (h : Nat → Bool) (c : Nat → Nat) (i : Nat) (hc : ∀ k, c k ≠ i) : ∀ n, par h c i n = false
  | 0 => rfl
  | n + 1 => by rw [par, par_none h c i hc n]; simp [hc n]
theorem line_classes {a b o : Int} {l : Ln} (h : l ∈ linesOf a b o) (i : Nat) (hi : i < 3) :
    (decide (c1 a l.f.toNat = i) ^^ decide (c1 a l.o.toNat = i) ^^ decide (c1 a l.t.toNat = i)) = true ∧ (decide (c2 a l.f.toNat = 3 + i) ^^ decide (c2 a l.o.toNat = 3 + i) ^^ decide (c2 a l.t.toNat = 3 + i)) = true := by
  obtain ⟨u, v, huv, h1, h2, h3, h4⟩ := line_xy h
  have hin := (linesOf_in h).1
  unfold LnOk at hin
  have f0 : ((l.f.toNat : Nat) : Int) = l.f := by omega
  have o0 : ((l.o.toNat : Nat) : Int) = l.o := by omega
  have t0 : ((l.t.toNat : Nat) : Int) = l.t := by omega
  unfold c1 c2
  rw [f0, o0, t0, h1, h2, h3, h4]
  generalize l.f % a = x
  generalize l.f / a = y
  have key : ∀ (A B C : Prop) [Decidable A] [Decidable B] [Decidable C], ((A ∧ ¬B ∧ ¬C) ∨ (¬A ∧ B ∧ ¬C) ∨ (¬A ∧ ¬B ∧ C)) → (decide A ^^ decide B ^^ decide C) = true := by
    intro A B C _ _ _ h
    rcases h with ⟨p1, p2, p3⟩ | ⟨p1, p2, p3⟩ | ⟨p1, p2, p3⟩ <;> simp [p1, p2, p3]
  rcases huv with ⟨hu | hu, hv⟩ | ⟨hu, hv | hv⟩ <;> subst hu hv <;> constructor <;> apply key <;> omega
theorem key_dif {x y : Bool} : dif (bI (!x)) (bI (!y)) = dif (bI x) (bI y) := by cases x <;> cases y <;> rfl
set_option maxRecDepth 10000 in
theorem key_jump {a b o p : Int} {l : Ln} (hl : l ∈ linesOf a b o) : keyL (cls a (holesTo (flip p l) 49)) = keyL (cls a (holesTo p 49)) := by
  have key : ∀ j, j < 6 → ∃ x : Bool, gD (cls a (holesTo p 49)) 0 j = bI x ∧ gD (cls a (holesTo (flip p l) 49)) 0 j = bI (!x) := by
    intro j hj
    rcases cls_par a p j 49 with ⟨_, h2⟩ | ⟨h1, _⟩
    · rcases cls_par a (flip p l) j 49 with ⟨_, h4⟩ | ⟨h3, _⟩
      · refine ⟨_, h2, ?_⟩
        rw [h4]
        congr 1
        by_cases h3 : j < 3
        · have hc := (line_classes hl j h3).1
          rw [par_jump (linesOf_in hl).1 hc, par_none _ (c2 a) j (fun k => by unfold c2; omega), par_none _ (c2 a) j (fun k => by unfold c2; omega)]
          simp
        · have hc := (line_classes hl (j - 3) (by omega)).2
          rw [show 3 + (j - 3) = j from by omega] at hc
          rw [par_jump (c := c2 a) (linesOf_in hl).1 hc, par_none _ (c1 a) j (fun k => by unfold c1; omega), par_none _ (c1 a) j (fun k => by unfold c1; omega)]
          simp
      · omega
    · omega
  obtain ⟨x0, a0, b0⟩ := key 0 (by omega)
  obtain ⟨x1, a1, b1⟩ := key 1 (by omega)
  obtain ⟨x2, a2, b2⟩ := key 2 (by omega)
  obtain ⟨x3, a3, b3⟩ := key 3 (by omega)
  obtain ⟨x4, a4, b4⟩ := key 4 (by omega)
  obtain ⟨x5, a5, b5⟩ := key 5 (by omega)
  unfold keyL
  rw [a0, a1, a2, a3, a4, a5, b0, b1, b2, b3, b4, b5, key_dif, key_dif, key_dif, key_dif]
theorem key_steps {a b o p q : Int} (h : Steps (linesOf a b o) false p q) : keyL (cls a (holesTo q 49)) = keyL (cls a (holesTo p 49)) := by
  induction h with
  | refl p => rfl
  | step h1 _ _ ih => rw [ih, key_jump h1]
theorem key_not {a b o s g : Int} (h : sameKey a b o s g = false) : reach a b o s g false = false := by
  cases hr : reach a b o s g false
  · rfl
  · exfalso
    obtain ⟨r1, r2, r3⟩ := reach_parts hr
    have hk := key_steps ((hasB_iff r1 r2).1 hr)
    simp [sameKey, r2, r3, pegKey, hk] at h
/-! fewest -/
theorem lessOf_bd {m : Int} {L : List Int} : ∀ (x : Int), (x = -1 ∨ 0 ≤ x) → (L.foldl (fun m q => lessOf m (pegs q)) x = -1 ∨ 0 ≤ L.foldl (fun m q => lessOf m (pegs q)) x) ∧ (0 ≤ x → L.foldl (fun m q => lessOf m (pegs q)) x ≤ x) ∧ ∀ q ∈ L, L.foldl (fun m q => lessOf m (pegs q)) x ≤ pegs q := by
  induction L with
  | nil => intro x hx; exact ⟨hx, fun _ => Int.le_refl _, fun q h => by cases h⟩
  | cons y L ih =>
    intro x hx
    rw [List.foldl_cons]
    have h1 : 0 ≤ lessOf x (pegs y) ∧ lessOf x (pegs y) ≤ pegs y ∧ (0 ≤ x → lessOf x (pegs y) ≤ x) := by
      unfold lessOf
      refine ⟨?_, ?_, ?_⟩
      · split <;> omega
      · split <;> omega
      · intro h; split <;> omega
    obtain ⟨i1, i2, i3⟩ := ih (lessOf x (pegs y)) (Or.inr h1.1)
    have i4 := i2 h1.1
    refine ⟨i1, fun h => by have := h1.2.2 h; omega, fun q hq => ?_⟩
    rcases List.mem_cons.1 hq with rfl | hq
    · omega
    · exact i3 q hq
theorem reachList_mem {a b o p q : Int} (h : reach a b o p q false = true) : q ∈ reachList a b o p := by
  simp only [reach, hasB, Bool.and_eq_true, decide_eq_true_eq] at h
  simp only [reachList, listOf, listTo, List.mem_map, List.mem_filter, List.mem_range]
  exact ⟨q.toNat, ⟨by omega, h.2⟩, by omega⟩
theorem fewestLeft_le {a b o p q : Int} (h : reach a b o p q false = true) : fewestLeft a b o p ≤ pegs q :=
  (lessOf_bd (m := 0) (-1) (Or.inl rfl)).2.2 q (reachList_mem h)
/-- the sweeps of a game behind a jump that led to a hole -/
def sw (last : Int) : List Ln → Nat
  | [] => 0
  | l :: J => (if l.f = last then 0 else 1) + sw l.t J
theorem sw_sweeps : ∀ (J : List Ln) (k : Nat), k ≤ J.length → sweepsTo J k + sw (if k = 0 then -1 else (gD J Ln0 (k - 1)).t) (J.drop k) = sweepsTo J 0 + sw (-1) J ∨ ∃ l ∈ J, l.f < 0
  | J, 0, _ => Or.inl (by simp)
  | J, k + 1, hk => by
    rcases sw_sweeps J k (by omega) with h | h
    · by_cases hneg : ∃ l ∈ J, l.f < 0
      · exact Or.inr hneg
      · refine Or.inl ?_
        have e0 : (if k + 1 = 0 then (-1 : Int) else (gD J Ln0 (k + 1 - 1)).t) = (gD J Ln0 k).t := by rw [if_neg (by omega)]; rfl
        rw [← h, sweepsTo_succ, e0]
        have hd : J.drop k = gD J Ln0 k :: J.drop (k + 1) := by
          rw [List.drop_eq_getElem_cons (by omega)]
          congr 1
          unfold gD
          simp [show k < J.length from by omega]
        rw [hd, sw]
        have hm : gD J Ln0 k ∈ J := gD_mem J Ln0 k (by omega)
        have h0 : 0 ≤ (gD J Ln0 k).f := by
          rcases Int.lt_or_le (gD J Ln0 k).f 0 with h | h
          · exact absurd ⟨_, hm, h⟩ hneg
          · exact h
        have e : newSweep J k = !decide ((gD J Ln0 k).f = if k = 0 then -1 else (gD J Ln0 (k - 1)).t) := by
          unfold newSweep
          by_cases hk0 : k = 0
          · subst hk0
            rw [if_pos rfl, decide_eq_false (by omega)]
            rfl
          · rw [if_neg hk0]
            have : (k == 0) = false := by simp [hk0]
            rw [this, Bool.false_or]
            by_cases hq : (gD J Ln0 (k - 1)).t = (gD J Ln0 k).f
            · rw [hq]; simp
            · rw [decide_eq_false (fun h => hq h.symm)]
              simp [bne, hq]
        rw [e]
        generalize (if k = 0 then (-1 : Int) else (gD J Ln0 (k - 1)).t) = x
        by_cases hh : (gD J Ln0 k).f = x
        · simp [hh]
        · simp [hh]; omega
    · exact Or.inr h
theorem sweeps_sw {J : List Ln} (h : ∀ l ∈ J, 0 ≤ l.f) : sweeps J = sw (-1) J := by
  rcases sw_sweeps J J.length (Nat.le_refl _) with h1 | ⟨l, hl, h1⟩
  · rw [List.drop_length] at h1
    simp only [sw, Nat.add_zero] at h1
    have h2 : sweepsTo J 0 = 0 := rfl
    unfold sweeps
    omega
  · have := h l hl; omega
theorem fold_le {a b o g p last : Int} {F : Int → Int → Int} (hF : ∀ l ∈ linesOf a b o, onTo a b o g p l = true → 0 ≤ F (flip p l) l.t) :
    ∀ (L : List Ln) (x : Int), (∀ l ∈ L, l ∈ linesOf a b o) → (x = -1 ∨ 0 ≤ x) →
      (0 ≤ x → L.foldl (fwStep a b o g p last F) x ≤ x) ∧ ∀ l ∈ L, onTo a b o g p l = true → L.foldl (fwStep a b o g p last F) x ≤ F (flip p l) l.t + if l.f = last then 0 else 1
  | [], x, _, _ => ⟨fun _ => Int.le_refl _, fun _ h => by cases h⟩
  | l :: L, x, hL, hx => by
    rw [List.foldl_cons]
    have hL' : ∀ m ∈ L, m ∈ linesOf a b o := fun m hm => hL m (by simp [hm])
    by_cases hc : onTo a b o g p l = true
    · have f1 := hF l (hL l (by simp)) hc
      have hs : 0 ≤ fwStep a b o g p last F x l ∧ (0 ≤ x → fwStep a b o g p last F x l ≤ x) ∧ fwStep a b o g p last F x l ≤ F (flip p l) l.t + (if l.f = last then 0 else 1) := by
        unfold fwStep
        rw [if_pos hc]
        unfold lessOf
        have hi : (0 : Int) ≤ (if l.f = last then 0 else 1) := by split <;> omega
        generalize (if l.f = last then (0 : Int) else 1) = y at *
        refine ⟨?_, ?_, ?_⟩
        · split <;> omega
        · intro h; split <;> omega
        · split <;> omega
      obtain ⟨i1, i2⟩ := fold_le (last := last) hF L (fwStep a b o g p last F x l) hL' (Or.inr hs.1)
      have i3 := i1 hs.1
      refine ⟨fun h => Int.le_trans i3 (hs.2.1 h), fun m hm hcm => ?_⟩
      rcases List.mem_cons.1 hm with rfl | hm
      · exact Int.le_trans i3 hs.2.2
      · exact i2 m hm hcm
    · have hs : fwStep a b o g p last F x l = x := by unfold fwStep; rw [if_neg hc]
      rw [hs]
      obtain ⟨i1, i2⟩ := fold_le (last := last) hF L x hL' hx
      refine ⟨i1, fun m hm hcm => ?_⟩
      rcases List.mem_cons.1 hm with rfl | hm
      · exact absurd hcm hc
      · exact i2 m hm hcm
theorem fewest_le {a b o g : Int} (hs : isSmall a b o = true) (hg : posOk a b o g = true) : ∀ (J : List Ln) (p last : Int), posOk a b o p = true → playTo false a b o p J = some g → fewest a b o g p last ≤ sw last J
  | [], p, last, hp, h => by
    simp only [playTo, Option.some.injEq] at h
    subst h
    rw [fewest_goal]
    exact Int.natCast_nonneg _
  | l :: J, p, last, hp, h => by
    by_cases hne : p = g
    · subst hne; rw [fewest_goal]; exact Int.natCast_nonneg _
    simp only [playTo] at h
    split at h
    · rename_i hd
      obtain ⟨h1, h2, h3⟩ := doOk_pos hd
      have hm := isLn_mem h2
      have hst := play_steps J _ _ h
      have hq := posOk_flip hp hm
      have hr : reach a b o (flip p l) g false = true := (hasB_iff hs hq).2 hst
      have ih := fewest_le hs hg J (flip p l) l.t hq h
      rw [fewest_step hne]
      have hF : ∀ l ∈ linesOf a b o, onTo a b o g p l = true → 0 ≤ fewest a b o g (flip p l) l.t := by
        intro l hl hc
        simp only [onTo, Bool.and_eq_true] at hc
        have h8 := hc.2
        rw [has_reach] at h8
        exact (fewest_bd hs hg _ _ rfl (posOk_flip hp hl) h8 _).1
      have hon : onTo a b o g p l = true := by
        simp only [onTo, Bool.and_eq_true]
        exact ⟨h3, by rw [has_reach]; exact hr⟩
      have := (fold_le (last := last) hF (linesOf a b o) (-1) (fun _ h => h) (Or.inl rfl)).2 l hm hon
      rw [sw]
      split at this <;> rename_i hh <;> simp only [hh, if_true, if_false] <;> push_cast <;> omega
    · cases h
theorem shown_true {a b o s g k n : Int} {J : List Ln} {W : List Int} (h : checkClaim a b o s g k n J W = true) : truthOf a b o s g k n J.length = true := by
  simp only [checkClaim, Bool.and_eq_true] at h
  obtain ⟨h1, h2, h3⟩ := h
  have hpz := h1
  simp only [puzzleOk, Bool.and_eq_true] at hpz
  obtain ⟨⟨q1, q2⟩, q3⟩ := hpz
  rw [truthOf, h1, h2, Bool.true_and, Bool.true_and]
  unfold checkBody at h3
  unfold truthBody
  have hsol : isSolvedBy a b o s g J = true → playTo false a b o s J = some g ∧ reach a b o s g false = true := by
    intro h
    simp only [isSolvedBy, Bool.and_eq_true, isSolution] at h
    obtain ⟨_, h⟩ := h
    cases hp : playAll a b o s J with
    | none => rw [hp] at h; simp at h
    | some q =>
      rw [hp] at h
      simp at h
      subst h
      have := (playAll_toC hp).2.2
      exact ⟨this, (hasB_iff q1 q2).2 (play_steps _ _ _ this)⟩
  by_cases k1 : k = 1
  · subst k1
    simp only [if_true] at h3 ⊢
    exact (hsol h3).2
  rw [if_neg k1] at h3 ⊢
  by_cases k2 : k = 2
  · subst k2
    simp only [if_true] at h3 ⊢
    rcases Bool.or_eq_true _ _ ▸ h3 with h4 | h4
    · rw [proof_not h4]; rfl
    · rw [key_not (by simpa using h4)]; rfl
  rw [if_neg k2] at h3 ⊢
  by_cases k3 : k = 3
  · subst k3
    simp only [if_true] at h3 ⊢
    cases hp : playAll a b o s J with
    | none => rw [hp] at h3; simp at h3
    | some q =>
      rw [hp] at h3
      simp only [decide_eq_true_eq] at h3 ⊢
      have := play_steps _ _ _ (playAll_toC hp).2.2
      have h5 := fewestLeft_le ((hasB_iff q1 q2).2 this)
      omega
  rw [if_neg k3] at h3 ⊢
  simp only [Bool.and_eq_true, decide_eq_true_eq] at h3 ⊢
  obtain ⟨h4, h5⟩ := h3
  obtain ⟨h6, h7⟩ := hsol h4
  have h8 := fewest_le q1 q3 J s (-1) q2 h6
  have hf : ∀ l ∈ J, 0 ≤ l.f := by
    have key : ∀ (J : List Ln) (p q : Int), playTo false a b o p J = some q → ∀ l ∈ J, 0 ≤ l.f := by
      intro J
      induction J with
      | nil => intro p q _ l h; cases h
      | cons x J ih =>
        intro p q h l hl
        simp only [playTo] at h
        split at h
        · rename_i hd
          rcases List.mem_cons.1 hl with rfl | hl
          · have := (linesOf_in (isLn_mem (doOk_pos hd).2.1)).1
            unfold LnOk at this; omega
          · exact ih _ _ h l hl
        · cases h
    exact key J s g h6
  rw [sweeps_sw hf] at h5
  rw [fewestSweeps, if_pos h7]
  exact ⟨(fewest_bd q1 q3 _ _ rfl q2 h7 _).1, by omega⟩
end Peg
namespace Go.Proofs.YtfmplmlilmalpaaGreat
open Go.ChangeShapes Go.WideShapes Go.ChangeAt Go.RowKit Peg Go.Sort
set_option maxHeartbeats 2000000 in
set_option maxRecDepth 100000 in
theorem TruthOf_any (a b o s g k n : Int) (J : List Ln) (L : List Int) (vj vw : Value) (hs : s ≤ 9223372036854775807) (hg : g ≤ 9223372036854775807) (w : World) {B B' : Nat} (hj : Own ELine w B vj J) (hw : Own EInt w B' vw L) :
    Calls Tryz.prog 7 #[.agg #[.int .i64 a, .int .i64 b, .int .i64 o, .int .i64 s, .int .i64 g], .agg #[.int .i64 k, .int .i64 n, vj, vw]] w fun e w' => e = .returned (.bool (truthOf a b o s g k n J.length)) ∧ Below w.heap.size w w' := by
  have HJ := Lib.hid (fun w' (hb : Below w.heap.size w w') => hj.keep hb)
  obtain ⟨aJ, capJ, rfl, _⟩ := hj.lineG
  obtain ⟨aW, capW, rfl, _⟩ := hw.intG
  clear hj hw
  have HPZ : Hid (∀ W, Calls Tryz.prog 17 #[.agg #[.int .i64 a, .int .i64 b, .int .i64 o, .int .i64 s, .int .i64 g]] W fun e w' => e = .returned (.bool (puzzleOk a b o s g)) ∧ Below W.heap.size W w') := fun W => PuzzleOk_any a b o s g hs hg W
  have HCO : Hid (∀ W, Own ELine W B (.slice aJ J.length capJ) J → Calls Tryz.prog 10 #[.agg #[.int .i64 k, .int .i64 n, .slice aJ J.length capJ, .slice aW L.length capW]] W fun e w' => e = .returned (.bool (claimOk k n J.length)) ∧ Below W.heap.size W w') := fun W hW => ClaimOk_any k n J _ _ W hW
  have HF : Hid (truthOf a b o s g k n J.length = (puzzleOk a b o s g && (claimOk k n J.length && truthBody a b o s g k n))) := rfl
  cases hpz : puzzleOk a b o s g
  · have HE : Hid (truthOf a b o s g k n J.length = false) := by show _ = _; rw [HF.out, hpz]; rfl
    rw [hpz] at HPZ
    clear hpz HF
    go_enter Tryz.func7, Tryz.ntmps7
    go_wp2_with (first | (go_at_call 17; refine (HPZ.out _).mono ?_; rintro e w' ⟨rfl, hb⟩; obtain ⟨hc, hf, hz, hy⟩ := bcell hb; clear hy; (try simp only [World.size_alloc, World.size_setCell, World.size_drew] at hz); (try have gQ0 : w.heap.size < w'.heap.size := by omega); (try have gQ1 : w.heap.size + 1 < w'.heap.size := by omega)) | (go_at_call 10; refine (HCO.out _ (HJ.out _ (by (repeat' first | (with_reducible exact Below.refl _ _) | (with_reducible refine Below.alloc ?_ ?_ _) | (with_reducible refine Below.drew ?_) | (with_reducible refine Below.setCell ?_ ?_ _) | (with_reducible refine below_via (by assumption) ?_ ?_) | go_size)))).mono ?_; rintro e w' ⟨rfl, hb⟩; obtain ⟨hc, hf, hz, hy⟩ := bcell hb; clear hy; (try simp only [World.size_alloc, World.size_setCell, World.size_drew] at hz); (try have gQ0 : w.heap.size < w'.heap.size := by omega); (try have gQ1 : w.heap.size + 1 < w'.heap.size := by omega)))
    all_goals go_ret
    all_goals exact ⟨by simp [HE.out], by (repeat' first | (with_reducible exact Below.refl _ _) | (with_reducible refine Below.alloc ?_ ?_ _) | (with_reducible refine Below.drew ?_) | (with_reducible refine Below.setCell ?_ ?_ _) | (with_reducible refine below_via (by assumption) ?_ ?_) | go_size)⟩
  cases hco : claimOk k n J.length
  · have HE : Hid (truthOf a b o s g k n J.length = false) := by show _ = _; rw [HF.out, hpz, hco]; rfl
    rw [hpz] at HPZ
    rw [hco] at HCO
    clear hpz hco HF
    go_enter Tryz.func7, Tryz.ntmps7
    go_wp2_with (first | (go_at_call 17; refine (HPZ.out _).mono ?_; rintro e w' ⟨rfl, hb⟩; obtain ⟨hc, hf, hz, hy⟩ := bcell hb; clear hy; (try simp only [World.size_alloc, World.size_setCell, World.size_drew] at hz); (try have gQ0 : w.heap.size < w'.heap.size := by omega); (try have gQ1 : w.heap.size + 1 < w'.heap.size := by omega)) | (go_at_call 10; refine (HCO.out _ (HJ.out _ (by (repeat' first | (with_reducible exact Below.refl _ _) | (with_reducible refine Below.alloc ?_ ?_ _) | (with_reducible refine Below.drew ?_) | (with_reducible refine Below.setCell ?_ ?_ _) | (with_reducible refine below_via (by assumption) ?_ ?_) | go_size)))).mono ?_; rintro e w' ⟨rfl, hb⟩; obtain ⟨hc, hf, hz, hy⟩ := bcell hb; clear hy; (try simp only [World.size_alloc, World.size_setCell, World.size_drew] at hz); (try have gQ0 : w.heap.size < w'.heap.size := by omega); (try have gQ1 : w.heap.size + 1 < w'.heap.size := by omega)))
    all_goals go_ret
    all_goals exact ⟨by simp [HE.out], by (repeat' first | (with_reducible exact Below.refl _ _) | (with_reducible refine Below.alloc ?_ ?_ _) | (with_reducible refine Below.drew ?_) | (with_reducible refine Below.setCell ?_ ?_ _) | (with_reducible refine below_via (by assumption) ?_ ?_) | go_size)⟩
  have HE : Hid (truthOf a b o s g k n J.length = truthBody a b o s g k n) := by show _ = _; rw [HF.out, hpz, hco]; rfl
  have hk4 : 1 ≤ k ∧ k ≤ 4 := by
    unfold claimOk at hco
    simp only [Bool.and_eq_true] at hco
    exact inR_iff.1 hco.1.1
  have hq := hpz
  simp only [puzzleOk, Bool.and_eq_true] at hq
  obtain ⟨⟨q1, q2⟩, q3⟩ := hq
  have HCR : Hid (∀ W, Calls Tryz.prog 24 #[.agg #[.int .i64 a, .int .i64 b, .int .i64 o], .int .i64 s, .int .i64 g] W fun e w' => e = .returned (.bool (reach a b o s g false)) ∧ Below W.heap.size W w') := fun W => CanReach_any a b o s g (by omega) W
  have HFL : Hid (∀ W, Calls Tryz.prog 25 #[.agg #[.int .i64 a, .int .i64 b, .int .i64 o], .int .i64 s] W fun e w' => e = .returned (.int .i64 (fewestLeft a b o s)) ∧ Below W.heap.size W w') := fun W => FewestLeft_any a b o s q1 q2 W
  have HFS : Hid (∀ W, Calls Tryz.prog 26 #[.agg #[.int .i64 a, .int .i64 b, .int .i64 o], .int .i64 s, .int .i64 g] W fun e w' => e = .returned (.int .i64 (fewestSweeps a b o s g)) ∧ Below W.heap.size W w') := fun W => FewestSweeps_any a b o s g q1 q2 q3 W
  have HB0 : Hid (truthBody a b o s g k n = if k = 1 then reach a b o s g false
    else if k = 2 then !reach a b o s g false
    else if k = 3 then decide (fewestLeft a b o s ≤ n)
    else decide (0 ≤ fewestSweeps a b o s g) && decide (fewestSweeps a b o s g ≤ n)) := rfl
  rw [hpz] at HPZ
  rw [hco] at HCO
  clear hpz hco HF q1 q2 q3
  generalize reach a b o s g false = x at *
  generalize fewestLeft a b o s = y at *
  generalize fewestSweeps a b o s g = z at *
  by_cases hk1 : k = 1
  · subst hk1
    have HV : Hid (truthOf a b o s g 1 n J.length = x) := by show _ = _; rw [HE.out, HB0.out]; rfl
    rw [HV.out]
    clear HE HV HB0 hk4
    go_enter Tryz.func7, Tryz.ntmps7
    go_wp2_with (first | (go_at_call 17; refine (HPZ.out _).mono ?_; rintro e w' ⟨rfl, hb⟩; obtain ⟨hc, hf, hz, hy⟩ := bcell hb; clear hy; (try simp only [World.size_alloc, World.size_setCell, World.size_drew] at hz); (try have gQ0 : w.heap.size < w'.heap.size := by omega); (try have gQ1 : w.heap.size + 1 < w'.heap.size := by omega)) | (go_at_call 10; refine (HCO.out _ (HJ.out _ (by (repeat' first | (with_reducible exact Below.refl _ _) | (with_reducible refine Below.alloc ?_ ?_ _) | (with_reducible refine Below.drew ?_) | (with_reducible refine Below.setCell ?_ ?_ _) | (with_reducible refine below_via (by assumption) ?_ ?_) | go_size)))).mono ?_; rintro e w' ⟨rfl, hb⟩; obtain ⟨hc, hf, hz, hy⟩ := bcell hb; clear hy; (try simp only [World.size_alloc, World.size_setCell, World.size_drew] at hz); (try have gQ0 : w.heap.size < w'.heap.size := by omega); (try have gQ1 : w.heap.size + 1 < w'.heap.size := by omega)) | (go_at_call 24; refine (HCR.out _).mono ?_; rintro e w' ⟨rfl, hb⟩; obtain ⟨hc, hf, hz, hy⟩ := bcell hb; clear hy; (try simp only [World.size_alloc, World.size_setCell, World.size_drew] at hz); (try have gQ0 : w.heap.size < w'.heap.size := by omega); (try have gQ1 : w.heap.size + 1 < w'.heap.size := by omega)))
    all_goals go_ret
    all_goals exact ⟨by first | (simp; done) | (simp; rfl), by (repeat' first | (with_reducible exact Below.refl _ _) | (with_reducible refine Below.alloc ?_ ?_ _) | (with_reducible refine Below.drew ?_) | (with_reducible refine Below.setCell ?_ ?_ _) | (with_reducible refine below_via (by assumption) ?_ ?_) | go_size)⟩
  by_cases hk2 : k = 2
  · subst hk2
    have HV : Hid (truthOf a b o s g 2 n J.length = !x) := by show _ = _; rw [HE.out, HB0.out]; rfl
    rw [HV.out]
    clear HE HV HB0 hk4
    go_enter Tryz.func7, Tryz.ntmps7
    go_wp2_with (first | (go_at_call 17; refine (HPZ.out _).mono ?_; rintro e w' ⟨rfl, hb⟩; obtain ⟨hc, hf, hz, hy⟩ := bcell hb; clear hy; (try simp only [World.size_alloc, World.size_setCell, World.size_drew] at hz); (try have gQ0 : w.heap.size < w'.heap.size := by omega); (try have gQ1 : w.heap.size + 1 < w'.heap.size := by omega)) | (go_at_call 10; refine (HCO.out _ (HJ.out _ (by (repeat' first | (with_reducible exact Below.refl _ _) | (with_reducible refine Below.alloc ?_ ?_ _) | (with_reducible refine Below.drew ?_) | (with_reducible refine Below.setCell ?_ ?_ _) | (with_reducible refine below_via (by assumption) ?_ ?_) | go_size)))).mono ?_; rintro e w' ⟨rfl, hb⟩; obtain ⟨hc, hf, hz, hy⟩ := bcell hb; clear hy; (try simp only [World.size_alloc, World.size_setCell, World.size_drew] at hz); (try have gQ0 : w.heap.size < w'.heap.size := by omega); (try have gQ1 : w.heap.size + 1 < w'.heap.size := by omega)) | (go_at_call 24; refine (HCR.out _).mono ?_; rintro e w' ⟨rfl, hb⟩; obtain ⟨hc, hf, hz, hy⟩ := bcell hb; clear hy; (try simp only [World.size_alloc, World.size_setCell, World.size_drew] at hz); (try have gQ0 : w.heap.size < w'.heap.size := by omega); (try have gQ1 : w.heap.size + 1 < w'.heap.size := by omega)))
    all_goals go_ret
    all_goals exact ⟨by first | (simp; done) | (simp; rfl), by (repeat' first | (with_reducible exact Below.refl _ _) | (with_reducible refine Below.alloc ?_ ?_ _) | (with_reducible refine Below.drew ?_) | (with_reducible refine Below.setCell ?_ ?_ _) | (with_reducible refine below_via (by assumption) ?_ ?_) | go_size)⟩
  by_cases hk3 : k = 3
  · subst hk3
    have HV : Hid (truthOf a b o s g 3 n J.length = decide (y ≤ n)) := by show _ = _; rw [HE.out, HB0.out]; rfl
    rw [HV.out]
    clear HE HV HB0 hk4
    go_enter Tryz.func7, Tryz.ntmps7
    go_wp2_with (first | (go_at_call 17; refine (HPZ.out _).mono ?_; rintro e w' ⟨rfl, hb⟩; obtain ⟨hc, hf, hz, hy⟩ := bcell hb; clear hy; (try simp only [World.size_alloc, World.size_setCell, World.size_drew] at hz); (try have gQ0 : w.heap.size < w'.heap.size := by omega); (try have gQ1 : w.heap.size + 1 < w'.heap.size := by omega)) | (go_at_call 10; refine (HCO.out _ (HJ.out _ (by (repeat' first | (with_reducible exact Below.refl _ _) | (with_reducible refine Below.alloc ?_ ?_ _) | (with_reducible refine Below.drew ?_) | (with_reducible refine Below.setCell ?_ ?_ _) | (with_reducible refine below_via (by assumption) ?_ ?_) | go_size)))).mono ?_; rintro e w' ⟨rfl, hb⟩; obtain ⟨hc, hf, hz, hy⟩ := bcell hb; clear hy; (try simp only [World.size_alloc, World.size_setCell, World.size_drew] at hz); (try have gQ0 : w.heap.size < w'.heap.size := by omega); (try have gQ1 : w.heap.size + 1 < w'.heap.size := by omega)) | ((with_reducible refine wp_region_qb ?_ ?_ (fun hq => ?_)); (focus kernel_rfl); (focus kernel_rfl); (repeat (go_big_quiet_step ((go_at_call 25; exact Calls.regrown_of (HFL.out _))))); refine wpQuiet_nil ?_; intro wq hb; obtain ⟨hc, hf, hz, hy⟩ := bcell hb; clear hq hy; (try simp only [World.size_alloc, World.size_setCell, World.size_drew] at hz); (try have gQ0 : w.heap.size < wq.heap.size := by omega); (try have gQ1 : w.heap.size + 1 < wq.heap.size := by omega)))
    all_goals go_ret
    all_goals exact ⟨by first | (simp; done) | (simp; rfl), by (repeat' first | (with_reducible exact Below.refl _ _) | (with_reducible refine Below.alloc ?_ ?_ _) | (with_reducible refine Below.drew ?_) | (with_reducible refine Below.setCell ?_ ?_ _) | (with_reducible refine below_via (by assumption) ?_ ?_) | go_size)⟩
  · have HV : Hid (truthOf a b o s g k n J.length = (decide (0 ≤ z) && decide (z ≤ n))) := by show _ = _; rw [HE.out, HB0.out, if_neg hk1, if_neg hk2, if_neg hk3]
    obtain rfl : k = 4 := by omega
    rw [HV.out]
    clear HE HV HB0 hk4 hk1 hk2 hk3
    by_cases hz : 0 ≤ z
    · have hd : decide (0 ≤ z) = true := decide_eq_true hz
      go_enter Tryz.func7, Tryz.ntmps7
      go_wp2_with (first | (go_at_call 17; refine (HPZ.out _).mono ?_; rintro e w' ⟨rfl, hb⟩; obtain ⟨hc, hf, hz, hy⟩ := bcell hb; clear hy; (try simp only [World.size_alloc, World.size_setCell, World.size_drew] at hz); (try have gQ0 : w.heap.size < w'.heap.size := by omega); (try have gQ1 : w.heap.size + 1 < w'.heap.size := by omega)) | (go_at_call 10; refine (HCO.out _ (HJ.out _ (by (repeat' first | (with_reducible exact Below.refl _ _) | (with_reducible refine Below.alloc ?_ ?_ _) | (with_reducible refine Below.drew ?_) | (with_reducible refine Below.setCell ?_ ?_ _) | (with_reducible refine below_via (by assumption) ?_ ?_) | go_size)))).mono ?_; rintro e w' ⟨rfl, hb⟩; obtain ⟨hc, hf, hz, hy⟩ := bcell hb; clear hy; (try simp only [World.size_alloc, World.size_setCell, World.size_drew] at hz); (try have gQ0 : w.heap.size < w'.heap.size := by omega); (try have gQ1 : w.heap.size + 1 < w'.heap.size := by omega)) | (go_at_call 26; refine (HFS.out _).mono ?_; rintro e w' ⟨rfl, hb⟩; obtain ⟨hc, hf, hz, hy⟩ := bcell hb; clear hy; (try simp only [World.size_alloc, World.size_setCell, World.size_drew] at hz); (try have gQ0 : w.heap.size < w'.heap.size := by omega); (try have gQ1 : w.heap.size + 1 < w'.heap.size := by omega)))
      all_goals go_ret
      all_goals exact ⟨by first | (simp [hd]; done) | (simp [hd]; rfl), by (repeat' first | (with_reducible exact Below.refl _ _) | (with_reducible refine Below.alloc ?_ ?_ _) | (with_reducible refine Below.drew ?_) | (with_reducible refine Below.setCell ?_ ?_ _) | (with_reducible refine below_via (by assumption) ?_ ?_) | go_size)⟩
    · have hd : decide (0 ≤ z) = false := decide_eq_false hz
      go_enter Tryz.func7, Tryz.ntmps7
      go_wp2_with (first | (go_at_call 17; refine (HPZ.out _).mono ?_; rintro e w' ⟨rfl, hb⟩; obtain ⟨hc, hf, hz, hy⟩ := bcell hb; clear hy; (try simp only [World.size_alloc, World.size_setCell, World.size_drew] at hz); (try have gQ0 : w.heap.size < w'.heap.size := by omega); (try have gQ1 : w.heap.size + 1 < w'.heap.size := by omega)) | (go_at_call 10; refine (HCO.out _ (HJ.out _ (by (repeat' first | (with_reducible exact Below.refl _ _) | (with_reducible refine Below.alloc ?_ ?_ _) | (with_reducible refine Below.drew ?_) | (with_reducible refine Below.setCell ?_ ?_ _) | (with_reducible refine below_via (by assumption) ?_ ?_) | go_size)))).mono ?_; rintro e w' ⟨rfl, hb⟩; obtain ⟨hc, hf, hz, hy⟩ := bcell hb; clear hy; (try simp only [World.size_alloc, World.size_setCell, World.size_drew] at hz); (try have gQ0 : w.heap.size < w'.heap.size := by omega); (try have gQ1 : w.heap.size + 1 < w'.heap.size := by omega)) | (go_at_call 26; refine (HFS.out _).mono ?_; rintro e w' ⟨rfl, hb⟩; obtain ⟨hc, hf, hz, hy⟩ := bcell hb; clear hy; (try simp only [World.size_alloc, World.size_setCell, World.size_drew] at hz); (try have gQ0 : w.heap.size < w'.heap.size := by omega); (try have gQ1 : w.heap.size + 1 < w'.heap.size := by omega)))
      all_goals go_ret
      all_goals exact ⟨by first | (simp [hd]; done) | (simp [hd]; rfl), by (repeat' first | (with_reducible exact Below.refl _ _) | (with_reducible refine Below.alloc ?_ ?_ _) | (with_reducible refine Below.drew ?_) | (with_reducible refine Below.setCell ?_ ?_ _) | (with_reducible refine below_via (by assumption) ?_ ?_) | go_size)⟩
set_option maxHeartbeats 2000000 in
set_option maxRecDepth 100000 in
theorem sTruthOf_any (a b o s g k n : Int) (J : List Ln) (L : List Int) (vj vw : Value) (hs : s ≤ 9223372036854775807) (hg : g ≤ 9223372036854775807) (w : World) {B B' : Nat} (hj : Own ELine w B vj J) (hw : Own EInt w B' vw L) :
    Calls Tryz.prog 9 #[.agg #[.int .i64 a, .int .i64 b, .int .i64 o, .int .i64 s, .int .i64 g], .agg #[.int .i64 k, .int .i64 n, vj, vw]] w fun e w' => e = .returned (.bool (truthOf a b o s g k n J.length)) ∧ Below w.heap.size w w' := by
  have HJ := Lib.hid (fun w' (hb : Below w.heap.size w w') => hj.keep hb)
  obtain ⟨aJ, capJ, rfl, _⟩ := hj.lineG
  obtain ⟨aW, capW, rfl, _⟩ := hw.intG
  clear hj hw
  have HPZ : Hid (∀ W, Calls Tryz.prog 12 #[.agg #[.int .i64 a, .int .i64 b, .int .i64 o, .int .i64 s, .int .i64 g]] W fun e w' => e = .returned (.bool (puzzleOk a b o s g)) ∧ Below W.heap.size W w') := fun W => sPuzzleOk_any a b o s g hs hg W
  have HCO : Hid (∀ W, Own ELine W B (.slice aJ J.length capJ) J → Calls Tryz.prog 27 #[.agg #[.int .i64 k, .int .i64 n, .slice aJ J.length capJ, .slice aW L.length capW]] W fun e w' => e = .returned (.bool (claimOk k n J.length)) ∧ Below W.heap.size W w') := fun W hW => sClaimOk_any k n J _ _ W hW
  have HF : Hid (truthOf a b o s g k n J.length = (puzzleOk a b o s g && (claimOk k n J.length && truthBody a b o s g k n))) := rfl
  cases hpz : puzzleOk a b o s g
  · have HE : Hid (truthOf a b o s g k n J.length = false) := by show _ = _; rw [HF.out, hpz]; rfl
    rw [hpz] at HPZ
    clear hpz HF
    go_enter Tryz.func9, Tryz.ntmps9
    go_wp2_with (first | (go_at_call 12; refine (HPZ.out _).mono ?_; rintro e w' ⟨rfl, hb⟩; obtain ⟨hc, hf, hz, hy⟩ := bcell hb; clear hy; (try simp only [World.size_alloc, World.size_setCell, World.size_drew] at hz); (try have gQ0 : w.heap.size < w'.heap.size := by omega); (try have gQ1 : w.heap.size + 1 < w'.heap.size := by omega)) | (go_at_call 27; refine (HCO.out _ (HJ.out _ (by (repeat' first | (with_reducible exact Below.refl _ _) | (with_reducible refine Below.alloc ?_ ?_ _) | (with_reducible refine Below.drew ?_) | (with_reducible refine Below.setCell ?_ ?_ _) | (with_reducible refine below_via (by assumption) ?_ ?_) | go_size)))).mono ?_; rintro e w' ⟨rfl, hb⟩; obtain ⟨hc, hf, hz, hy⟩ := bcell hb; clear hy; (try simp only [World.size_alloc, World.size_setCell, World.size_drew] at hz); (try have gQ0 : w.heap.size < w'.heap.size := by omega); (try have gQ1 : w.heap.size + 1 < w'.heap.size := by omega)))
    all_goals go_ret
    all_goals exact ⟨by simp [HE.out], by (repeat' first | (with_reducible exact Below.refl _ _) | (with_reducible refine Below.alloc ?_ ?_ _) | (with_reducible refine Below.drew ?_) | (with_reducible refine Below.setCell ?_ ?_ _) | (with_reducible refine below_via (by assumption) ?_ ?_) | go_size)⟩
  cases hco : claimOk k n J.length
  · have HE : Hid (truthOf a b o s g k n J.length = false) := by show _ = _; rw [HF.out, hpz, hco]; rfl
    rw [hpz] at HPZ
    rw [hco] at HCO
    clear hpz hco HF
    go_enter Tryz.func9, Tryz.ntmps9
    go_wp2_with (first | (go_at_call 12; refine (HPZ.out _).mono ?_; rintro e w' ⟨rfl, hb⟩; obtain ⟨hc, hf, hz, hy⟩ := bcell hb; clear hy; (try simp only [World.size_alloc, World.size_setCell, World.size_drew] at hz); (try have gQ0 : w.heap.size < w'.heap.size := by omega); (try have gQ1 : w.heap.size + 1 < w'.heap.size := by omega)) | (go_at_call 27; refine (HCO.out _ (HJ.out _ (by (repeat' first | (with_reducible exact Below.refl _ _) | (with_reducible refine Below.alloc ?_ ?_ _) | (with_reducible refine Below.drew ?_) | (with_reducible refine Below.setCell ?_ ?_ _) | (with_reducible refine below_via (by assumption) ?_ ?_) | go_size)))).mono ?_; rintro e w' ⟨rfl, hb⟩; obtain ⟨hc, hf, hz, hy⟩ := bcell hb; clear hy; (try simp only [World.size_alloc, World.size_setCell, World.size_drew] at hz); (try have gQ0 : w.heap.size < w'.heap.size := by omega); (try have gQ1 : w.heap.size + 1 < w'.heap.size := by omega)))
    all_goals go_ret
    all_goals exact ⟨by simp [HE.out], by (repeat' first | (with_reducible exact Below.refl _ _) | (with_reducible refine Below.alloc ?_ ?_ _) | (with_reducible refine Below.drew ?_) | (with_reducible refine Below.setCell ?_ ?_ _) | (with_reducible refine below_via (by assumption) ?_ ?_) | go_size)⟩
  have HE : Hid (truthOf a b o s g k n J.length = truthBody a b o s g k n) := by show _ = _; rw [HF.out, hpz, hco]; rfl
  have hk4 : 1 ≤ k ∧ k ≤ 4 := by
    unfold claimOk at hco
    simp only [Bool.and_eq_true] at hco
    exact inR_iff.1 hco.1.1
  have hq := hpz
  simp only [puzzleOk, Bool.and_eq_true] at hq
  obtain ⟨⟨q1, q2⟩, q3⟩ := hq
  have HCR : Hid (∀ W, Calls Tryz.prog 13 #[.agg #[.int .i64 a, .int .i64 b, .int .i64 o], .int .i64 s, .int .i64 g] W fun e w' => e = .returned (.bool (reach a b o s g false)) ∧ Below W.heap.size W w') := fun W => sCanReach_ok a b o s g (by omega) (by omega) q1 q2 q3 W
  have HFL : Hid (∀ W, Calls Tryz.prog 33 #[.agg #[.int .i64 a, .int .i64 b, .int .i64 o], .int .i64 s] W fun e w' => e = .returned (.int .i64 (fewestLeft a b o s)) ∧ Below W.heap.size W w') := fun W => sFewestLeft_any a b o s q1 q2 W
  have HFS : Hid (∀ W, Calls Tryz.prog 34 #[.agg #[.int .i64 a, .int .i64 b, .int .i64 o], .int .i64 s, .int .i64 g] W fun e w' => e = .returned (.int .i64 (fewestSweeps a b o s g)) ∧ Below W.heap.size W w') := fun W => sFewestSweeps_any a b o s g q1 q2 q3 W
  have HB0 : Hid (truthBody a b o s g k n = if k = 1 then reach a b o s g false
    else if k = 2 then !reach a b o s g false
    else if k = 3 then decide (fewestLeft a b o s ≤ n)
    else decide (0 ≤ fewestSweeps a b o s g) && decide (fewestSweeps a b o s g ≤ n)) := rfl
  rw [hpz] at HPZ
  rw [hco] at HCO
  clear hpz hco HF q1 q2 q3
  generalize reach a b o s g false = x at *
  generalize fewestLeft a b o s = y at *
  generalize fewestSweeps a b o s g = z at *
  by_cases hk1 : k = 1
  · subst hk1
    have HV : Hid (truthOf a b o s g 1 n J.length = x) := by show _ = _; rw [HE.out, HB0.out]; rfl
    rw [HV.out]
    clear HE HV HB0 hk4
    go_enter Tryz.func9, Tryz.ntmps9
    go_wp2_with (first | (go_at_call 12; refine (HPZ.out _).mono ?_; rintro e w' ⟨rfl, hb⟩; obtain ⟨hc, hf, hz, hy⟩ := bcell hb; clear hy; (try simp only [World.size_alloc, World.size_setCell, World.size_drew] at hz); (try have gQ0 : w.heap.size < w'.heap.size := by omega); (try have gQ1 : w.heap.size + 1 < w'.heap.size := by omega)) | (go_at_call 27; refine (HCO.out _ (HJ.out _ (by (repeat' first | (with_reducible exact Below.refl _ _) | (with_reducible refine Below.alloc ?_ ?_ _) | (with_reducible refine Below.drew ?_) | (with_reducible refine Below.setCell ?_ ?_ _) | (with_reducible refine below_via (by assumption) ?_ ?_) | go_size)))).mono ?_; rintro e w' ⟨rfl, hb⟩; obtain ⟨hc, hf, hz, hy⟩ := bcell hb; clear hy; (try simp only [World.size_alloc, World.size_setCell, World.size_drew] at hz); (try have gQ0 : w.heap.size < w'.heap.size := by omega); (try have gQ1 : w.heap.size + 1 < w'.heap.size := by omega)) | (go_at_call 13; refine (HCR.out _).mono ?_; rintro e w' ⟨rfl, hb⟩; obtain ⟨hc, hf, hz, hy⟩ := bcell hb; clear hy; (try simp only [World.size_alloc, World.size_setCell, World.size_drew] at hz); (try have gQ0 : w.heap.size < w'.heap.size := by omega); (try have gQ1 : w.heap.size + 1 < w'.heap.size := by omega)))
    all_goals go_ret
    all_goals exact ⟨by first | (simp; done) | (simp; rfl), by (repeat' first | (with_reducible exact Below.refl _ _) | (with_reducible refine Below.alloc ?_ ?_ _) | (with_reducible refine Below.drew ?_) | (with_reducible refine Below.setCell ?_ ?_ _) | (with_reducible refine below_via (by assumption) ?_ ?_) | go_size)⟩
  by_cases hk2 : k = 2
  · subst hk2
    have HV : Hid (truthOf a b o s g 2 n J.length = !x) := by show _ = _; rw [HE.out, HB0.out]; rfl
    rw [HV.out]
    clear HE HV HB0 hk4
    go_enter Tryz.func9, Tryz.ntmps9
    go_wp2_with (first | (go_at_call 12; refine (HPZ.out _).mono ?_; rintro e w' ⟨rfl, hb⟩; obtain ⟨hc, hf, hz, hy⟩ := bcell hb; clear hy; (try simp only [World.size_alloc, World.size_setCell, World.size_drew] at hz); (try have gQ0 : w.heap.size < w'.heap.size := by omega); (try have gQ1 : w.heap.size + 1 < w'.heap.size := by omega)) | (go_at_call 27; refine (HCO.out _ (HJ.out _ (by (repeat' first | (with_reducible exact Below.refl _ _) | (with_reducible refine Below.alloc ?_ ?_ _) | (with_reducible refine Below.drew ?_) | (with_reducible refine Below.setCell ?_ ?_ _) | (with_reducible refine below_via (by assumption) ?_ ?_) | go_size)))).mono ?_; rintro e w' ⟨rfl, hb⟩; obtain ⟨hc, hf, hz, hy⟩ := bcell hb; clear hy; (try simp only [World.size_alloc, World.size_setCell, World.size_drew] at hz); (try have gQ0 : w.heap.size < w'.heap.size := by omega); (try have gQ1 : w.heap.size + 1 < w'.heap.size := by omega)) | (go_at_call 13; refine (HCR.out _).mono ?_; rintro e w' ⟨rfl, hb⟩; obtain ⟨hc, hf, hz, hy⟩ := bcell hb; clear hy; (try simp only [World.size_alloc, World.size_setCell, World.size_drew] at hz); (try have gQ0 : w.heap.size < w'.heap.size := by omega); (try have gQ1 : w.heap.size + 1 < w'.heap.size := by omega)))
    all_goals go_ret
    all_goals exact ⟨by first | (simp; done) | (simp; rfl), by (repeat' first | (with_reducible exact Below.refl _ _) | (with_reducible refine Below.alloc ?_ ?_ _) | (with_reducible refine Below.drew ?_) | (with_reducible refine Below.setCell ?_ ?_ _) | (with_reducible refine below_via (by assumption) ?_ ?_) | go_size)⟩
  by_cases hk3 : k = 3
  · subst hk3
    have HV : Hid (truthOf a b o s g 3 n J.length = decide (y ≤ n)) := by show _ = _; rw [HE.out, HB0.out]; rfl
    rw [HV.out]
    clear HE HV HB0 hk4
    go_enter Tryz.func9, Tryz.ntmps9
    go_wp2_with (first | (go_at_call 12; refine (HPZ.out _).mono ?_; rintro e w' ⟨rfl, hb⟩; obtain ⟨hc, hf, hz, hy⟩ := bcell hb; clear hy; (try simp only [World.size_alloc, World.size_setCell, World.size_drew] at hz); (try have gQ0 : w.heap.size < w'.heap.size := by omega); (try have gQ1 : w.heap.size + 1 < w'.heap.size := by omega)) | (go_at_call 27; refine (HCO.out _ (HJ.out _ (by (repeat' first | (with_reducible exact Below.refl _ _) | (with_reducible refine Below.alloc ?_ ?_ _) | (with_reducible refine Below.drew ?_) | (with_reducible refine Below.setCell ?_ ?_ _) | (with_reducible refine below_via (by assumption) ?_ ?_) | go_size)))).mono ?_; rintro e w' ⟨rfl, hb⟩; obtain ⟨hc, hf, hz, hy⟩ := bcell hb; clear hy; (try simp only [World.size_alloc, World.size_setCell, World.size_drew] at hz); (try have gQ0 : w.heap.size < w'.heap.size := by omega); (try have gQ1 : w.heap.size + 1 < w'.heap.size := by omega)) | ((with_reducible refine wp_region_qb ?_ ?_ (fun hq => ?_)); (focus kernel_rfl); (focus kernel_rfl); (repeat (go_big_quiet_step ((go_at_call 33; exact Calls.regrown_of (HFL.out _))))); refine wpQuiet_nil ?_; intro wq hb; obtain ⟨hc, hf, hz, hy⟩ := bcell hb; clear hq hy; (try simp only [World.size_alloc, World.size_setCell, World.size_drew] at hz); (try have gQ0 : w.heap.size < wq.heap.size := by omega); (try have gQ1 : w.heap.size + 1 < wq.heap.size := by omega)))
    all_goals go_ret
    all_goals exact ⟨by first | (simp; done) | (simp; rfl), by (repeat' first | (with_reducible exact Below.refl _ _) | (with_reducible refine Below.alloc ?_ ?_ _) | (with_reducible refine Below.drew ?_) | (with_reducible refine Below.setCell ?_ ?_ _) | (with_reducible refine below_via (by assumption) ?_ ?_) | go_size)⟩
  · have HV : Hid (truthOf a b o s g k n J.length = (decide (0 ≤ z) && decide (z ≤ n))) := by show _ = _; rw [HE.out, HB0.out, if_neg hk1, if_neg hk2, if_neg hk3]
    obtain rfl : k = 4 := by omega
    rw [HV.out]
    clear HE HV HB0 hk4 hk1 hk2 hk3
    by_cases hz : 0 ≤ z
    · have hd : decide (0 ≤ z) = true := decide_eq_true hz
      go_enter Tryz.func9, Tryz.ntmps9
      go_wp2_with (first | (go_at_call 12; refine (HPZ.out _).mono ?_; rintro e w' ⟨rfl, hb⟩; obtain ⟨hc, hf, hz, hy⟩ := bcell hb; clear hy; (try simp only [World.size_alloc, World.size_setCell, World.size_drew] at hz); (try have gQ0 : w.heap.size < w'.heap.size := by omega); (try have gQ1 : w.heap.size + 1 < w'.heap.size := by omega)) | (go_at_call 27; refine (HCO.out _ (HJ.out _ (by (repeat' first | (with_reducible exact Below.refl _ _) | (with_reducible refine Below.alloc ?_ ?_ _) | (with_reducible refine Below.drew ?_) | (with_reducible refine Below.setCell ?_ ?_ _) | (with_reducible refine below_via (by assumption) ?_ ?_) | go_size)))).mono ?_; rintro e w' ⟨rfl, hb⟩; obtain ⟨hc, hf, hz, hy⟩ := bcell hb; clear hy; (try simp only [World.size_alloc, World.size_setCell, World.size_drew] at hz); (try have gQ0 : w.heap.size < w'.heap.size := by omega); (try have gQ1 : w.heap.size + 1 < w'.heap.size := by omega)) | (go_at_call 34; refine (HFS.out _).mono ?_; rintro e w' ⟨rfl, hb⟩; obtain ⟨hc, hf, hz, hy⟩ := bcell hb; clear hy; (try simp only [World.size_alloc, World.size_setCell, World.size_drew] at hz); (try have gQ0 : w.heap.size < w'.heap.size := by omega); (try have gQ1 : w.heap.size + 1 < w'.heap.size := by omega)))
      all_goals go_ret
      all_goals exact ⟨by first | (simp [hd]; done) | (simp [hd]; rfl), by (repeat' first | (with_reducible exact Below.refl _ _) | (with_reducible refine Below.alloc ?_ ?_ _) | (with_reducible refine Below.drew ?_) | (with_reducible refine Below.setCell ?_ ?_ _) | (with_reducible refine below_via (by assumption) ?_ ?_) | go_size)⟩
    · have hd : decide (0 ≤ z) = false := decide_eq_false hz
      go_enter Tryz.func9, Tryz.ntmps9
      go_wp2_with (first | (go_at_call 12; refine (HPZ.out _).mono ?_; rintro e w' ⟨rfl, hb⟩; obtain ⟨hc, hf, hz, hy⟩ := bcell hb; clear hy; (try simp only [World.size_alloc, World.size_setCell, World.size_drew] at hz); (try have gQ0 : w.heap.size < w'.heap.size := by omega); (try have gQ1 : w.heap.size + 1 < w'.heap.size := by omega)) | (go_at_call 27; refine (HCO.out _ (HJ.out _ (by (repeat' first | (with_reducible exact Below.refl _ _) | (with_reducible refine Below.alloc ?_ ?_ _) | (with_reducible refine Below.drew ?_) | (with_reducible refine Below.setCell ?_ ?_ _) | (with_reducible refine below_via (by assumption) ?_ ?_) | go_size)))).mono ?_; rintro e w' ⟨rfl, hb⟩; obtain ⟨hc, hf, hz, hy⟩ := bcell hb; clear hy; (try simp only [World.size_alloc, World.size_setCell, World.size_drew] at hz); (try have gQ0 : w.heap.size < w'.heap.size := by omega); (try have gQ1 : w.heap.size + 1 < w'.heap.size := by omega)) | (go_at_call 34; refine (HFS.out _).mono ?_; rintro e w' ⟨rfl, hb⟩; obtain ⟨hc, hf, hz, hy⟩ := bcell hb; clear hy; (try simp only [World.size_alloc, World.size_setCell, World.size_drew] at hz); (try have gQ0 : w.heap.size < w'.heap.size := by omega); (try have gQ1 : w.heap.size + 1 < w'.heap.size := by omega)))
      all_goals go_ret
      all_goals exact ⟨by first | (simp [hd]; done) | (simp [hd]; rfl), by (repeat' first | (with_reducible exact Below.refl _ _) | (with_reducible refine Below.alloc ?_ ?_ _) | (with_reducible refine Below.drew ?_) | (with_reducible refine Below.setCell ?_ ?_ _) | (with_reducible refine below_via (by assumption) ?_ ?_) | go_size)⟩
end Go.Proofs.YtfmplmlilmalpaaGreat
