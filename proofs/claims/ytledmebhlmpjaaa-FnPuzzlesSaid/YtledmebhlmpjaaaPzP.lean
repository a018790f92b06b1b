/- PzP: several texts in one (Puz0, Puz1, Puz2). Conditions: those that each theorem names. -/
import Derived.Test.YtledmebhlmpjaaaPzS
import Derived.Test.YtledmebhlmpjaaaSpoils
set_option linter.unusedVariables false
set_option linter.unusedSimpArgs false
namespace Peg
theorem play_pegs {a b o : Int} : ∀ (J : List Ln) (p q : Int), playTo false a b o p J = some q → pegs q + J.length = pegs p
  | [], p, q, h => by simp only [playTo, Option.some.injEq] at h; subst h; simp
  | l :: J, p, q, h => by
    simp only [playTo] at h
    split at h
    · rename_i hd
      obtain ⟨h1, h2, h3⟩ := doOk_pos hd
      have hpj := pegs_jump (linesOf_in (isLn_mem h2)).1 h3
      have := play_pegs J _ q h
      rw [List.length_cons]
      omega
    · cases h
/-- a play that ends at the goal is the game of some index -/
theorem play_index {a b o g : Int} : ∀ (J : List Ln) (p : Int), playTo false a b o p J = some g → ∃ i, i < games a b o g p ∧ gAt a b o g (pegs p) p i = J
  | [], p, h => by
    simp only [playTo, Option.some.injEq] at h
    subst h
    refine ⟨0, by rw [games_goal]; omega, ?_⟩
    cases pegs p <;> simp [gAt]
  | l :: J, p, h => by
    have hlen := play_pegs (l :: J) p g h
    simp only [playTo] at h
    split at h
    · rename_i hd
      obtain ⟨h1, h2, h3⟩ := doOk_pos hd
      have hm := isLn_mem h2
      have hpj := pegs_jump (linesOf_in hm).1 h3
      have hne : p ≠ g := by
        rintro rfl
        rw [List.length_cons] at hlen
        omega
      obtain ⟨j, h4, h5⟩ := play_index J _ h
      obtain ⟨i, h6, h7⟩ := pick_exists (f := fun l => games a b o g (flip p l)) (L := (linesOf a b o).filter (canJ p)) (List.mem_filter.2 ⟨hm, h3⟩) h4
      refine ⟨i, by rw [games_step hne]; exact h6, ?_⟩
      rw [gAt_cons hne h7 hpj, h5]
    · cases h
theorem one_game {a b o s g : Int} (h : isSolvable a b o s g = true) (h1 : games a b o g s = 1) (h10 : (pegs s : Int) - pegs g ≤ 10) : hasOne a b o s g = true := by
  obtain ⟨hl, hp⟩ := way_len h
  obtain ⟨i, hi, he⟩ := play_index _ _ hp
  unfold hasOne
  rw [h, h1]
  rw [h1] at hi
  obtain rfl : i = 0 := by omega
  have e : gameAt a b o s g 0 = wayTo a b o s g := he
  simp only [List.range_one, List.all_cons, List.all_nil, Bool.and_true, Bool.true_and, Bool.and_eq_true, decide_eq_true_eq]
  refine ⟨⟨h10, by omega⟩, ?_⟩
  rw [e]
  unfold same10
  simp only [Bool.and_eq_true, decide_eq_true_eq]
  exact ⟨⟨by omega, by omega⟩, eqv_refl _⟩
theorem one_orders {a b o s g : Int} (h : hasOne a b o s g = true) : games a b o g s ≤ ordersOf (wayTo a b o s g) := by
  unfold hasOne at h
  simp only [Bool.and_eq_true, decide_eq_true_eq, List.all_eq_true, List.mem_range] at h
  obtain ⟨⟨⟨h1, _⟩, _⟩, h4⟩ := h
  refine games_orders (solv_steps h1).2.1 fun i hi => ?_
  have := h4 i hi
  unfold same10 at this
  simp only [Bool.and_eq_true] at this
  exact this.2
end Peg
namespace Peg
theorem sum_sub {f : Int → Nat} : ∀ (P R : List Int), P.Pairwise (· ≠ ·) → (∀ x ∈ P, x ∈ R) → (P.map f).sum ≤ (R.map f).sum
  | [], R, _, _ => by simp
  | x :: P, R, hp, h => by
    obtain ⟨h1, h2⟩ := List.pairwise_cons.1 hp
    have hx := h x (by simp)
    have hs : (R.map f).sum = f x + ((R.erase x).map f).sum := by
      have := (List.perm_cons_erase hx).map f
      rw [this.sum_nat]
      simp
    have := sum_sub (f := f) P (R.erase x) h2 fun y hy => (List.mem_erase_of_ne (fun e => h1 y hy e.symm)).2 (h y (by simp [hy]))
    rw [hs, List.map_cons, List.sum_cons]
    omega
theorem spoils_sum {a b o s g : Int} (h : puzzleOk a b o s g = true) : spoils a b o s g = (((reachList a b o s).map (spoilsAt (linesOf a b o) (spreadOf a b o g true))).sum : Nat) := by
  unfold spoils
  rw [if_pos h, spoilsTo, List.take_length]
/-- the jumps of a position that spoil it -/
theorem spoiled_count {a b o g q : Int} (hq : posOk a b o q = true) (hr : reach a b o q g false = true) :
    (jumpsOf a b o q).countP (isSpoiled a b o q g) = spoilsAt (linesOf a b o) (spreadOf a b o g true) q := by
  have hh : hasB (spreadOf a b o g true) q = true := by rw [has_reach]; exact hr
  unfold spoilsAt
  rw [if_pos hh, jumpsOf, if_pos hq, List.countP_filter]
  refine List.countP_congr fun l hl => ?_
  have hd : canJ q l = true → doOk false a b o q l = true := fun h => by simp [doOk, hq, isLn_of hl, can, h]
  unfold isSpoiled spoilsBy
  rw [has_reach]
  cases hc : canJ q l
  · simp
  · rw [hd hc, hr]
    simp
theorem path_spoils {a b o s g : Int} {P : List Int} (h : puzzleOk a b o s g = true) (hp : P.Pairwise (· ≠ ·)) (hm : ∀ x ∈ P, x ∈ reachList a b o s) :
    ((P.map (spoilsAt (linesOf a b o) (spreadOf a b o g true))).sum : Int) ≤ spoils a b o s g := by
  rw [spoils_sum h]
  have := sum_sub (f := spoilsAt (linesOf a b o) (spreadOf a b o g true)) P _ hp hm
  exact_mod_cast this
/-- where a play is lost there is a jump that spoils -/
theorem lost_spoils {a b o s g q : Int} {l : Ln} (h : puzzleOk a b o s g = true) (hm : q ∈ reachList a b o s) (hr : reach a b o q g false = true) (hl : l ∈ linesOf a b o) (hc : canJ q l = true) (hn : reach a b o (flip q l) g false = false) : 0 < spoils a b o s g := by
  have h1 := path_spoils (P := [q]) h (by simp) (by simpa using hm)
  have h2 : 1 ≤ spoilsAt (linesOf a b o) (spreadOf a b o g true) q := by
    unfold spoilsAt
    rw [if_pos (by rw [has_reach]; exact hr)]
    refine List.countP_pos_iff.2 ⟨l, hl, ?_⟩
    unfold spoilsBy
    rw [has_reach, hc, hn]
    rfl
  simp at h1
  omega
end Peg
namespace Peg
/-- a play has come from s to q, the goal still in reach; sp jumps were counted that spoil -/
def Along (a b o s g q sp : Int) : Prop := isSmall a b o = true ∧ posOk a b o s = true ∧ posOk a b o g = true ∧ Steps (linesOf a b o) false s q ∧ reach a b o q g false = true ∧ ∃ P : List Int, P.Pairwise (· ≠ ·) ∧ (∀ x ∈ P, Steps (linesOf a b o) false s x ∧ pegs q < pegs x) ∧ sp = ((P.map (spoilsAt (linesOf a b o) (spreadOf a b o g true))).sum : Nat)
theorem Along.pz {a b o s g q sp : Int} (h : Along a b o s g q sp) : puzzleOk a b o s g = true := by
  obtain ⟨h1, h2, h3, _⟩ := h
  simp [puzzleOk, h1, h2, h3]
theorem Along.pos {a b o s g q sp : Int} (h : Along a b o s g q sp) : posOk a b o q = true := h.2.2.2.1.pos h.2.1
theorem play_way {a b o : Int} : ∀ (J : List Ln) (p q : Int), playTo false a b o p J = some q → Steps (linesOf a b o) false p q
  | [], p, q, h => by simp only [playTo, Option.some.injEq] at h; subst h; exact .refl _
  | l :: J, p, q, h => by
    simp only [playTo] at h
    split at h
    · rename_i hd
      obtain ⟨h1, h2, h3⟩ := doOk_pos hd
      exact .step (isLn_mem h2) h3 (play_way J _ q h)
    · cases h
theorem short_solv {a b o s g : Int} {J : List Ln} (h1 : isSmall a b o = true) (h2 : posOk a b o s = true) (h3 : posOk a b o g = true) (h4 : playTo false a b o s J = some g) : isSolvable a b o s g = true := by
  unfold isSolvable puzzleOk
  rw [h1, h2, h3, reach, (hasB_iff h1 h2).2 (play_way J s g h4)]
  rfl
theorem short_len {a b o s g : Int} {J : List Ln} (h1 : isSmall a b o = true) (h2 : posOk a b o s = true) (h3 : posOk a b o g = true) (h4 : playTo false a b o s J = some g) (h5 : J.length ≤ 5) : (wayTo a b o s g).length ≤ 5 ∧ (pegs s : Int) - pegs g ≤ 10 := by
  have h6 := (way_len (short_solv h1 h2 h3 h4)).1
  have h7 := play_pegs J s g h4
  omega
theorem along_mem {a b o s q : Int} (hs : isSmall a b o = true) (hp : posOk a b o s = true) : q ∈ reachList a b o s ↔ Steps (linesOf a b o) false s q := by
  rw [← hasB_iff hs hp]
  constructor
  · intro h
    have h1 := listOf_mem h
    simp only [hasB, Bool.and_eq_true, decide_eq_true_eq]
    exact ⟨⟨h1.1, h1.2.1⟩, h1.2.2⟩
  · intro h
    simp only [hasB, Bool.and_eq_true, decide_eq_true_eq] at h
    unfold reachList listOf listTo
    rw [List.mem_map]
    refine ⟨q.toNat, ?_, by omega⟩
    rw [List.mem_filter, List.mem_range]
    exact ⟨by omega, h.2⟩
theorem along_start {a b o s g : Int} (h : isSolvable a b o s g = true) : Along a b o s g s 0 := by
  obtain ⟨h1, h2, h3, h4⟩ := solv_steps h
  unfold isSolvable at h
  simp only [Bool.and_eq_true] at h
  exact ⟨h1, h2, h3, .refl _, h.2, [], by simp, by simp, by simp⟩
theorem Along.le {a b o s g q sp : Int} (h : Along a b o s g q sp) : 0 ≤ sp ∧ sp ≤ spoils a b o s g := by
  obtain ⟨h1, h2, h3, h4, h5, P, h6, h7, rfl⟩ := id h
  exact ⟨by omega, path_spoils h.pz h6 fun x hx => (along_mem h1 h2).2 (h7 x hx).1⟩
theorem jumps_mem {a b o q : Int} {l : Ln} (h : l ∈ jumpsOf a b o q) : posOk a b o q = true ∧ l ∈ linesOf a b o ∧ canJ q l = true := by
  unfold jumpsOf at h
  split at h
  · exact ⟨by assumption, (List.mem_filter.1 h).1, (List.mem_filter.1 h).2⟩
  · cases h
theorem jumps_do {a b o q : Int} {l : Ln} (h : l ∈ jumpsOf a b o q) : doTo false a b o q l = flip q l := by
  obtain ⟨h1, h2, h3⟩ := jumps_mem h
  unfold doTo doOk
  rw [h1, isLn_of h2, show can false q l = canJ q l from rfl, h3]
  rfl
theorem jumps_pos {a b o q : Int} {l : Ln} (h : l ∈ jumpsOf a b o q) : posOk a b o (flip q l) = true := by
  obtain ⟨h1, h2, h3⟩ := jumps_mem h
  exact Steps.pos (back := false) h1 (Steps.snoc (back := false) (Steps.refl q) h2 h3)
theorem Along.some {a b o s g q sp : Int} (h : Along a b o s g q sp) (hne : q ≠ g) : 0 < (jumpsOf a b o q).length := by
  have hq := h.pos
  obtain ⟨h1, h2, h3, h4, h5, _⟩ := h
  have h6 := (hasB_iff (back := false) (q := g) h1 hq).1 h5
  cases h6 with
  | refl => exact absurd rfl hne
  | step hl hc _ =>
    unfold jumpsOf
    rw [if_pos hq]
    exact List.length_pos_iff.2 fun e => by
      have := List.mem_filter.2 ⟨hl, hc⟩
      rw [show List.filter (can false q) (linesOf a b o) = [] from e] at this
      cases this
theorem Along.step {a b o s g q sp : Int} {l : Ln} (h : Along a b o s g q sp) (hl : l ∈ jumpsOf a b o q) (hr : reach a b o (flip q l) g false = true) :
    Along a b o s g (flip q l) (sp + ((jumpsOf a b o q).countP (isSpoiled a b o q g) : Nat)) := by
  obtain ⟨hq, h8, h9⟩ := jumps_mem hl
  obtain ⟨h1, h2, h3, h4, h5, P, h6, h7, rfl⟩ := h
  have hpj := pegs_jump (linesOf_in h8).1 h9
  refine ⟨h1, h2, h3, h4.snoc h8 h9, hr, q :: P, List.pairwise_cons.2 ⟨fun x hx e => ?_, h6⟩, fun x hx => ?_, ?_⟩
  · have := (h7 x hx).2
    subst e
    omega
  · rcases List.mem_cons.1 hx with rfl | hx
    · exact ⟨h4, by omega⟩
    · exact ⟨(h7 x hx).1, by have := (h7 x hx).2; omega⟩
  · rw [spoiled_count hq h5]
    simp only [List.map_cons, List.sum_cons]
    omega
theorem Along.lost {a b o s g q sp : Int} {l : Ln} (h : Along a b o s g q sp) (hl : l ∈ jumpsOf a b o q) (hr : reach a b o (flip q l) g false = false) : 0 < spoils a b o s g := by
  obtain ⟨hq, h8, h9⟩ := jumps_mem hl
  have hz := h.pz
  obtain ⟨h1, h2, h3, h4, h5, _⟩ := h
  exact lost_spoils hz ((along_mem h1 h2).2 h4) h5 h8 h9 hr
theorem jumpsL_le (a b o q : Int) : (jumpsOf a b o q).length ≤ 196 := by
  unfold jumpsOf
  split
  · exact Nat.le_trans (List.length_filter_le _ _) (linesOf_le a b o)
  · simp
/-- the count of jumps that spoil, part by part -/
def spoilNo (a b o q g : Int) (k : Nat) : Int := (((jumpsOf a b o q).take k).countP (isSpoiled a b o q g) : Nat)
theorem spoilNo_0 (a b o q g : Int) : spoilNo a b o q g 0 = 0 := by simp [spoilNo]
theorem spoilNo_succ (a b o q g : Int) (k : Nat) (hk : k < (jumpsOf a b o q).length) : spoilNo a b o q g (k + 1) = spoilNo a b o q g k + (if isSpoiled a b o q g ((jumpsOf a b o q).getD k Ln0) = true then 1 else 0) := by
  unfold spoilNo
  rw [List.take_succ_eq_append_getElem hk, List.countP_append]
  simp only [List.getD_eq_getElem?_getD, List.getElem?_eq_getElem hk, Option.getD_some, List.countP_singleton]
  split <;> simp
theorem spoilNo_all (a b o q g : Int) : spoilNo a b o q g (jumpsOf a b o q).length = ((jumpsOf a b o q).countP (isSpoiled a b o q g) : Nat) := by
  unfold spoilNo
  rw [List.take_length]
theorem spoilNo_bd (a b o q g : Int) (k : Nat) : 0 ≤ spoilNo a b o q g k ∧ spoilNo a b o q g k ≤ 196 := by
  unfold spoilNo
  have h1 := List.countP_le_length (p := isSpoiled a b o q g) (l := (jumpsOf a b o q).take k)
  have h2 := jumpsL_le a b o q
  rw [List.length_take] at h1
  omega
end Peg
