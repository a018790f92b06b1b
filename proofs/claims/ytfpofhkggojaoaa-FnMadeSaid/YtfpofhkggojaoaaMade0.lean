/- Made0: what games and puzzles that are made look like, plain: the turned undos play to the goal, one peg more a jump; the best seed makes a puzzle; no program in sight. No condition. -/
import Derived.Test.YtfpofhkggojaoaaBestS
set_option linter.unusedVariables false
set_option linter.unusedSimpArgs false
namespace Peg
theorem mkRun_plays {a b o g : Int} : ∀ (k : Nat) (m : Mk), posOk a b o m.p = true → playTo false a b o m.p m.out.reverse = some g →
    posOk a b o (mkRun a b o k m).p = true ∧ playTo false a b o (mkRun a b o k m).p (mkRun a b o k m).out.reverse = some g ∧
    (mkRun a b o k m).out.length ≤ m.out.length + k ∧ pegs (mkRun a b o k m).p + m.out.length = pegs m.p + (mkRun a b o k m).out.length
  | 0, m, hp, h => ⟨hp, h, Nat.le_refl _, rfl⟩
  | k + 1, m, hp, h => by
    unfold mkRun
    split
    · exact ⟨hp, h, by omega, rfl⟩
    · rename_i hne
      obtain ⟨_, h2, h3⟩ := undosOf_in (mkLn_in hne)
      have hp0 := (posOk_bd hp).2.1
      have hp2 : posOk a b o (flip m.p (mkLn a b o m)) = true := posOk_flip hp h2
      have hc : can false (flip m.p (mkLn a b o m)) (mkLn a b o m) = true := can_flip (back := true) (by simpa [can] using h3)
      have hpl : playTo false a b o (mkNext a b o m).p (mkNext a b o m).out.reverse = some g := by
        simp only [mkNext, List.reverse_append, List.reverse_cons, List.reverse_nil, List.nil_append, List.cons_append, playTo]
        rw [if_pos (by simp [doOk, hp2, isLn_of h2, hc]), flip_flip hp0]
        exact h
      obtain ⟨i1, i2, i3, i4⟩ := mkRun_plays k (mkNext a b o m) hp2 hpl
      have hpg := pegs_jump (linesOf_in h2).1 (by simpa [can] using hc)
      rw [flip_flip hp0] at hpg
      have e1 : (mkNext a b o m).out.length = m.out.length + 1 := by simp [mkNext]
      have e2 : pegs (mkNext a b o m).p = pegs m.p + 1 := by simp only [mkNext]; omega
      exact ⟨i1, i2, by omega, by omega⟩
/-- the game that is made plays from its position to the goal -/
theorem made_plays {a b o g n s : Int} (hg : posOk a b o g = true) (hn : inR n 0 40 = true) (hs : inR s 0 65536 = true) :
    isSolution a b o (makeGame a b o g n s).2 g (makeGame a b o g n s).1 = true ∧ ((makeGame a b o g n s).1.length : Int) ≤ n ∧ posOk a b o (makeGame a b o g n s).2 = true ∧
    pegs (makeGame a b o g n s).2 = pegs g + (makeGame a b o g n s).1.length := by
  have h0 := inR_iff.1 hn
  obtain ⟨h1, h2, h3, h4⟩ := mkRun_plays (g := g) n.toNat ⟨s, g, []⟩ hg (by simp [playTo])
  have e : makeGame a b o g n s = ((mkRun a b o n.toNat ⟨s, g, []⟩).out.reverse, (mkRun a b o n.toNat ⟨s, g, []⟩).p) := by simp [makeGame, makeOk, hg, hn, hs]
  rw [e]
  simp only [List.length_nil, Nat.add_zero, Nat.zero_add] at h3 h4
  refine ⟨?_, by simp only [List.length_reverse]; omega, h1, by simp only [List.length_reverse]; exact h4⟩
  have : (mkRun a b o n.toNat ⟨s, g, []⟩).out.reverse.length ≤ 60 := by rw [List.length_reverse]; omega
  rw [isSolution, playAll, if_pos h1, if_pos this, h2]
  simp
theorem makePuzzle_iff {a b o h n s : Int} (hsm : isSmall a b o = true) (hh : hasHole a b o h = true) (hn : inR n 0 40 = true) (hs : inR s 0 65536 = true) :
    makePuzzle a b o h n s = if ((makeGame a b o (pw h) n s).1.length : Int) = n then some (makeGame a b o (pw h) n s).2 else none := by
  have h1 := (made_plays (posOk_pw hh) hn hs).2.1
  rw [makePuzzle, if_pos (by simp [makeP1, hsm, hh, hn, hs])]
  by_cases h2 : ((makeGame a b o (pw h) n s).1.length : Int) = n
  · rw [if_neg (by omega), if_pos h2]
  · rw [if_pos (by omega), if_neg h2]
/-- the best seed makes a puzzle -/
theorem bsRun_some {a b o h n : Int} : ∀ (k : Nat) (i : Nat) (m : Int), bsRun a b o h n k = some (i, m) → (makePuzzle a b o h n i).isSome = true
  | 0, i, m, e => by cases e
  | k + 1, i, m, e => by
    rw [bsRun] at e
    unfold bsStep at e
    cases hm : makePuzzle a b o h n k with
    | none => rw [hm] at e; exact bsRun_some k i m e
    | some p =>
      rw [hm] at e
      cases hb : bsRun a b o h n k with
      | none => rw [hb] at e; simp only [Option.some.injEq, Prod.mk.injEq] at e; rw [← e.1, hm]; rfl
      | some x =>
        obtain ⟨j, q⟩ := x
        rw [hb] at e
        simp only at e
        split at e
        · simp only [Option.some.injEq, Prod.mk.injEq] at e; rw [← e.1, hm]; rfl
        · simp only [Option.some.injEq, Prod.mk.injEq] at e; rw [← e.1]; exact bsRun_some k j q hb
theorem bestSeed_bd {a b o h n : Int} (t : Nat) (ht : 1 ≤ t ∧ t ≤ 20) : -1 ≤ bestSeed a b o h n t ∧ bestSeed a b o h n t < t ∧ (0 ≤ bestSeed a b o h n t → (makePuzzle a b o h n (bestSeed a b o h n t)).isSome = true) := by
  rw [bestSeed, if_pos (inR_iff.2 (by omega)), Int.toNat_natCast]
  cases hb : bsRun a b o h n t with
  | none => simp only [bsBest]; omega
  | some x =>
    obtain ⟨i, m⟩ := x
    have h1 := bsRun_some t i m hb
    have h2 : i < t := by
      rcases bsRun_bd a b o h n t with h0 | ⟨i', m', h0, _, _, h3⟩
      · rw [h0] at hb; cases hb
      · rw [h0] at hb
        simp only [Option.some.injEq, Prod.mk.injEq] at hb
        omega
    simp only [bsBest]
    exact ⟨by omega, by omega, fun _ => h1⟩
theorem nextSeed_ne {s : Int} (h0 : 0 ≤ s) (h1 : s ≤ 65000) : nextSeed s ≠ s := by
  rw [nextSeed, if_pos (inR_iff.2 (by omega))]
  omega
theorem pegs_pw {h : Int} (h0 : 0 ≤ h) (h1 : h < 49) : pegs (pw h) = 1 := by
  obtain ⟨k, rfl⟩ : ∃ k : Nat, h = k := ⟨h.toNat, by omega⟩
  rw [pegs_eq]
  have e : (pw (k : Int)).toNat = 2 ^ k := by
    unfold pw
    have : ((2 : Int) ^ (k : Int).toNat) = ((2 ^ k : Nat) : Int) := by simp
    rw [this]; rfl
  rw [e]
  have : ∀ j, j < 49 → (List.range 49).countP (fun i : Nat => (2 ^ j).testBit i) = 1 := by decide
  exact this k (by omega)
end Peg
