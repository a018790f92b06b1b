/- Fewest0: the fewest pegs that are left and the fewest sweeps to a goal, plain; no program in sight. No condition. -/
import Derived.Test.YtfmplmlilmalpaaWay1
set_option linter.unusedVariables false
set_option linter.unusedSimpArgs false
namespace Peg
/-- the lesser one; less than nought: none yet -/
def lessOf (best c : Int) : Int := if best < 0 ∨ c < best then c else best
def fewestL (L : List Int) : Int := L.foldl (fun m q => lessOf m (pegs q)) (-1)
def fewestLeft (a b o p : Int) : Int := fewestL (reachList a b o p)
/-- the jumps from p that lead on to the goal -/
def onTo (a b o g p : Int) (l : Ln) : Bool := canJ p l && hasB (spreadOf a b o g true) (flip p l)
def fwStep (a b o g p last : Int) (F : Int → Int → Int) (best : Int) (l : Ln) : Int :=
  if onTo a b o g p l = true then lessOf best (F (flip p l) l.t + if l.f = last then 0 else 1) else best
def fw (a b o g : Int) : Nat → Int → Int → Int
  | 0, p, _ => if p = g then 0 else -1
  | f + 1, p, last => if p = g then 0 else (linesOf a b o).foldl (fwStep a b o g p last (fw a b o g f)) (-1)
/-- the least number of further sweeps -/
def fewest (a b o g p last : Int) : Int := fw a b o g (pegs p) p last
def fewestSweeps (a b o p g : Int) : Int := if reach a b o p g false = true then fewest a b o g p (-1) else -1
theorem fewest_goal (a b o g last : Int) : fewest a b o g g last = 0 := by
  unfold fewest
  cases pegs g <;> simp [fw]
theorem foldl_congr_mem {α β : Type} (f g : β → α → β) : ∀ (l : List α) (b : β), (∀ x ∈ l, ∀ b, f b x = g b x) → l.foldl f b = l.foldl g b
  | [], b, _ => rfl
  | x :: l, b, h => by
    rw [List.foldl_cons, List.foldl_cons, h x (by simp) b]
    exact foldl_congr_mem f g l _ fun y hy b => h y (by simp [hy]) b
theorem fewest_step {a b o g p last : Int} (h : p ≠ g) : fewest a b o g p last = (linesOf a b o).foldl (fwStep a b o g p last (fewest a b o g)) (-1) := by
  unfold fewest
  cases hp : pegs p with
  | zero =>
    rw [fw, if_neg h]
    have key : ∀ L : List Ln, (∀ l ∈ L, l ∈ linesOf a b o) → ∀ x : Int, L.foldl (fwStep a b o g p last (fun q t => fw a b o g (pegs q) q t)) x = x := by
      intro L
      induction L with
      | nil => intro _ x; rfl
      | cons l L ih =>
        intro hL x
        rw [List.foldl_cons]
        have : fwStep a b o g p last (fun q t => fw a b o g (pegs q) q t) x l = x := by
          unfold fwStep
          rw [if_neg]
          intro hc
          simp only [onTo, Bool.and_eq_true] at hc
          have := pegs_jump (linesOf_in (hL l (by simp))).1 hc.1
          omega
        rw [this]
        exact ih (fun m hm => hL m (by simp [hm])) x
    exact (key _ (fun _ h => h) _).symm
  | succ f =>
    rw [fw, if_neg h]
    refine foldl_congr_mem _ _ _ _ fun l hl x => ?_
    unfold fwStep
    by_cases hc : onTo a b o g p l = true
    · rw [if_pos hc, if_pos hc]
      simp only [onTo, Bool.and_eq_true] at hc
      have := pegs_jump (linesOf_in hl).1 hc.1
      show _ = lessOf x (fw a b o g (pegs (flip p l)) (flip p l) l.t + if l.f = last then 0 else 1)
      rw [show pegs (flip p l) = f from by omega]
    · rw [if_neg hc, if_neg hc]
/-- what the least of a list of steps is bounded by -/
theorem fw_fold {a b o g p last : Int} {F : Int → Int → Int} {m : Int} (hF : ∀ l ∈ linesOf a b o, onTo a b o g p l = true → 0 ≤ F (flip p l) l.t ∧ F (flip p l) l.t ≤ m) :
    ∀ (L : List Ln) (x : Int), (∀ l ∈ L, l ∈ linesOf a b o) → (x = -1 ∨ (0 ≤ x ∧ x ≤ m + 1)) →
      (L.foldl (fwStep a b o g p last F) x = -1 ∧ x = -1 ∧ ∀ l ∈ L, onTo a b o g p l = false) ∨ (0 ≤ L.foldl (fwStep a b o g p last F) x ∧ L.foldl (fwStep a b o g p last F) x ≤ m + 1)
  | [], x, _, hx => by
    rcases hx with rfl | hx
    · exact Or.inl ⟨rfl, rfl, fun _ h => by cases h⟩
    · exact Or.inr hx
  | l :: L, x, hL, hx => by
    rw [List.foldl_cons]
    have hl := hL l (by simp)
    have hL' : ∀ m ∈ L, m ∈ linesOf a b o := fun m hm => hL m (by simp [hm])
    by_cases hc : onTo a b o g p l = true
    · obtain ⟨f1, f2⟩ := hF l hl hc
      have hs : 0 ≤ fwStep a b o g p last F x l ∧ fwStep a b o g p last F x l ≤ m + 1 := by
        unfold fwStep
        rw [if_pos hc]
        unfold lessOf
        split
        · constructor <;> split <;> omega
        · rename_i hh; omega
      rcases fw_fold (last := last) hF L (fwStep a b o g p last F x l) hL' (Or.inr hs) with h | h
      · omega
      · exact Or.inr h
    · have hs : fwStep a b o g p last F x l = x := by unfold fwStep; rw [if_neg hc]
      rw [hs]
      rcases fw_fold (last := last) hF L x hL' hx with ⟨h1, h2, h3⟩ | h
      · refine Or.inl ⟨h1, h2, fun m hm => ?_⟩
        rcases List.mem_cons.1 hm with rfl | hm
        · simpa using hc
        · exact h3 m hm
      · exact Or.inr h
theorem fewest_bd {a b o g : Int} (hs : isSmall a b o = true) (hg : posOk a b o g = true) : ∀ (k : Nat) (p : Int), pegs p = k → posOk a b o p = true → reach a b o p g false = true → ∀ last, 0 ≤ fewest a b o g p last ∧ fewest a b o g p last ≤ k
  | k, p, hk, hp, hr, last => by
    by_cases hne : p = g
    · subst hne; rw [fewest_goal]; omega
    · rw [fewest_step hne]
      obtain ⟨y, h1, h2, h3, h4, h5, h6⟩ := step_some hs hp hg hr hne
      have hpj := pegs_jump (linesOf_in h2).1 h3
      match k, hk with
      | 0, hk => omega
      | k + 1, hk =>
        have hF : ∀ l ∈ linesOf a b o, onTo a b o g p l = true → 0 ≤ fewest a b o g (flip p l) l.t ∧ fewest a b o g (flip p l) l.t ≤ (k : Int) := by
          intro l hl hc
          simp only [onTo, Bool.and_eq_true] at hc
          have h7 := pegs_jump (linesOf_in hl).1 hc.1
          have h8 := hc.2
          rw [has_reach] at h8
          exact fewest_bd hs hg k _ (by omega) (posOk_flip hp hl) h8 _
        rcases fw_fold (last := last) hF (linesOf a b o) (-1) (fun _ h => h) (Or.inl rfl) with ⟨_, _, h8⟩ | h8
        · have := h8 y h2
          simp [onTo, h3, h4] at this
        · exact ⟨h8.1, by have := h8.2; omega⟩
end Peg
