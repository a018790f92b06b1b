/- CheckZ: contracts of CheckClaim and the reference's. Conditions: numbers in range. -/
import Derived.Test.YtfmplmlilmalpaaGreatClK
import Derived.Test.YtfmplmlilmalpaaGreatClW
import Derived.Test.YtfmplmlilmalpaaGreatPlayAll
import Derived.Test.YtfmplmlilmalpaaGreatClP
import Derived.Test.YtfmplmlilmalpaaGreatClO
set_option linter.unusedVariables false
set_option linter.unusedSimpArgs false
namespace Peg
def checkBody (a b o s g : Int) (k n : Int) (J : List Ln) (W : List Int) : Bool :=
  if k = 1 then isSolvedBy a b o s g J
  else if k = 2 then isProof a b o W s g || !sameKey a b o s g
  else if k = 3 then (match playAll a b o s J with | none => false | some q => decide ((pegs q : Int) = n))
  else isSolvedBy a b o s g J && decide ((sweeps J : Int) = n)
def checkClaim (a b o s g : Int) (k n : Int) (J : List Ln) (W : List Int) : Bool := puzzleOk a b o s g && (claimOk k n J.length && checkBody a b o s g k n J W)
theorem playTo_endC {back : Bool} {a b o : Int} : ∀ (L : List Ln) (p q : Int), posOk a b o p = true → playTo back a b o p L = some q → posOk a b o q = true := by
  intro L
  induction L with
  | nil => intro p q h h2; simp [playTo] at h2; subst h2; exact h
  | cons l r ih =>
    intro p q h h2
    simp only [playTo] at h2
    split at h2
    · rename_i h3; exact ih _ _ (doOk_next h3) h2
    · cases h2
theorem playAll_toC {a b o p q : Int} {L : List Ln} (h : playAll a b o p L = some q) : posOk a b o p = true ∧ L.length ≤ 60 ∧ playTo false a b o p L = some q := by
  unfold playAll at h
  split at h
  · split at h
    · exact ⟨by assumption, by assumption, h⟩
    · cases h
  · cases h
theorem playAll_endC {a b o p q : Int} {L : List Ln} (h : playAll a b o p L = some q) : posOk a b o q = true ∧ L.length ≤ 60 := by
  obtain ⟨h1, h2, h3⟩ := playAll_toC h
  exact ⟨playTo_endC _ _ _ h1 h3, h2⟩
end Peg
namespace Go.Proofs.YtfmplmlilmalpaaGreat
open Go.ChangeShapes Go.WideShapes Go.ChangeAt Go.RowKit Peg Go.Sort
set_option maxHeartbeats 4000000 in
set_option maxRecDepth 100000 in
theorem CheckClaim_any (a b o s g k n : Int) (J : List Ln) (L : List Int) (vj vw : Value) (hs : s ≤ 9223372036854775807) (hg : g ≤ 9223372036854775807) (w : World) {B B' : Nat} (hj : Own ELine w B vj J) (hw : Own EInt w B' vw L) :
    Calls Tryz.prog 6 #[.agg #[.int .i64 a, .int .i64 b, .int .i64 o, .int .i64 s, .int .i64 g], .agg #[.int .i64 k, .int .i64 n, vj, vw]] w fun e w' => e = .returned (.bool (checkClaim a b o s g k n J L)) ∧ Below w.heap.size w w' := by
  have HJ := Lib.hid (fun w' (hb : Below w.heap.size w w') => hj.keep hb)
  have HW := Lib.hid (fun w' (hb : Below w.heap.size w w') => hw.keep hb)
  obtain ⟨aJ, capJ, rfl, _⟩ := hj.lineG
  obtain ⟨aW, capW, rfl, _⟩ := hw.intG
  clear hj hw
  have HPZ : Hid (∀ W, Calls Tryz.prog 17 #[.agg #[.int .i64 a, .int .i64 b, .int .i64 o, .int .i64 s, .int .i64 g]] W fun e w' => e = .returned (.bool (puzzleOk a b o s g)) ∧ Below W.heap.size W w') := fun W => PuzzleOk_any a b o s g hs hg W
  have HCO : Hid (∀ W, Own ELine W B (.slice aJ J.length capJ) J → Calls Tryz.prog 10 #[.agg #[.int .i64 k, .int .i64 n, .slice aJ J.length capJ, .slice aW L.length capW]] W fun e w' => e = .returned (.bool (claimOk k n J.length)) ∧ Below W.heap.size W w') := fun W hW => ClaimOk_any k n J _ _ W hW
  have HF : Hid (checkClaim a b o s g k n J L = (puzzleOk a b o s g && (claimOk k n J.length && checkBody a b o s g k n J L))) := rfl
  cases hpz : puzzleOk a b o s g
  · have HE : Hid (checkClaim a b o s g k n J L = false) := by show _ = _; rw [HF.out, hpz]; rfl
    rw [hpz] at HPZ
    clear hpz HF
    go_enter Tryz.func6, Tryz.ntmps6
    go_wp2_with (first | (go_at_call 17; refine (HPZ.out _).mono ?_; rintro e w' ⟨rfl, hb⟩; obtain ⟨hc, hf, hz, hy⟩ := bcell hb; clear hy; (try simp only [World.size_alloc, World.size_setCell, World.size_drew] at hz); (try have gQ0 : w.heap.size < w'.heap.size := by omega); (try have gQ1 : w.heap.size + 1 < w'.heap.size := by omega)) | (go_at_call 10; refine (HCO.out _ (HJ.out _ (by (repeat' first | (with_reducible exact Below.refl _ _) | (with_reducible refine Below.alloc ?_ ?_ _) | (with_reducible refine Below.drew ?_) | (with_reducible refine Below.setCell ?_ ?_ _) | (with_reducible refine below_via (by assumption) ?_ ?_) | go_size)))).mono ?_; rintro e w' ⟨rfl, hb⟩; obtain ⟨hc, hf, hz, hy⟩ := bcell hb; clear hy; (try simp only [World.size_alloc, World.size_setCell, World.size_drew] at hz); (try have gQ0 : w.heap.size < w'.heap.size := by omega); (try have gQ1 : w.heap.size + 1 < w'.heap.size := by omega)))
    all_goals go_ret
    all_goals exact ⟨by simp [HE.out], by (repeat' first | (with_reducible exact Below.refl _ _) | (with_reducible refine Below.alloc ?_ ?_ _) | (with_reducible refine Below.drew ?_) | (with_reducible refine Below.setCell ?_ ?_ _) | (with_reducible refine below_via (by assumption) ?_ ?_) | go_size)⟩
  cases hco : claimOk k n J.length
  · have HE : Hid (checkClaim a b o s g k n J L = false) := by show _ = _; rw [HF.out, hpz, hco]; rfl
    rw [hpz] at HPZ
    rw [hco] at HCO
    clear hpz hco HF
    go_enter Tryz.func6, Tryz.ntmps6
    go_wp2_with (first | (go_at_call 17; refine (HPZ.out _).mono ?_; rintro e w' ⟨rfl, hb⟩; obtain ⟨hc, hf, hz, hy⟩ := bcell hb; clear hy; (try simp only [World.size_alloc, World.size_setCell, World.size_drew] at hz); (try have gQ0 : w.heap.size < w'.heap.size := by omega); (try have gQ1 : w.heap.size + 1 < w'.heap.size := by omega)) | (go_at_call 10; refine (HCO.out _ (HJ.out _ (by (repeat' first | (with_reducible exact Below.refl _ _) | (with_reducible refine Below.alloc ?_ ?_ _) | (with_reducible refine Below.drew ?_) | (with_reducible refine Below.setCell ?_ ?_ _) | (with_reducible refine below_via (by assumption) ?_ ?_) | go_size)))).mono ?_; rintro e w' ⟨rfl, hb⟩; obtain ⟨hc, hf, hz, hy⟩ := bcell hb; clear hy; (try simp only [World.size_alloc, World.size_setCell, World.size_drew] at hz); (try have gQ0 : w.heap.size < w'.heap.size := by omega); (try have gQ1 : w.heap.size + 1 < w'.heap.size := by omega)))
    all_goals go_ret
    all_goals exact ⟨by simp [HE.out], by (repeat' first | (with_reducible exact Below.refl _ _) | (with_reducible refine Below.alloc ?_ ?_ _) | (with_reducible refine Below.drew ?_) | (with_reducible refine Below.setCell ?_ ?_ _) | (with_reducible refine below_via (by assumption) ?_ ?_) | go_size)⟩
  have HE : Hid (checkClaim a b o s g k n J L = checkBody a b o s g k n J L) := by show _ = _; rw [HF.out, hpz, hco]; rfl
  have hk4 : 1 ≤ k ∧ k ≤ 4 := by
    unfold claimOk at hco
    simp only [Bool.and_eq_true] at hco
    exact inR_iff.1 hco.1.1
  have HSB : Hid (∀ W, Own ELine W B (.slice aJ J.length capJ) J → Calls Tryz.prog 18 #[.agg #[.int .i64 a, .int .i64 b, .int .i64 o, .int .i64 s, .int .i64 g], .slice aJ J.length capJ] W fun e w' => e = .returned (.bool (isSolvedBy a b o s g J)) ∧ Below W.heap.size W w') := fun W hW => IsSolvedBy_any a b o s g J _ hs hg W hW
  have HB0 : Hid (checkBody a b o s g k n J L = if k = 1 then isSolvedBy a b o s g J
    else if k = 2 then isProof a b o L s g || !sameKey a b o s g
    else if k = 3 then (match playAll a b o s J with | none => false | some q => decide ((pegs q : Int) = n))
    else isSolvedBy a b o s g J && decide ((sweeps J : Int) = n)) := rfl
  rw [hpz] at HPZ
  rw [hco] at HCO
  clear hpz hco HF
  by_cases hk1 : k = 1
  · subst hk1
    have HV : Hid (checkBody a b o s g 1 n J L = isSolvedBy a b o s g J) := rfl
    rw [HE.out, HV.out]
    clear HE HV HB0 hk4
    generalize isSolvedBy a b o s g J = x at *
    go_enter Tryz.func6, Tryz.ntmps6
    go_wp2_with (first | (go_at_call 17; refine (HPZ.out _).mono ?_; rintro e w' ⟨rfl, hb⟩; obtain ⟨hc, hf, hz, hy⟩ := bcell hb; clear hy; (try simp only [World.size_alloc, World.size_setCell, World.size_drew] at hz); (try have gQ0 : w.heap.size < w'.heap.size := by omega); (try have gQ1 : w.heap.size + 1 < w'.heap.size := by omega)) | (go_at_call 10; refine (HCO.out _ (HJ.out _ (by (repeat' first | (with_reducible exact Below.refl _ _) | (with_reducible refine Below.alloc ?_ ?_ _) | (with_reducible refine Below.drew ?_) | (with_reducible refine Below.setCell ?_ ?_ _) | (with_reducible refine below_via (by assumption) ?_ ?_) | go_size)))).mono ?_; rintro e w' ⟨rfl, hb⟩; obtain ⟨hc, hf, hz, hy⟩ := bcell hb; clear hy; (try simp only [World.size_alloc, World.size_setCell, World.size_drew] at hz); (try have gQ0 : w.heap.size < w'.heap.size := by omega); (try have gQ1 : w.heap.size + 1 < w'.heap.size := by omega)) | (go_at_call 18; refine (HSB.out _ (HJ.out _ (by (repeat' first | (with_reducible exact Below.refl _ _) | (with_reducible refine Below.alloc ?_ ?_ _) | (with_reducible refine Below.drew ?_) | (with_reducible refine Below.setCell ?_ ?_ _) | (with_reducible refine below_via (by assumption) ?_ ?_) | go_size)))).mono ?_; rintro e w' ⟨rfl, hb⟩; obtain ⟨hc, hf, hz, hy⟩ := bcell hb; clear hy; (try simp only [World.size_alloc, World.size_setCell, World.size_drew] at hz); (try have gQ0 : w.heap.size < w'.heap.size := by omega); (try have gQ1 : w.heap.size + 1 < w'.heap.size := by omega)))
    all_goals go_ret
    all_goals exact ⟨by first | (simp; done) | (simp; rfl), by (repeat' first | (with_reducible exact Below.refl _ _) | (with_reducible refine Below.alloc ?_ ?_ _) | (with_reducible refine Below.drew ?_) | (with_reducible refine Below.setCell ?_ ?_ _) | (with_reducible refine below_via (by assumption) ?_ ?_) | go_size)⟩
  by_cases hk2 : k = 2
  · subst hk2
    have HV : Hid (checkBody a b o s g 2 n J L = (isProof a b o L s g || !sameKey a b o s g)) := rfl
    rw [HE.out, HV.out]
    have HPF : Hid (∀ W, Own EInt W B' (.slice aW L.length capW) L → Calls Tryz.prog 19 #[.agg #[.int .i64 a, .int .i64 b, .int .i64 o], .slice aW L.length capW, .int .i64 s, .int .i64 g] W fun e w' => e = .returned (.bool (isProof a b o L s g)) ∧ Below W.heap.size W w') := fun W hW => IsProof_any a b o L s g _ hs hg W hW
    have HSK : Hid (∀ W, Calls Tryz.prog 20 #[.agg #[.int .i64 a, .int .i64 b, .int .i64 o], .int .i64 s, .int .i64 g] W fun e w' => e = .returned (.bool (sameKey a b o s g)) ∧ Below W.heap.size W w') := fun W => SameKey_any a b o s g hs hg W
    clear HE HV HB0 hk4 hk1
    generalize isProof a b o L s g = x at *
    generalize sameKey a b o s g = y at *
    cases x <;> cases y
    all_goals
      go_enter Tryz.func6, Tryz.ntmps6
      go_wp2_with (first | (go_at_call 17; refine (HPZ.out _).mono ?_; rintro e w' ⟨rfl, hb⟩; obtain ⟨hc, hf, hz, hy⟩ := bcell hb; clear hy; (try simp only [World.size_alloc, World.size_setCell, World.size_drew] at hz); (try have gQ0 : w.heap.size < w'.heap.size := by omega); (try have gQ1 : w.heap.size + 1 < w'.heap.size := by omega)) | (go_at_call 10; refine (HCO.out _ (HJ.out _ (by (repeat' first | (with_reducible exact Below.refl _ _) | (with_reducible refine Below.alloc ?_ ?_ _) | (with_reducible refine Below.drew ?_) | (with_reducible refine Below.setCell ?_ ?_ _) | (with_reducible refine below_via (by assumption) ?_ ?_) | go_size)))).mono ?_; rintro e w' ⟨rfl, hb⟩; obtain ⟨hc, hf, hz, hy⟩ := bcell hb; clear hy; (try simp only [World.size_alloc, World.size_setCell, World.size_drew] at hz); (try have gQ0 : w.heap.size < w'.heap.size := by omega); (try have gQ1 : w.heap.size + 1 < w'.heap.size := by omega)) | (go_at_call 19; refine (HPF.out _ (HW.out _ (by (repeat' first | (with_reducible exact Below.refl _ _) | (with_reducible refine Below.alloc ?_ ?_ _) | (with_reducible refine Below.drew ?_) | (with_reducible refine Below.setCell ?_ ?_ _) | (with_reducible refine below_via (by assumption) ?_ ?_) | go_size)))).mono ?_; rintro e w' ⟨rfl, hb⟩; obtain ⟨hc, hf, hz, hy⟩ := bcell hb; clear hy; (try simp only [World.size_alloc, World.size_setCell, World.size_drew] at hz); (try have gQ0 : w.heap.size < w'.heap.size := by omega); (try have gQ1 : w.heap.size + 1 < w'.heap.size := by omega)) | (go_at_call 20; refine (HSK.out _).mono ?_; rintro e w' ⟨rfl, hb⟩; obtain ⟨hc, hf, hz, hy⟩ := bcell hb; clear hy; (try simp only [World.size_alloc, World.size_setCell, World.size_drew] at hz); (try have gQ0 : w.heap.size < w'.heap.size := by omega); (try have gQ1 : w.heap.size + 1 < w'.heap.size := by omega)))
      all_goals go_ret
      all_goals exact ⟨by first | (simp; done) | (simp; rfl), by (repeat' first | (with_reducible exact Below.refl _ _) | (with_reducible refine Below.alloc ?_ ?_ _) | (with_reducible refine Below.drew ?_) | (with_reducible refine Below.setCell ?_ ?_ _) | (with_reducible refine below_via (by assumption) ?_ ?_) | go_size)⟩
  by_cases hk3 : k = 3
  · subst hk3
    have HV : Hid (checkBody a b o s g 3 n J L = match playAll a b o s J with | none => false | some q => decide ((pegs q : Int) = n)) := rfl
    rw [HE.out, HV.out]
    have HPL : Hid (∀ W, Own ELine W B (.slice aJ J.length capJ) J → Calls Tryz.prog 21 #[.agg #[.int .i64 a, .int .i64 b, .int .i64 o], .int .i64 s, .slice aJ J.length capJ] W fun e w' => e = .returned (optInt s (playAll a b o s J)) ∧ Below W.heap.size W w') := fun W hW => PlayAll_any a b o s J _ hs W hW
    clear HE HV HB0 hk4 hk1 hk2
    cases hpl : playAll a b o s J with
    | none =>
      rw [hpl] at HPL
      simp only [optInt, Option.getD_none, Option.isSome_none] at HPL
      clear hpl
      go_enter Tryz.func6, Tryz.ntmps6
      go_wp2_with (first | (go_at_call 17; refine (HPZ.out _).mono ?_; rintro e w' ⟨rfl, hb⟩; obtain ⟨hc, hf, hz, hy⟩ := bcell hb; clear hy; (try simp only [World.size_alloc, World.size_setCell, World.size_drew] at hz); (try have gQ0 : w.heap.size < w'.heap.size := by omega); (try have gQ1 : w.heap.size + 1 < w'.heap.size := by omega)) | (go_at_call 10; refine (HCO.out _ (HJ.out _ (by (repeat' first | (with_reducible exact Below.refl _ _) | (with_reducible refine Below.alloc ?_ ?_ _) | (with_reducible refine Below.drew ?_) | (with_reducible refine Below.setCell ?_ ?_ _) | (with_reducible refine below_via (by assumption) ?_ ?_) | go_size)))).mono ?_; rintro e w' ⟨rfl, hb⟩; obtain ⟨hc, hf, hz, hy⟩ := bcell hb; clear hy; (try simp only [World.size_alloc, World.size_setCell, World.size_drew] at hz); (try have gQ0 : w.heap.size < w'.heap.size := by omega); (try have gQ1 : w.heap.size + 1 < w'.heap.size := by omega)) | (go_at_call 21; refine (HPL.out _ (HJ.out _ (by (repeat' first | (with_reducible exact Below.refl _ _) | (with_reducible refine Below.alloc ?_ ?_ _) | (with_reducible refine Below.drew ?_) | (with_reducible refine Below.setCell ?_ ?_ _) | (with_reducible refine below_via (by assumption) ?_ ?_) | go_size)))).mono ?_; rintro e w' ⟨rfl, hb⟩; obtain ⟨hc, hf, hz, hy⟩ := bcell hb; clear hy; (try simp only [World.size_alloc, World.size_setCell, World.size_drew] at hz); (try have gQ0 : w.heap.size < w'.heap.size := by omega); (try have gQ1 : w.heap.size + 1 < w'.heap.size := by omega)) | ((with_reducible refine wp_region_qb ?_ ?_ (fun hq => ?_)); (focus kernel_rfl); (focus kernel_rfl); (repeat (go_big_quiet_step (fail))); refine wpQuiet_nil ?_; intro wq hb; obtain ⟨hc, hf, hz, hy⟩ := bcell hb; clear hq hy; (try simp only [World.size_alloc, World.size_setCell, World.size_drew] at hz); (try have gQ0 : w.heap.size < wq.heap.size := by omega); (try have gQ1 : w.heap.size + 1 < wq.heap.size := by omega)))
      all_goals go_ret
      all_goals exact ⟨by first | (simp; done) | (simp; rfl), by (repeat' first | (with_reducible exact Below.refl _ _) | (with_reducible refine Below.alloc ?_ ?_ _) | (with_reducible refine Below.drew ?_) | (with_reducible refine Below.setCell ?_ ?_ _) | (with_reducible refine below_via (by assumption) ?_ ?_) | go_size)⟩
    | some q =>
      rw [hpl] at HPL
      simp only [optInt, Option.getD_some, Option.isSome_some] at HPL
      obtain ⟨hqo, h60⟩ := playAll_endC hpl
      have hqb := pos_lt hqo
      have HPG : Hid (∀ W, Calls Tryz.prog 22 #[.int .i64 q] W fun e w' => e = .returned (.int .i64 (pegs q : Nat)) ∧ W = w') := fun W => pegsIn_any q hqb.1 hqb.2 W
      clear hpl hqo h60 hqb
      dsimp only
      generalize pegs q = m at *
      go_enter Tryz.func6, Tryz.ntmps6
      go_wp2_with (first | (go_at_call 17; refine (HPZ.out _).mono ?_; rintro e w' ⟨rfl, hb⟩; obtain ⟨hc, hf, hz, hy⟩ := bcell hb; clear hy; (try simp only [World.size_alloc, World.size_setCell, World.size_drew] at hz); (try have gQ0 : w.heap.size < w'.heap.size := by omega); (try have gQ1 : w.heap.size + 1 < w'.heap.size := by omega)) | (go_at_call 10; refine (HCO.out _ (HJ.out _ (by (repeat' first | (with_reducible exact Below.refl _ _) | (with_reducible refine Below.alloc ?_ ?_ _) | (with_reducible refine Below.drew ?_) | (with_reducible refine Below.setCell ?_ ?_ _) | (with_reducible refine below_via (by assumption) ?_ ?_) | go_size)))).mono ?_; rintro e w' ⟨rfl, hb⟩; obtain ⟨hc, hf, hz, hy⟩ := bcell hb; clear hy; (try simp only [World.size_alloc, World.size_setCell, World.size_drew] at hz); (try have gQ0 : w.heap.size < w'.heap.size := by omega); (try have gQ1 : w.heap.size + 1 < w'.heap.size := by omega)) | (go_at_call 21; refine (HPL.out _ (HJ.out _ (by (repeat' first | (with_reducible exact Below.refl _ _) | (with_reducible refine Below.alloc ?_ ?_ _) | (with_reducible refine Below.drew ?_) | (with_reducible refine Below.setCell ?_ ?_ _) | (with_reducible refine below_via (by assumption) ?_ ?_) | go_size)))).mono ?_; rintro e w' ⟨rfl, hb⟩; obtain ⟨hc, hf, hz, hy⟩ := bcell hb; clear hy; (try simp only [World.size_alloc, World.size_setCell, World.size_drew] at hz); (try have gQ0 : w.heap.size < w'.heap.size := by omega); (try have gQ1 : w.heap.size + 1 < w'.heap.size := by omega)) | ((with_reducible refine wp_region_qb ?_ ?_ (fun hq => ?_)); (focus kernel_rfl); (focus kernel_rfl); (repeat (go_big_quiet_step ((go_at_call 22; exact calls_qp (HPG.out _))))); refine wpQuiet_nil ?_; intro wq hb; obtain ⟨hc, hf, hz, hy⟩ := bcell hb; clear hq hy; (try simp only [World.size_alloc, World.size_setCell, World.size_drew] at hz); (try have gQ0 : w.heap.size < wq.heap.size := by omega); (try have gQ1 : w.heap.size + 1 < wq.heap.size := by omega)))
      all_goals go_ret
      all_goals exact ⟨by first | (simp; done) | (simp; rfl), by (repeat' first | (with_reducible exact Below.refl _ _) | (with_reducible refine Below.alloc ?_ ?_ _) | (with_reducible refine Below.drew ?_) | (with_reducible refine Below.setCell ?_ ?_ _) | (with_reducible refine below_via (by assumption) ?_ ?_) | go_size)⟩
  · have HV : Hid (checkBody a b o s g k n J L = (isSolvedBy a b o s g J && decide ((sweeps J : Int) = n))) := by show _ = _; rw [HB0.out, if_neg hk1, if_neg hk2, if_neg hk3]
    obtain rfl : k = 4 := by omega
    rw [HE.out, HV.out]
    have HSW : Hid (∀ W, Own ELine W B (.slice aJ J.length capJ) J → Calls Tryz.prog 23 #[.slice aJ J.length capJ] W fun e w' => e = .returned (.int .i64 (sweeps J : Nat)) ∧ Below W.heap.size W w') := fun W hW => CountSweeps_any J _ W hW
    clear HE HV HB0 hk4 hk1 hk2 hk3
    generalize isSolvedBy a b o s g J = x at *
    generalize sweeps J = m at *
    cases x
    all_goals
      go_enter Tryz.func6, Tryz.ntmps6
      go_wp2_with (first | (go_at_call 17; refine (HPZ.out _).mono ?_; rintro e w' ⟨rfl, hb⟩; obtain ⟨hc, hf, hz, hy⟩ := bcell hb; clear hy; (try simp only [World.size_alloc, World.size_setCell, World.size_drew] at hz); (try have gQ0 : w.heap.size < w'.heap.size := by omega); (try have gQ1 : w.heap.size + 1 < w'.heap.size := by omega)) | (go_at_call 10; refine (HCO.out _ (HJ.out _ (by (repeat' first | (with_reducible exact Below.refl _ _) | (with_reducible refine Below.alloc ?_ ?_ _) | (with_reducible refine Below.drew ?_) | (with_reducible refine Below.setCell ?_ ?_ _) | (with_reducible refine below_via (by assumption) ?_ ?_) | go_size)))).mono ?_; rintro e w' ⟨rfl, hb⟩; obtain ⟨hc, hf, hz, hy⟩ := bcell hb; clear hy; (try simp only [World.size_alloc, World.size_setCell, World.size_drew] at hz); (try have gQ0 : w.heap.size < w'.heap.size := by omega); (try have gQ1 : w.heap.size + 1 < w'.heap.size := by omega)) | ((with_reducible refine wp_region_qb ?_ ?_ (fun hq => ?_)); (focus kernel_rfl); (focus kernel_rfl); (repeat (go_big_quiet_step (first | (go_at_call 18; exact Calls.regrown_of (HSB.out _ (HJ.out _ (by (repeat' first | (with_reducible exact Below.refl _ _) | (with_reducible refine below_via (below_regrown _ _ _) ?_ ?_) | (with_reducible refine Below.alloc ?_ ?_ _) | (with_reducible refine Below.drew ?_) | (with_reducible refine Below.setCell ?_ ?_ _) | (with_reducible refine below_via (by assumption) ?_ ?_) | go_size))))) | (go_at_call 23; exact Calls.regrown_of (HSW.out _ (HJ.out _ (by (repeat' first | (with_reducible exact Below.refl _ _) | (with_reducible refine below_via (below_regrown _ _ _) ?_ ?_) | (with_reducible refine Below.alloc ?_ ?_ _) | (with_reducible refine Below.drew ?_) | (with_reducible refine Below.setCell ?_ ?_ _) | (with_reducible refine below_via (by assumption) ?_ ?_) | go_size)))))))); refine wpQuiet_nil ?_; intro wq hb; obtain ⟨hc, hf, hz, hy⟩ := bcell hb; clear hq hy; (try simp only [World.size_alloc, World.size_setCell, World.size_drew] at hz); (try have gQ0 : w.heap.size < wq.heap.size := by omega); (try have gQ1 : w.heap.size + 1 < wq.heap.size := by omega)))
      all_goals go_ret
      all_goals exact ⟨by first | (simp; done) | (simp; rfl), by (repeat' first | (with_reducible exact Below.refl _ _) | (with_reducible refine Below.alloc ?_ ?_ _) | (with_reducible refine Below.drew ?_) | (with_reducible refine Below.setCell ?_ ?_ _) | (with_reducible refine below_via (by assumption) ?_ ?_) | go_size)⟩
set_option maxHeartbeats 4000000 in
set_option maxRecDepth 100000 in
theorem sCheckClaim_any (a b o s g k n : Int) (J : List Ln) (L : List Int) (vj vw : Value) (hs : s ≤ 9223372036854775807) (hg : g ≤ 9223372036854775807) (w : World) {B B' : Nat} (hj : Own ELine w B vj J) (hw : Own EInt w B' vw L) :
    Calls Tryz.prog 8 #[.agg #[.int .i64 a, .int .i64 b, .int .i64 o, .int .i64 s, .int .i64 g], .agg #[.int .i64 k, .int .i64 n, vj, vw]] w fun e w' => e = .returned (.bool (checkClaim a b o s g k n J L)) ∧ Below w.heap.size w w' := by
  have HJ := Lib.hid (fun w' (hb : Below w.heap.size w w') => hj.keep hb)
  have HW := Lib.hid (fun w' (hb : Below w.heap.size w w') => hw.keep hb)
  obtain ⟨aJ, capJ, rfl, _⟩ := hj.lineG
  obtain ⟨aW, capW, rfl, _⟩ := hw.intG
  clear hj hw
  have HPZ : Hid (∀ W, Calls Tryz.prog 12 #[.agg #[.int .i64 a, .int .i64 b, .int .i64 o, .int .i64 s, .int .i64 g]] W fun e w' => e = .returned (.bool (puzzleOk a b o s g)) ∧ Below W.heap.size W w') := fun W => sPuzzleOk_any a b o s g hs hg W
  have HCO : Hid (∀ W, Own ELine W B (.slice aJ J.length capJ) J → Calls Tryz.prog 27 #[.agg #[.int .i64 k, .int .i64 n, .slice aJ J.length capJ, .slice aW L.length capW]] W fun e w' => e = .returned (.bool (claimOk k n J.length)) ∧ Below W.heap.size W w') := fun W hW => sClaimOk_any k n J _ _ W hW
  have HF : Hid (checkClaim a b o s g k n J L = (puzzleOk a b o s g && (claimOk k n J.length && checkBody a b o s g k n J L))) := rfl
  cases hpz : puzzleOk a b o s g
  · have HE : Hid (checkClaim a b o s g k n J L = false) := by show _ = _; rw [HF.out, hpz]; rfl
    rw [hpz] at HPZ
    clear hpz HF
    go_enter Tryz.func8, Tryz.ntmps8
    go_wp2_with (first | (go_at_call 12; refine (HPZ.out _).mono ?_; rintro e w' ⟨rfl, hb⟩; obtain ⟨hc, hf, hz, hy⟩ := bcell hb; clear hy; (try simp only [World.size_alloc, World.size_setCell, World.size_drew] at hz); (try have gQ0 : w.heap.size < w'.heap.size := by omega); (try have gQ1 : w.heap.size + 1 < w'.heap.size := by omega)) | (go_at_call 27; refine (HCO.out _ (HJ.out _ (by (repeat' first | (with_reducible exact Below.refl _ _) | (with_reducible refine Below.alloc ?_ ?_ _) | (with_reducible refine Below.drew ?_) | (with_reducible refine Below.setCell ?_ ?_ _) | (with_reducible refine below_via (by assumption) ?_ ?_) | go_size)))).mono ?_; rintro e w' ⟨rfl, hb⟩; obtain ⟨hc, hf, hz, hy⟩ := bcell hb; clear hy; (try simp only [World.size_alloc, World.size_setCell, World.size_drew] at hz); (try have gQ0 : w.heap.size < w'.heap.size := by omega); (try have gQ1 : w.heap.size + 1 < w'.heap.size := by omega)))
    all_goals go_ret
    all_goals exact ⟨by simp [HE.out], by (repeat' first | (with_reducible exact Below.refl _ _) | (with_reducible refine Below.alloc ?_ ?_ _) | (with_reducible refine Below.drew ?_) | (with_reducible refine Below.setCell ?_ ?_ _) | (with_reducible refine below_via (by assumption) ?_ ?_) | go_size)⟩
  cases hco : claimOk k n J.length
  · have HE : Hid (checkClaim a b o s g k n J L = false) := by show _ = _; rw [HF.out, hpz, hco]; rfl
    rw [hpz] at HPZ
    rw [hco] at HCO
    clear hpz hco HF
    go_enter Tryz.func8, Tryz.ntmps8
    go_wp2_with (first | (go_at_call 12; refine (HPZ.out _).mono ?_; rintro e w' ⟨rfl, hb⟩; obtain ⟨hc, hf, hz, hy⟩ := bcell hb; clear hy; (try simp only [World.size_alloc, World.size_setCell, World.size_drew] at hz); (try have gQ0 : w.heap.size < w'.heap.size := by omega); (try have gQ1 : w.heap.size + 1 < w'.heap.size := by omega)) | (go_at_call 27; refine (HCO.out _ (HJ.out _ (by (repeat' first | (with_reducible exact Below.refl _ _) | (with_reducible refine Below.alloc ?_ ?_ _) | (with_reducible refine Below.drew ?_) | (with_reducible refine Below.setCell ?_ ?_ _) | (with_reducible refine below_via (by assumption) ?_ ?_) | go_size)))).mono ?_; rintro e w' ⟨rfl, hb⟩; obtain ⟨hc, hf, hz, hy⟩ := bcell hb; clear hy; (try simp only [World.size_alloc, World.size_setCell, World.size_drew] at hz); (try have gQ0 : w.heap.size < w'.heap.size := by omega); (try have gQ1 : w.heap.size + 1 < w'.heap.size := by omega)))
    all_goals go_ret
    all_goals exact ⟨by simp [HE.out], by (repeat' first | (with_reducible exact Below.refl _ _) | (with_reducible refine Below.alloc ?_ ?_ _) | (with_reducible refine Below.drew ?_) | (with_reducible refine Below.setCell ?_ ?_ _) | (with_reducible refine below_via (by assumption) ?_ ?_) | go_size)⟩
  have HE : Hid (checkClaim a b o s g k n J L = checkBody a b o s g k n J L) := by show _ = _; rw [HF.out, hpz, hco]; rfl
  have hk4 : 1 ≤ k ∧ k ≤ 4 := by
    unfold claimOk at hco
    simp only [Bool.and_eq_true] at hco
    exact inR_iff.1 hco.1.1
  have HSB : Hid (∀ W, Own ELine W B (.slice aJ J.length capJ) J → Calls Tryz.prog 14 #[.agg #[.int .i64 a, .int .i64 b, .int .i64 o, .int .i64 s, .int .i64 g], .slice aJ J.length capJ] W fun e w' => e = .returned (.bool (isSolvedBy a b o s g J)) ∧ Below W.heap.size W w') := fun W hW => sIsSolvedBy_any a b o s g J _ hs hg W hW
  have HB0 : Hid (checkBody a b o s g k n J L = if k = 1 then isSolvedBy a b o s g J
    else if k = 2 then isProof a b o L s g || !sameKey a b o s g
    else if k = 3 then (match playAll a b o s J with | none => false | some q => decide ((pegs q : Int) = n))
    else isSolvedBy a b o s g J && decide ((sweeps J : Int) = n)) := rfl
  rw [hpz] at HPZ
  rw [hco] at HCO
  clear hpz hco HF
  by_cases hk1 : k = 1
  · subst hk1
    have HV : Hid (checkBody a b o s g 1 n J L = isSolvedBy a b o s g J) := rfl
    rw [HE.out, HV.out]
    clear HE HV HB0 hk4
    generalize isSolvedBy a b o s g J = x at *
    go_enter Tryz.func8, Tryz.ntmps8
    go_wp2_with (first | (go_at_call 12; refine (HPZ.out _).mono ?_; rintro e w' ⟨rfl, hb⟩; obtain ⟨hc, hf, hz, hy⟩ := bcell hb; clear hy; (try simp only [World.size_alloc, World.size_setCell, World.size_drew] at hz); (try have gQ0 : w.heap.size < w'.heap.size := by omega); (try have gQ1 : w.heap.size + 1 < w'.heap.size := by omega)) | (go_at_call 27; refine (HCO.out _ (HJ.out _ (by (repeat' first | (with_reducible exact Below.refl _ _) | (with_reducible refine Below.alloc ?_ ?_ _) | (with_reducible refine Below.drew ?_) | (with_reducible refine Below.setCell ?_ ?_ _) | (with_reducible refine below_via (by assumption) ?_ ?_) | go_size)))).mono ?_; rintro e w' ⟨rfl, hb⟩; obtain ⟨hc, hf, hz, hy⟩ := bcell hb; clear hy; (try simp only [World.size_alloc, World.size_setCell, World.size_drew] at hz); (try have gQ0 : w.heap.size < w'.heap.size := by omega); (try have gQ1 : w.heap.size + 1 < w'.heap.size := by omega)) | (go_at_call 14; refine (HSB.out _ (HJ.out _ (by (repeat' first | (with_reducible exact Below.refl _ _) | (with_reducible refine Below.alloc ?_ ?_ _) | (with_reducible refine Below.drew ?_) | (with_reducible refine Below.setCell ?_ ?_ _) | (with_reducible refine below_via (by assumption) ?_ ?_) | go_size)))).mono ?_; rintro e w' ⟨rfl, hb⟩; obtain ⟨hc, hf, hz, hy⟩ := bcell hb; clear hy; (try simp only [World.size_alloc, World.size_setCell, World.size_drew] at hz); (try have gQ0 : w.heap.size < w'.heap.size := by omega); (try have gQ1 : w.heap.size + 1 < w'.heap.size := by omega)))
    all_goals go_ret
    all_goals exact ⟨by first | (simp; done) | (simp; rfl), by (repeat' first | (with_reducible exact Below.refl _ _) | (with_reducible refine Below.alloc ?_ ?_ _) | (with_reducible refine Below.drew ?_) | (with_reducible refine Below.setCell ?_ ?_ _) | (with_reducible refine below_via (by assumption) ?_ ?_) | go_size)⟩
  by_cases hk2 : k = 2
  · subst hk2
    have HV : Hid (checkBody a b o s g 2 n J L = (isProof a b o L s g || !sameKey a b o s g)) := rfl
    rw [HE.out, HV.out]
    have HPF : Hid (∀ W, Own EInt W B' (.slice aW L.length capW) L → Calls Tryz.prog 28 #[.agg #[.int .i64 a, .int .i64 b, .int .i64 o], .slice aW L.length capW, .int .i64 s, .int .i64 g] W fun e w' => e = .returned (.bool (isProof a b o L s g)) ∧ Below W.heap.size W w') := fun W hW => sIsProof_any a b o L s g _ hs hg W hW
    have HSK : Hid (∀ W, Calls Tryz.prog 29 #[.agg #[.int .i64 a, .int .i64 b, .int .i64 o], .int .i64 s, .int .i64 g] W fun e w' => e = .returned (.bool (sameKey a b o s g)) ∧ Below W.heap.size W w') := fun W => sSameKey_any a b o s g hs hg W
    clear HE HV HB0 hk4 hk1
    generalize isProof a b o L s g = x at *
    generalize sameKey a b o s g = y at *
    cases x <;> cases y
    all_goals
      go_enter Tryz.func8, Tryz.ntmps8
      go_wp2_with (first | (go_at_call 12; refine (HPZ.out _).mono ?_; rintro e w' ⟨rfl, hb⟩; obtain ⟨hc, hf, hz, hy⟩ := bcell hb; clear hy; (try simp only [World.size_alloc, World.size_setCell, World.size_drew] at hz); (try have gQ0 : w.heap.size < w'.heap.size := by omega); (try have gQ1 : w.heap.size + 1 < w'.heap.size := by omega)) | (go_at_call 27; refine (HCO.out _ (HJ.out _ (by (repeat' first | (with_reducible exact Below.refl _ _) | (with_reducible refine Below.alloc ?_ ?_ _) | (with_reducible refine Below.drew ?_) | (with_reducible refine Below.setCell ?_ ?_ _) | (with_reducible refine below_via (by assumption) ?_ ?_) | go_size)))).mono ?_; rintro e w' ⟨rfl, hb⟩; obtain ⟨hc, hf, hz, hy⟩ := bcell hb; clear hy; (try simp only [World.size_alloc, World.size_setCell, World.size_drew] at hz); (try have gQ0 : w.heap.size < w'.heap.size := by omega); (try have gQ1 : w.heap.size + 1 < w'.heap.size := by omega)) | (go_at_call 28; refine (HPF.out _ (HW.out _ (by (repeat' first | (with_reducible exact Below.refl _ _) | (with_reducible refine Below.alloc ?_ ?_ _) | (with_reducible refine Below.drew ?_) | (with_reducible refine Below.setCell ?_ ?_ _) | (with_reducible refine below_via (by assumption) ?_ ?_) | go_size)))).mono ?_; rintro e w' ⟨rfl, hb⟩; obtain ⟨hc, hf, hz, hy⟩ := bcell hb; clear hy; (try simp only [World.size_alloc, World.size_setCell, World.size_drew] at hz); (try have gQ0 : w.heap.size < w'.heap.size := by omega); (try have gQ1 : w.heap.size + 1 < w'.heap.size := by omega)) | (go_at_call 29; refine (HSK.out _).mono ?_; rintro e w' ⟨rfl, hb⟩; obtain ⟨hc, hf, hz, hy⟩ := bcell hb; clear hy; (try simp only [World.size_alloc, World.size_setCell, World.size_drew] at hz); (try have gQ0 : w.heap.size < w'.heap.size := by omega); (try have gQ1 : w.heap.size + 1 < w'.heap.size := by omega)))
      all_goals go_ret
      all_goals exact ⟨by first | (simp; done) | (simp; rfl), by (repeat' first | (with_reducible exact Below.refl _ _) | (with_reducible refine Below.alloc ?_ ?_ _) | (with_reducible refine Below.drew ?_) | (with_reducible refine Below.setCell ?_ ?_ _) | (with_reducible refine below_via (by assumption) ?_ ?_) | go_size)⟩
  by_cases hk3 : k = 3
  · subst hk3
    have HV : Hid (checkBody a b o s g 3 n J L = match playAll a b o s J with | none => false | some q => decide ((pegs q : Int) = n)) := rfl
    rw [HE.out, HV.out]
    have HPL : Hid (∀ W, Own ELine W B (.slice aJ J.length capJ) J → Calls Tryz.prog 30 #[.agg #[.int .i64 a, .int .i64 b, .int .i64 o], .int .i64 s, .slice aJ J.length capJ] W fun e w' => e = .returned (optInt s (playAll a b o s J)) ∧ Below W.heap.size W w') := fun W hW => sPlayAll_any a b o s J _ hs W hW
    clear HE HV HB0 hk4 hk1 hk2
    cases hpl : playAll a b o s J with
    | none =>
      rw [hpl] at HPL
      simp only [optInt, Option.getD_none, Option.isSome_none] at HPL
      clear hpl
      go_enter Tryz.func8, Tryz.ntmps8
      go_wp2_with (first | (go_at_call 12; refine (HPZ.out _).mono ?_; rintro e w' ⟨rfl, hb⟩; obtain ⟨hc, hf, hz, hy⟩ := bcell hb; clear hy; (try simp only [World.size_alloc, World.size_setCell, World.size_drew] at hz); (try have gQ0 : w.heap.size < w'.heap.size := by omega); (try have gQ1 : w.heap.size + 1 < w'.heap.size := by omega)) | (go_at_call 27; refine (HCO.out _ (HJ.out _ (by (repeat' first | (with_reducible exact Below.refl _ _) | (with_reducible refine Below.alloc ?_ ?_ _) | (with_reducible refine Below.drew ?_) | (with_reducible refine Below.setCell ?_ ?_ _) | (with_reducible refine below_via (by assumption) ?_ ?_) | go_size)))).mono ?_; rintro e w' ⟨rfl, hb⟩; obtain ⟨hc, hf, hz, hy⟩ := bcell hb; clear hy; (try simp only [World.size_alloc, World.size_setCell, World.size_drew] at hz); (try have gQ0 : w.heap.size < w'.heap.size := by omega); (try have gQ1 : w.heap.size + 1 < w'.heap.size := by omega)) | (go_at_call 30; refine (HPL.out _ (HJ.out _ (by (repeat' first | (with_reducible exact Below.refl _ _) | (with_reducible refine Below.alloc ?_ ?_ _) | (with_reducible refine Below.drew ?_) | (with_reducible refine Below.setCell ?_ ?_ _) | (with_reducible refine below_via (by assumption) ?_ ?_) | go_size)))).mono ?_; rintro e w' ⟨rfl, hb⟩; obtain ⟨hc, hf, hz, hy⟩ := bcell hb; clear hy; (try simp only [World.size_alloc, World.size_setCell, World.size_drew] at hz); (try have gQ0 : w.heap.size < w'.heap.size := by omega); (try have gQ1 : w.heap.size + 1 < w'.heap.size := by omega)) | ((with_reducible refine wp_region_qb ?_ ?_ (fun hq => ?_)); (focus kernel_rfl); (focus kernel_rfl); (repeat (go_big_quiet_step (fail))); refine wpQuiet_nil ?_; intro wq hb; obtain ⟨hc, hf, hz, hy⟩ := bcell hb; clear hq hy; (try simp only [World.size_alloc, World.size_setCell, World.size_drew] at hz); (try have gQ0 : w.heap.size < wq.heap.size := by omega); (try have gQ1 : w.heap.size + 1 < wq.heap.size := by omega)))
      all_goals go_ret
      all_goals exact ⟨by first | (simp; done) | (simp; rfl), by (repeat' first | (with_reducible exact Below.refl _ _) | (with_reducible refine Below.alloc ?_ ?_ _) | (with_reducible refine Below.drew ?_) | (with_reducible refine Below.setCell ?_ ?_ _) | (with_reducible refine below_via (by assumption) ?_ ?_) | go_size)⟩
    | some q =>
      rw [hpl] at HPL
      simp only [optInt, Option.getD_some, Option.isSome_some] at HPL
      obtain ⟨hqo, h60⟩ := playAll_endC hpl
      have hqb := pos_lt hqo
      have HPG : Hid (∀ W, Calls Tryz.prog 31 #[.agg #[.int .i64 a, .int .i64 b, .int .i64 o], .int .i64 q] W fun e w' => e = .returned (.int .i64 (pegs q : Nat)) ∧ Below W.heap.size W w') := fun W => by have := sCountPegs_any a b o q (by omega) W; simpa [hqo] using this
      clear hpl hqo h60 hqb
      dsimp only
      generalize pegs q = m at *
      go_enter Tryz.func8, Tryz.ntmps8
      go_wp2_with (first | (go_at_call 12; refine (HPZ.out _).mono ?_; rintro e w' ⟨rfl, hb⟩; obtain ⟨hc, hf, hz, hy⟩ := bcell hb; clear hy; (try simp only [World.size_alloc, World.size_setCell, World.size_drew] at hz); (try have gQ0 : w.heap.size < w'.heap.size := by omega); (try have gQ1 : w.heap.size + 1 < w'.heap.size := by omega)) | (go_at_call 27; refine (HCO.out _ (HJ.out _ (by (repeat' first | (with_reducible exact Below.refl _ _) | (with_reducible refine Below.alloc ?_ ?_ _) | (with_reducible refine Below.drew ?_) | (with_reducible refine Below.setCell ?_ ?_ _) | (with_reducible refine below_via (by assumption) ?_ ?_) | go_size)))).mono ?_; rintro e w' ⟨rfl, hb⟩; obtain ⟨hc, hf, hz, hy⟩ := bcell hb; clear hy; (try simp only [World.size_alloc, World.size_setCell, World.size_drew] at hz); (try have gQ0 : w.heap.size < w'.heap.size := by omega); (try have gQ1 : w.heap.size + 1 < w'.heap.size := by omega)) | (go_at_call 30; refine (HPL.out _ (HJ.out _ (by (repeat' first | (with_reducible exact Below.refl _ _) | (with_reducible refine Below.alloc ?_ ?_ _) | (with_reducible refine Below.drew ?_) | (with_reducible refine Below.setCell ?_ ?_ _) | (with_reducible refine below_via (by assumption) ?_ ?_) | go_size)))).mono ?_; rintro e w' ⟨rfl, hb⟩; obtain ⟨hc, hf, hz, hy⟩ := bcell hb; clear hy; (try simp only [World.size_alloc, World.size_setCell, World.size_drew] at hz); (try have gQ0 : w.heap.size < w'.heap.size := by omega); (try have gQ1 : w.heap.size + 1 < w'.heap.size := by omega)) | ((with_reducible refine wp_region_qb ?_ ?_ (fun hq => ?_)); (focus kernel_rfl); (focus kernel_rfl); (repeat (go_big_quiet_step ((go_at_call 31; exact Calls.regrown_of (HPG.out _))))); refine wpQuiet_nil ?_; intro wq hb; obtain ⟨hc, hf, hz, hy⟩ := bcell hb; clear hq hy; (try simp only [World.size_alloc, World.size_setCell, World.size_drew] at hz); (try have gQ0 : w.heap.size < wq.heap.size := by omega); (try have gQ1 : w.heap.size + 1 < wq.heap.size := by omega)))
      all_goals go_ret
      all_goals exact ⟨by first | (simp; done) | (simp; rfl), by (repeat' first | (with_reducible exact Below.refl _ _) | (with_reducible refine Below.alloc ?_ ?_ _) | (with_reducible refine Below.drew ?_) | (with_reducible refine Below.setCell ?_ ?_ _) | (with_reducible refine below_via (by assumption) ?_ ?_) | go_size)⟩
  · have HV : Hid (checkBody a b o s g k n J L = (isSolvedBy a b o s g J && decide ((sweeps J : Int) = n))) := by show _ = _; rw [HB0.out, if_neg hk1, if_neg hk2, if_neg hk3]
    obtain rfl : k = 4 := by omega
    rw [HE.out, HV.out]
    have HSW : Hid (∀ W, Own ELine W B (.slice aJ J.length capJ) J → Calls Tryz.prog 32 #[.slice aJ J.length capJ] W fun e w' => e = .returned (.int .i64 (sweeps J : Nat)) ∧ Below W.heap.size W w') := fun W hW => sCountSweeps_any J _ W hW
    clear HE HV HB0 hk4 hk1 hk2 hk3
    generalize isSolvedBy a b o s g J = x at *
    generalize sweeps J = m at *
    cases x
    all_goals
      go_enter Tryz.func8, Tryz.ntmps8
      go_wp2_with (first | (go_at_call 12; refine (HPZ.out _).mono ?_; rintro e w' ⟨rfl, hb⟩; obtain ⟨hc, hf, hz, hy⟩ := bcell hb; clear hy; (try simp only [World.size_alloc, World.size_setCell, World.size_drew] at hz); (try have gQ0 : w.heap.size < w'.heap.size := by omega); (try have gQ1 : w.heap.size + 1 < w'.heap.size := by omega)) | (go_at_call 27; refine (HCO.out _ (HJ.out _ (by (repeat' first | (with_reducible exact Below.refl _ _) | (with_reducible refine Below.alloc ?_ ?_ _) | (with_reducible refine Below.drew ?_) | (with_reducible refine Below.setCell ?_ ?_ _) | (with_reducible refine below_via (by assumption) ?_ ?_) | go_size)))).mono ?_; rintro e w' ⟨rfl, hb⟩; obtain ⟨hc, hf, hz, hy⟩ := bcell hb; clear hy; (try simp only [World.size_alloc, World.size_setCell, World.size_drew] at hz); (try have gQ0 : w.heap.size < w'.heap.size := by omega); (try have gQ1 : w.heap.size + 1 < w'.heap.size := by omega)) | ((with_reducible refine wp_region_qb ?_ ?_ (fun hq => ?_)); (focus kernel_rfl); (focus kernel_rfl); (repeat (go_big_quiet_step (first | (go_at_call 14; exact Calls.regrown_of (HSB.out _ (HJ.out _ (by (repeat' first | (with_reducible exact Below.refl _ _) | (with_reducible refine below_via (below_regrown _ _ _) ?_ ?_) | (with_reducible refine Below.alloc ?_ ?_ _) | (with_reducible refine Below.drew ?_) | (with_reducible refine Below.setCell ?_ ?_ _) | (with_reducible refine below_via (by assumption) ?_ ?_) | go_size))))) | (go_at_call 32; exact Calls.regrown_of (HSW.out _ (HJ.out _ (by (repeat' first | (with_reducible exact Below.refl _ _) | (with_reducible refine below_via (below_regrown _ _ _) ?_ ?_) | (with_reducible refine Below.alloc ?_ ?_ _) | (with_reducible refine Below.drew ?_) | (with_reducible refine Below.setCell ?_ ?_ _) | (with_reducible refine below_via (by assumption) ?_ ?_) | go_size)))))))); refine wpQuiet_nil ?_; intro wq hb; obtain ⟨hc, hf, hz, hy⟩ := bcell hb; clear hq hy; (try simp only [World.size_alloc, World.size_setCell, World.size_drew] at hz); (try have gQ0 : w.heap.size < wq.heap.size := by omega); (try have gQ1 : w.heap.size + 1 < wq.heap.size := by omega)))
      all_goals go_ret
      all_goals exact ⟨by first | (simp; done) | (simp; rfl), by (repeat' first | (with_reducible exact Below.refl _ _) | (with_reducible refine Below.alloc ?_ ?_ _) | (with_reducible refine Below.drew ?_) | (with_reducible refine Below.setCell ?_ ?_ _) | (with_reducible refine below_via (by assumption) ?_ ?_) | go_size)⟩
end Go.Proofs.YtfmplmlilmalpaaGreat
