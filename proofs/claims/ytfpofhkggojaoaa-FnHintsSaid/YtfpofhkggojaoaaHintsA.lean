/- HintsA: what hints, verdicts and first errors say along a game that was played; contracts of the reference's PositionsOf and JumpsBetween. Conditions: numbers in range. -/
import Derived.Test.YtfpofhkggojaoaaFirst
import Derived.Test.YtfpofhkggojaoaaWay1
import Derived.Test.YtfpofhkggojaoaaCountH
import Derived.Test.YtfpofhkggojaoaaPop
set_option linter.unusedVariables false
set_option linter.unusedSimpArgs false
namespace Peg
def posAt (s : Int) (L : List Ln) (k : Nat) : Int := fl s (L.take k)
theorem playEnd {back : Bool} {a b o : Int} : ∀ (L : List Ln) (p q : Int), posOk a b o p = true → playTo back a b o p L = some q → posOk a b o q = true := by
  intro L
  induction L with
  | nil => intro p q h h2; simp [playTo] at h2; subst h2; exact h
  | cons l r ih =>
    intro p q h h2
    simp only [playTo] at h2
    split at h2
    · rename_i h3; exact ih _ _ (posOk_flip h (isLn_mem (doOk_pos h3).2.1)) h2
    · cases h2
theorem steps_pegsH {a b o p q : Int} (h : Steps (linesOf a b o) false p q) : pegs q ≤ pegs p := by
  induction h with
  | refl p => exact Nat.le_refl _
  | step h1 hc _ ih =>
    have := pegs_jump (linesOf_in h1).1 hc
    omega
theorem reach_pegs {a b o p g : Int} (h : reach a b o p g false = true) : pegs g ≤ pegs p := by
  obtain ⟨hs, hp, _⟩ := reach_parts h
  exact steps_pegsH ((hasB_iff hs hp).1 h)
theorem reach_stepback {a b o p g : Int} {l : Ln} (hd : doOk false a b o p l = true) (h : reach a b o (flip p l) g false = true) : reach a b o p g false = true := by
  obtain ⟨hs, _, _⟩ := reach_parts h
  obtain ⟨hp, hl, hc⟩ := doOk_pos hd
  have hp' := posOk_flip hp (isLn_mem hl)
  exact (hasB_iff hs hp).2 (.step (isLn_mem hl) hc ((hasB_iff hs hp').1 h))
theorem posAt_ok {a b o s r : Int} {L : List Ln} (hs : posOk a b o s = true) (h : playTo false a b o s L = some r) {k : Nat} (hk : k ≤ L.length) : posOk a b o (posAt s L k) = true :=
  playEnd _ _ _ hs (playTo_part h k hk)
theorem posAt_succ (s : Int) (L : List Ln) {k : Nat} (hk : k < L.length) : posAt s L (k + 1) = flip (posAt s L k) (gD L Ln0 k) := fl_take s L k hk
theorem can_back {a b o s g r : Int} {L : List Ln} (h : playTo false a b o s L = some r) {k : Nat} (hk : k < L.length) (hr : reach a b o (posAt s L (k + 1)) g false = true) : reach a b o (posAt s L k) g false = true := by
  rw [posAt_succ s L hk] at hr
  exact reach_stepback (playTo_do h hk) hr
theorem can_down {a b o s g r : Int} {L : List Ln} (h : playTo false a b o s L = some r) {i : Nat} : ∀ (k : Nat), i ≤ k → k ≤ L.length → reach a b o (posAt s L k) g false = true → reach a b o (posAt s L i) g false = true := by
  intro k
  induction k with
  | zero => intro h1 _ hr; have hi : i = 0 := (by omega); rw [hi]; exact hr
  | succ k ih =>
    intro h1 h2 hr
    by_cases hi : i = k + 1
    · rw [hi]; exact hr
    · exact ih (by omega) (by omega) (can_back h (by omega) hr)
theorem playAll_of {a b o s r : Int} {L : List Ln} (hs : posOk a b o s = true) (hL : L.length ≤ 60) (h : playTo false a b o s L = some r) : playAll a b o s L = some r := by
  simp [playAll, hs, hL, h]
theorem positions_of {a b o s r : Int} {L : List Ln} (hs : posOk a b o s = true) (hL : L.length ≤ 60) (h : playTo false a b o s L = some r) : positions a b o s L = posTo s L L.length := by
  simp [positions, playAll_of hs hL h]
theorem count_sol {a b o s g : Int} (h : isSolvable a b o s g = true) : countHints a b o s g = (pegs s : Int) - pegs g ∧ 0 ≤ (pegs s : Int) - pegs g := by
  have h1 : reach a b o s g false = true := by simp [isSolvable] at h; exact h.2
  have := reach_pegs h1
  exact ⟨by simp [countHints, h], by omega⟩
theorem count_not {a b o s g : Int} (h : isSolvable a b o s g = false) : countHints a b o s g = -1 := by simp [countHints, h]
theorem first_not {a b o s g : Int} {L : List Ln} (h : isSolvable a b o s g = false) : firstErr a b o s g L = -1 := by simp [firstErr, h]
/-- behind the first error the goal is out of reach, ahead of it it is not -/
theorem first_can {a b o s g r : Int} {L : List Ln} (hp : posOk a b o s = true) (hL : L.length ≤ 60) (h : playTo false a b o s L = some r) (he : 0 ≤ firstErr a b o s g L) {k : Nat} (hk : k ≤ L.length) :
    reach a b o (posAt s L k) g false = decide ((k : Int) ≤ firstErr a b o s g L) := by
  unfold firstErr at he ⊢
  split at he
  · rename_i hsol
    rw [if_pos hsol]
    rw [playAll_of hp hL h] at he ⊢
    simp only [Option.isSome_some, if_true] at he ⊢
    cases hf : (List.range (L.length + 1)).find? (badAt a b o s g L) with
    | none => rw [hf] at he; simp at he
    | some i =>
      rw [hf] at he
      simp only at he ⊢
      have h1 := List.find?_some hf
      have h2 := List.mem_of_find?_eq_some hf
      rw [List.mem_range] at h2
      simp only [badAt, has_reach, Bool.not_eq_true'] at h1
      by_cases hki : i ≤ k
      · rw [decide_eq_false (by omega)]
        cases hr : reach a b o (posAt s L k) g false
        · rfl
        · have := can_down (g := g) h (i := i) k hki hk hr
          rw [show posAt s L i = fl s (L.take i) from rfl, h1] at this
          cases this
      · rw [decide_eq_true (by omega)]
        rw [List.find?_range_eq_some] at hf
        have h3 := hf.2.2 k (by omega)
        simp only [badAt, has_reach, Bool.not_not] at h3
        simpa [posAt] using h3
  · omega
theorem hints_len {a b o s g n : Int} (hz : puzzleOk a b o s g = true) (hn : posOk a b o n = true) : decide (0 < (hints a b o s g n).length) = (reach a b o n g false && !(n == g)) := by
  have key : ∀ x, x ∈ hints a b o s g n → doOk false a b o n x = true ∧ reach a b o (flip n x) g false = true := by
    intro x hx
    simp only [hints, hz, hn, if_true, goodJumps, List.mem_filter, has_reach] at hx
    have h1 := jumpsOf_in hx.1
    exact ⟨by simp [doOk, hn, isLn_of h1.2.1, can, h1.2.2], hx.2⟩
  cases hr : reach a b o n g false
  · have : hints a b o s g n = [] := by
      cases hh : hints a b o s g n with
      | nil => rfl
      | cons x t =>
        have h1 := key x (by rw [hh]; simp)
        rw [reach_stepback h1.1 h1.2] at hr
        cases hr
    rw [this]; rfl
  · by_cases hg : n = g
    · subst hg
      have : hints a b o s n n = [] := by
        cases hh : hints a b o s n n with
        | nil => rfl
        | cons x t =>
          exfalso
          have h1 := key x (by rw [hh]; simp)
          obtain ⟨_, hl, hc⟩ := doOk_pos h1.1
          have h2 := pegs_jump (linesOf_in (isLn_mem hl)).1 hc
          have h3 := reach_pegs h1.2
          omega
      rw [this]; simp
    · obtain ⟨x, t, hh, _⟩ := hint_step hz hn hr hg
      rw [hh]
      simp [hg]
theorem verdict_goal {a b o s g : Int} (l : Ln) (hz : puzzleOk a b o s g = true) (hg : posOk a b o g = true) : verdict a b o s g g l = 4 := by
  simp [verdict, verdictB, hz, hg]
theorem verdict_lost {a b o s g n : Int} (l : Ln) (hz : puzzleOk a b o s g = true) (hn : posOk a b o n = true) (hr : reach a b o n g false = false) (hne : n ≠ g) : verdict a b o s g n l = 3 := by
  simp [verdict, verdictB, hz, hn, hr, hne]
theorem verdict_hint {a b o s g n : Int} (hz : puzzleOk a b o s g = true) (hn : posOk a b o n = true) (hr : reach a b o n g false = true) (hne : n ≠ g) : verdict a b o s g n ((hints a b o s g n).getD 0 Ln0) = 1 := by
  obtain ⟨x, t, hh, h1, h2, h3, h4⟩ := hint_step hz hn hr hne
  rw [hh]
  have hd : doOk false a b o n x = true := by simp [doOk, hn, isLn_of h1, can, h2]
  simp [verdict, verdictB, hz, hn, hr, hne, hd, isSpoiled, h3]
theorem verdict_spoils {a b o s g n : Int} {l : Ln} (hz : puzzleOk a b o s g = true) (hd : doOk false a b o n l = true) (hr : reach a b o n g false = true) (hne : n ≠ g) (hr2 : reach a b o (flip n l) g false = false) : verdict a b o s g n l = 2 := by
  have hn := (doOk_pos hd).1
  simp [verdict, verdictB, hz, hn, hr, hne, hd, isSpoiled, hr2]
/-- the verdict on the hint -/
def hintVerdict (a b o s g n : Int) : Int := verdict a b o s g n ((hints a b o s g n).getD 0 Ln0)
theorem hintVerdict_of {a b o s g n : Int} (hz : puzzleOk a b o s g = true) (hn : posOk a b o n = true) : hintVerdict a b o s g n = if n = g then 4 else if reach a b o n g false = true then 1 else 3 := by
  unfold hintVerdict
  by_cases hne : n = g
  · subst hne; rw [if_pos rfl]; exact verdict_goal _ hz hn
  · rw [if_neg hne]
    cases hr : reach a b o n g false
    · exact verdict_lost _ hz hn hr hne
    · exact verdict_hint hz hn hr hne
theorem error_spoils {a b o s g r : Int} {L : List Ln} (hz : puzzleOk a b o s g = true) (hp : posOk a b o s = true) (hL : L.length ≤ 60) (h : playTo false a b o s L = some r) {k : Nat} (hk : k < L.length) (he : firstErr a b o s g L = k) (hne : posAt s L k ≠ g) :
    verdict a b o s g (posAt s L k) (gD L Ln0 k) = 2 := by
  have h0 : 0 ≤ firstErr a b o s g L := by omega
  have h1 := first_can (g := g) hp hL h h0 (k := k) (by omega)
  have h2 := first_can (g := g) hp hL h h0 (k := k + 1) (by omega)
  rw [decide_eq_true (by omega)] at h1
  rw [decide_eq_false (by omega), posAt_succ s L hk] at h2
  exact verdict_spoils hz (playTo_do h hk) h1 hne h2
theorem first_le {a b o s g : Int} {L : List Ln} : -1 ≤ firstErr a b o s g L ∧ firstErr a b o s g L ≤ L.length := by
  unfold firstErr
  split
  · split
    · split
      · rename_i i hf
        have h2 := List.mem_of_find?_eq_some hf
        rw [List.mem_range] at h2
        omega
      · omega
    · omega
  · omega
end Peg
namespace Go.Proofs.Ytfpofhkggojaoaa
open Go.ChangeShapes Go.WideShapes Go.ChangeAt Go.RowKit Peg Go.Sort
set_option maxHeartbeats 4000000 in
set_option maxRecDepth 100000 in
theorem sPositionsOf_any (a b o p : Int) (L : List Ln) (v : Value) (hp : p ≤ 9223372036854775807) (w : World) {B : Nat} (hv : Own ELine w B v L) :
    Calls Try.prog 25 #[.agg #[.int .i64 a, .int .i64 b, .int .i64 o], .int .i64 p, v] w (RetInts w (positions a b o p L)) := by
  obtain ⟨aL, cL, rfl, hnL, hgL⟩ := hv.lineG
  have hv0 := hv.alloc (.cells #[.int .i64 a, .int .i64 b, .int .i64 o] 27)
  have HPA := Lib.hid (sPlayAll_any a b o p L _ hp _ hv0)
  have HGL := Lib.hid hgL
  have HP0 : Hid (positions a b o p L = if (playAll a b o p L).isSome = true then posTo p L L.length else []) := rfl
  have HDO := Lib.hid (fun q (h : playAll a b o p L = some q) => playAll_to h)
  clear hv hv0 hgL
  go_enter Try.func25, Try.ntmps25
  go_wp2_with fail
  refine HPA.out.mono ?_
  rintro e w1 ⟨rfl, hb⟩
  have hz1 := hb.size
  simp only [World.size_alloc] at hz1
  have HB1 := Lib.hid (show Below w.heap.size w w1 by (repeat' first | (with_reducible exact Below.refl _ _) | (with_reducible refine Below.alloc ?_ ?_ _) | (with_reducible refine Below.drew ?_) | (with_reducible refine Below.setCell ?_ ?_ _) | (with_reducible refine below_via (by assumption) ?_ ?_) | go_size))
  have hbox1 : ∀ j, w1.cell? ⟨w.heap.size, j, none⟩ = #[Value.int .i64 a, .int .i64 b, .int .i64 o][j]? := fun j => (hb.cell (by simp)).trans (by simp)
  clear hb
  cases hpa : playAll a b o p L with
  | none =>
    have HE : Hid (positions a b o p L = []) := by show _ = _; rw [HP0.out, hpa]; rfl
    clear hpa
    simp only [optInt, Option.getD_none, Option.isSome_none]
    go_wp2_with fail
    go_ret
    exact ⟨_, rfl, by rw [HE.out]; exact Own.emptyAny _ _ _ _, by have := HB1.out; (repeat' first | (with_reducible exact Below.refl _ _) | (with_reducible refine Below.alloc ?_ ?_ _) | (with_reducible refine Below.drew ?_) | (with_reducible refine Below.setCell ?_ ?_ _) | (with_reducible refine below_via (by assumption) ?_ ?_) | (with_reducible assumption) | ((try simp only [World.size_alloc, World.size_setCell, World.size_drew] at *); omega) | go_size)⟩
  | some q =>
    have HE : Hid (positions a b o p L = posTo p L L.length) := by show _ = _; rw [HP0.out, hpa]; rfl
    obtain ⟨hpo, h60, hpt⟩ := HDO.out q hpa
    have HST := Lib.hid (fun k (hk : k < L.length) => playTo_do hpt hk)
    have HNX := Lib.hid (fun k (hk : k < L.length) => fl_take p L k hk)
    clear hpa hpo hpt
    simp only [optInt, Option.getD_some, Option.isSome_some]
    have hown := Own.single (E := EInt) p w1 w1.heap.size (Nat.le_refl _)
    have hzw : w.heap.size < w1.heap.size := by omega
    have HOW1 := Lib.hid hown
    clear hown
    go_wp2_with fail
    go_loopw [1, 9, 10] (fun t out k wr => ∃ j : Nat, j ≤ L.length ∧ k = .int .i64 j ∧ t = .int .i64 (fl p (L.take j)) ∧ Own EInt wr w1.heap.size out (posTo p L j) ∧ Below w1.heap.size w1 wr) (fun _ _ k _ => L.length - (intOf k).toNat)
    case atStart => exact ⟨0, by omega, rfl, by simp [fl], by rw [show posTo p L 0 = [p] by simp [posTo, fl]]; exact HOW1.out, by (repeat' first | (with_reducible exact Below.refl _ _) | (with_reducible refine Below.alloc ?_ ?_ _) | (with_reducible refine Below.drew ?_) | (with_reducible refine Below.setCell ?_ ?_ _) | (with_reducible refine below_via (by assumption) ?_ ?_) | go_size)⟩
    case round =>
      obtain ⟨j, hj, rfl, rfl, hown, hbw⟩ := hrel
      have hzw2 := hbw.size
      by_cases hjl : j < L.length
      · obtain ⟨bL, rfl, _, hbL, c0, c1, c2⟩ := HGL.out j hjl
        have HBw := Lib.hid (HB1.out.trans (hbw.mono HB1.out.size))
        have d0 := (HBw.out.cell (p := ⟨bL, j * 3, none⟩) hbL).trans c0
        have d1 := (HBw.out.cell (p := ⟨bL, j * 3 + 1, none⟩) hbL).trans c1
        have d2 := (HBw.out.cell (p := ⟨bL, j * 3 + 2, none⟩) hbL).trans c2
        have hbox : ∀ j, wr.cell? ⟨w.heap.size, j, none⟩ = #[Value.int .i64 a, .int .i64 b, .int .i64 o][j]? := fun j => (hbw.cell (p := ⟨w.heap.size, j, none⟩) hzw).trans (hbox1 j)
        have hdo := HST.out j hjl
        have hpl := pos_lt (doOk_pos hdo).1
        have hfl := HNX.out j hjl
        have HPS := Lib.hid (posTo_succ p L j)
        have hpl2 := posTo_len p L j
        have hlen : (posTo p L j).length ≤ 1048576 := by omega
        have hL1 : bL < wr.heap.size := by have := HBw.out.size; omega
        have hL2 : w.heap.size < wr.heap.size := by omega
        have HDJ : Hid (∀ W, Calls Try.prog 79 #[.agg #[.int .i64 a, .int .i64 b, .int .i64 o], .int .i64 (fl p (L.take j)), .agg #[.int .i64 (gD L Ln0 j).f, .int .i64 (gD L Ln0 j).o, .int .i64 (gD L Ln0 j).t]] W fun e w' => e = .returned (.tuple #[.int .i64 (fl p (L.take (j + 1))), .bool true]) ∧ Below W.heap.size W w') := fun W => by
          have h := sDoJump_any a b o (fl p (L.take j)) (gD L Ln0 j) (by omega) W
          rw [doTo, hdo] at h
          rw [hfl]
          simpa using h
        have HW1 := Lib.hid hbw
        have HOw := Lib.hid hown
        clear c0 c1 c2 hdo hfl hpl2 hbw hown
        generalize gD L Ln0 j = y at *
        generalize hq2 : fl p (L.take (j + 1)) = q2 at *
        have HQ2 := Lib.hid hq2
        clear hq2
        generalize fl p (L.take j) = q1 at *
        generalize posTo p L j = P at *
        go_wp2_with (first | ((with_reducible refine wp_region_qb ?_ ?_ (fun hq => ?_)); (focus kernel_rfl); (focus kernel_rfl); (repeat (go_big_quiet_step ((go_at_call 79; exact Calls.regrown_of (HDJ.out _))))); refine wpQuiet_nil ?_; (intro wq hbq; have hown2 := HOw.out.keep hbq; have HBQ := Lib.hid (HW1.out.trans (hbq.mono hzw2)); have hzq := hbq.size; clear hq hbq)) | (at_builtin; (refine append1 (E := EInt) (l := P) rfl rfl _ _ 33 rfl Try.underlying33 rfl hown2 q2 rfl (by omega) (by omega) ?_); intro v' w5 hown5 hb5 hg5))
        go_roundw
        case rel => exact ⟨j + 1, by omega, by go_num, by rw [HQ2.out], by rw [HPS.out]; exact hown5, HBQ.out.trans hb5⟩
        case measure => simp [intOf]; omega
      · obtain rfl : j = L.length := by omega
        have HOw := Lib.hid hown
        clear hown
        go_wp2_with fail
        go_ret
        exact ⟨_, rfl, by rw [HE.out]; exact HOw.out.mono (by omega), HB1.out.trans (hbw.mono HB1.out.size)⟩
set_option maxHeartbeats 1000000 in
set_option maxRecDepth 100000 in
theorem sJumpsBetween_ok (a b o s g : Int) (hsb : posOk a b o s = true) (hgb : posOk a b o g = true) (hr : reach a b o s g false = true) (w : World) :
    Calls Try.prog 24 #[.agg #[.int .i64 a, .int .i64 b, .int .i64 o], .int .i64 s, .int .i64 g] w fun e w' => e = .returned (.int .i64 ((pegs s : Int) - pegs g)) ∧ Below w.heap.size w w' := by
  have h1 := pos_lt hsb
  have h2 := pos_lt hgb
  have HC : Hid (∀ W, Calls Try.prog 26 #[.agg #[.int .i64 a, .int .i64 b, .int .i64 o], .int .i64 s, .int .i64 g] W fun e w' => e = .returned (.bool true) ∧ Below W.heap.size W w') := fun W => by rw [← hr]; exact sCanReach_any a b o s g (by omega) (by omega) W
  have H3 : Hid (∀ W, Calls Try.prog 37 #[.agg #[.int .i64 a, .int .i64 b, .int .i64 o], .int .i64 s] W fun e w' => e = .returned (.int .i64 (pegs s : Nat)) ∧ Below W.heap.size W w') := fun W => by have := sCountPegs_any a b o s (by omega) W; simpa [hsb] using this
  have H4 : Hid (∀ W, Calls Try.prog 37 #[.agg #[.int .i64 a, .int .i64 b, .int .i64 o], .int .i64 g] W fun e w' => e = .returned (.int .i64 (pegs g : Nat)) ∧ Below W.heap.size W w') := fun W => by have := sCountPegs_any a b o g (by omega) W; simpa [hgb] using this
  have hp1 := pegs_le s
  have hp2 := pegs_le g
  clear hr hsb hgb h1 h2
  generalize pegs s = ps at *
  generalize pegs g = pg at *
  go_enter Try.func24, Try.ntmps24
  go_wp2_with (first | (go_at_call 26; refine (HC.out _).mono ?_; rintro e w' ⟨rfl, hb⟩; obtain ⟨hc, hf, hz, hy⟩ := bcell hb; clear hy; (try simp only [World.size_alloc, World.size_setCell, World.size_drew] at hz); (try have gQ0 : w.heap.size < w'.heap.size := by omega); (try have gQ1 : w.heap.size + 1 < w'.heap.size := by omega); (try have gQ2 : w.heap.size + 1 + 1 < w'.heap.size := by omega); (try have gQ3 : w.heap.size + 1 + 1 + 1 < w'.heap.size := by omega); (try have gQ4 : w.heap.size + 1 + 1 + 1 + 1 < w'.heap.size := by omega); (try have gQ5 : w.heap.size + 1 + 1 + 1 + 1 + 1 < w'.heap.size := by omega); (try have dQ0 : _ < w'.heap.size := Nat.lt_of_lt_of_le dQ0 (by omega)); (try have dQ1 : _ < w'.heap.size := Nat.lt_of_lt_of_le dQ1 (by omega)); (try have dQ2 : _ < w'.heap.size := Nat.lt_of_lt_of_le dQ2 (by omega)); (try have dQ3 : _ < w'.heap.size := Nat.lt_of_lt_of_le dQ3 (by omega)); (try have dQ4 : _ < w'.heap.size := Nat.lt_of_lt_of_le dQ4 (by omega)); (try have dQ5 : _ < w'.heap.size := Nat.lt_of_lt_of_le dQ5 (by omega)); (try (have hnQ := Nat.lt_of_succ_le hz; first | (have _x := dQ0; first | (have _x := dQ1; first | (have _x := dQ2; first | (have _x := dQ3; first | (have _x := dQ4; have dQ5 := hnQ) | have dQ4 := hnQ) | have dQ3 := hnQ) | have dQ2 := hnQ) | have dQ1 := hnQ) | have dQ0 := hnQ)); (try (have hmQ := Nat.lt_of_succ_lt (Nat.lt_of_succ_le hz); first | (have _x := dQ0; first | (have _x := dQ1; first | (have _x := dQ2; first | (have _x := dQ3; first | (have _x := dQ4; have dQ5 := hmQ) | have dQ4 := hmQ) | have dQ3 := hmQ) | have dQ2 := hmQ) | have dQ1 := hmQ) | have dQ0 := hmQ))) | ((with_reducible refine wp_region_qb ?_ ?_ (fun hq => ?_)); (focus kernel_rfl); (focus kernel_rfl); (repeat (go_big_quiet_step ((go_at_call 37; (first | (with_reducible exact Calls.regrown_of (H3.out _)) | (with_reducible exact Calls.regrown_of (H4.out _))))))); refine wpQuiet_nil ?_; intro wq hb; obtain ⟨hc, hf, hz, hy⟩ := bcell hb; clear hq hy; (try simp only [World.size_alloc, World.size_setCell, World.size_drew] at hz); (try have gQ0 : w.heap.size < wq.heap.size := by omega); (try have gQ1 : w.heap.size + 1 < wq.heap.size := by omega); (try have gQ2 : w.heap.size + 1 + 1 < wq.heap.size := by omega); (try have gQ3 : w.heap.size + 1 + 1 + 1 < wq.heap.size := by omega); (try have gQ4 : w.heap.size + 1 + 1 + 1 + 1 < wq.heap.size := by omega); (try have gQ5 : w.heap.size + 1 + 1 + 1 + 1 + 1 < wq.heap.size := by omega); (try have dQ0 : _ < wq.heap.size := Nat.lt_of_lt_of_le dQ0 (by omega)); (try have dQ1 : _ < wq.heap.size := Nat.lt_of_lt_of_le dQ1 (by omega)); (try have dQ2 : _ < wq.heap.size := Nat.lt_of_lt_of_le dQ2 (by omega)); (try have dQ3 : _ < wq.heap.size := Nat.lt_of_lt_of_le dQ3 (by omega)); (try have dQ4 : _ < wq.heap.size := Nat.lt_of_lt_of_le dQ4 (by omega)); (try have dQ5 : _ < wq.heap.size := Nat.lt_of_lt_of_le dQ5 (by omega)); (try (have hnQ := Nat.lt_of_succ_le hz; first | (have _x := dQ0; first | (have _x := dQ1; first | (have _x := dQ2; first | (have _x := dQ3; first | (have _x := dQ4; have dQ5 := hnQ) | have dQ4 := hnQ) | have dQ3 := hnQ) | have dQ2 := hnQ) | have dQ1 := hnQ) | have dQ0 := hnQ)); (try (have hmQ := Nat.lt_of_succ_lt (Nat.lt_of_succ_le hz); first | (have _x := dQ0; first | (have _x := dQ1; first | (have _x := dQ2; first | (have _x := dQ3; first | (have _x := dQ4; have dQ5 := hmQ) | have dQ4 := hmQ) | have dQ3 := hmQ) | have dQ2 := hmQ) | have dQ1 := hmQ) | have dQ0 := hmQ))))
  go_ret
  exact ⟨by simp [Int.sub_eq_add_neg], by (repeat' first | (with_reducible exact Below.refl _ _) | (with_reducible refine Below.alloc ?_ ?_ _) | (with_reducible refine Below.drew ?_) | (with_reducible refine Below.setCell ?_ ?_ _) | (with_reducible refine below_via (by assumption) ?_ ?_) | go_size)⟩
end Go.Proofs.Ytfpofhkggojaoaa
