/- HwW: contracts of the reference's l22Ways, CountGames and GameAt. Conditions: the board is small, the positions are in order. -/
import Derived.Test.YtledmebhlmpjaaaPzV
import Derived.Test.YtledmebhlmpjaaaReach2
import Derived.Test.YtledmebhlmpjaaaWay2
import Derived.Test.YtledmebhlmpjaaaPzB
import Derived.Test.YtledmebhlmpjaaaPzM
import Derived.Test.YtledmebhlmpjaaaPop
import Derived.Test.YtledmebhlmpjaaaSSpoils
import Derived.Deep.RegionWith
import Derived.Test.YtledmebhlmpjaaaGameA
set_option linter.unusedVariables false
set_option linter.unusedSimpArgs false
namespace Go.Proofs.Ytledmebhlmpjaaa
open Go.ChangeShapes Go.WideShapes Go.ChangeAt Go.RowKit Peg Go.Sort
/-- what the table of ways says -/
def RetWays (w : World) (a b o s g : Int) (e : Ending) (w' : World) : Prop :=
  ∃ (v : Value) (T : List Int), e = .returned v ∧ Own EInt w' w.heap.size v T ∧ (∀ q, Peg.Steps (linesOf a b o) false s q → q.toNat < T.length ∧ gD T 0 q.toNat = (games a b o g q : Nat)) ∧ Below w.heap.size w w'
set_option maxRecDepth 100000 in
theorem sCountGames_of (a b o s g : Int) (q1 : isSmall a b o = true) (q2 : posOk a b o s = true) (q3 : posOk a b o g = true)
    (PW : ∀ W, Calls Try.prog 45 #[.agg #[.int .i64 a, .int .i64 b, .int .i64 o], .int .i64 s, .int .i64 g, .int .i64 (-1)] W (RetWays W a b o s g)) (w : World) :
    Calls Try.prog 13 #[.agg #[.int .i64 a, .int .i64 b, .int .i64 o], .int .i64 s, .int .i64 g] w fun e w' => e = .returned (.int .i64 (games a b o g s : Nat)) ∧ Below w.heap.size w w' := by
  have hs := pos_lt q2
  have hg := pos_lt q3
  have HOK : Hid (∀ W, Calls Try.prog 44 #[.agg #[.int .i64 a, .int .i64 b, .int .i64 o], .int .i64 s, .int .i64 g] W fun e w' => e = .returned (.bool true) ∧ Below W.heap.size W w') := fun W => by
    have := l15Ok_any a b o s g (by omega) (by omega) W
    simpa [puzzleOk, q1, q2, q3] using this
  have HPW := Lib.hid PW
  clear PW q1 q2 q3
  go_enter Try.func13, Try.ntmps13
  go_wp2_with (go_at_call 44; refine (HOK.out _).mono ?_; rintro e w' ⟨rfl, hb⟩; obtain ⟨hc, hf, hz, hy⟩ := bcell hb; clear hy; (try simp only [World.size_alloc, World.size_setCell, World.size_drew] at hz); (try have gQ0 : w.heap.size < w'.heap.size := by omega); (try have gQ1 : w.heap.size + 1 < w'.heap.size := by omega); (try have gQ2 : w.heap.size + 1 + 1 < w'.heap.size := by omega); (try have gQ3 : w.heap.size + 1 + 1 + 1 < w'.heap.size := by omega); (try have gQ4 : w.heap.size + 1 + 1 + 1 + 1 < w'.heap.size := by omega); (try have gQ5 : w.heap.size + 1 + 1 + 1 + 1 + 1 < w'.heap.size := by omega); (try have dQ0 : _ < w'.heap.size := Nat.lt_of_lt_of_le dQ0 (by omega)); (try have dQ1 : _ < w'.heap.size := Nat.lt_of_lt_of_le dQ1 (by omega)); (try have dQ2 : _ < w'.heap.size := Nat.lt_of_lt_of_le dQ2 (by omega)); (try have dQ3 : _ < w'.heap.size := Nat.lt_of_lt_of_le dQ3 (by omega)); (try have dQ4 : _ < w'.heap.size := Nat.lt_of_lt_of_le dQ4 (by omega)); (try have dQ5 : _ < w'.heap.size := Nat.lt_of_lt_of_le dQ5 (by omega)); (try (have hnQ := Nat.lt_of_succ_le hz; first | (have _x := dQ0; first | (have _x := dQ1; first | (have _x := dQ2; first | (have _x := dQ3; first | (have _x := dQ4; have dQ5 := hnQ) | have dQ4 := hnQ) | have dQ3 := hnQ) | have dQ2 := hnQ) | have dQ1 := hnQ) | have dQ0 := hnQ)); (try (have hmQ := Nat.lt_of_succ_lt (Nat.lt_of_succ_le hz); first | (have _x := dQ0; first | (have _x := dQ1; first | (have _x := dQ2; first | (have _x := dQ3; first | (have _x := dQ4; have dQ5 := hmQ) | have dQ4 := hmQ) | have dQ3 := hmQ) | have dQ2 := hmQ) | have dQ1 := hmQ) | have dQ0 := hmQ)))
  refine (HPW.out _).mono ?_
  rintro e w3 ⟨v, T, rfl, hown, hT, hb3⟩
  obtain ⟨hT1, hT2⟩ := hT s (Peg.Steps.refl s)
  obtain ⟨aT, cT, rfl, hnT, hgT⟩ := hown.intG
  obtain ⟨bT, rfl, _, hbT, hc⟩ := hgT s.toNat hT1
  rw [hT2] at hc
  have hsn : ((s.toNat : Nat) : Int) = s := Int.toNat_of_nonneg hs.1
  have hsl : s < T.length := by omega
  clear hgT hT hown hT2 HPW HOK
  go_wp2_with fail
  all_goals go_ret
  all_goals exact ⟨by simp, by (repeat' first | (with_reducible exact Below.refl _ _) | (with_reducible refine Below.alloc ?_ ?_ _) | (with_reducible refine Below.drew ?_) | (with_reducible refine Below.setCell ?_ ?_ _) | (with_reducible refine below_via (by assumption) ?_ ?_) | go_size)⟩
end Go.Proofs.Ytledmebhlmpjaaa
namespace Peg
theorem listTo_nodup (l : List Bool) (k : Nat) : (listTo l k).Nodup := by
  unfold listTo
  have h : ((List.range k).filter (fun i => l.getD i false)).Nodup := List.Pairwise.filter _ List.nodup_range
  revert h
  generalize (List.range k).filter (fun i => l.getD i false) = M
  intro h
  rw [List.Nodup, List.pairwise_map]
  exact List.Pairwise.imp (fun hne he => hne (by omega)) h
theorem reach_mem {a b o s q : Int} (hs : isSmall a b o = true) (hp : posOk a b o s = true) : q ∈ reachList a b o s ↔ Steps (linesOf a b o) false s q := by
  rw [← hasB_iff hs hp]
  constructor
  · intro h
    have h1 := listOf_mem h
    simp only [hasB, Bool.and_eq_true, decide_eq_true_eq]
    exact ⟨⟨h1.1, h1.2.1⟩, h1.2.2⟩
  · intro h
    simp only [hasB, Bool.and_eq_true, decide_eq_true_eq] at h
    unfold reachList listOf listTo
    rw [List.mem_map]
    refine ⟨q.toNat, ?_, by omega⟩
    rw [List.mem_filter, List.mem_range]
    exact ⟨by omega, h.2⟩
/-- what is asked of the list of positions -/
structure RK (a b o g : Int) (N : Nat) (R : List Int) : Prop where
  nodup : R.Nodup
  range : ∀ x ∈ R, 0 ≤ x ∧ x < N
  jump : ∀ x ∈ R, ∀ l ∈ linesOf a b o, canJ x l = true → flip x l ∈ R
  pegsLe : ∀ x ∈ R, pegs x ≤ (a * b).toNat
  fits : ∀ x ∈ R, games a b o g x ≤ 9000000000000000000
theorem rk_of {a b o s : Int} (g : Int) (hs : isSmall a b o = true) (hp : posOk a b o s = true) : RK a b o g (boardN a b) (reachList a b o s) where
  nodup := listTo_nodup _ _
  range := fun x hx => by
    have h1 := listOf_mem hx
    rw [spreadOf_length hs hp] at h1
    exact ⟨h1.1, h1.2.1⟩
  jump := fun x hx l hl hc => (reach_mem hs hp).2 (((reach_mem hs hp).1 hx).snoc hl hc)
  pegsLe := fun x hx => by
    have hpx := Steps.pos hp ((reach_mem hs hp).1 hx)
    have hpN := pos_N hpx
    obtain ⟨_, ha1, ha2, _, _⟩ := small_N hs
    have hpw : x < pw ((a * b).toNat : Int) := by
      rw [show (((a * b).toNat : Nat) : Int) = a * b from by omega, pwN (by omega)]; exact hpN.2
    rw [pegs_cells (n := (a * b).toNat) (by omega) hpN.1 hpw]
    exact holesTo_length _ _
  fits := fun x hx => games_fits hs (Steps.pos hp ((reach_mem hs hp).1 hx))
def TabV (a b o g : Int) (R : List Int) (n i : Nat) (x : Int) : Nat := if pegs x < n ∨ (pegs x = n ∧ x ∈ R.take i) then games a b o g x else 0
def TabOk (a b o g : Int) (R : List Int) (N n i : Nat) (T : List Int) : Prop := T.length = N ∧ ∀ x ∈ R, gD T 0 x.toNat = (TabV a b o g R n i x : Nat)
def sumTo (a b o g q : Int) (k : Nat) : Nat := ((((linesOf a b o).take k).filter (canJ q)).map fun l => games a b o g (flip q l)).sum
def TabMid (a b o g : Int) (R : List Int) (N n i k : Nat) (T : List Int) : Prop := T.length = N ∧ (∀ x ∈ R, x ≠ gD R 0 i → gD T 0 x.toNat = (TabV a b o g R n i x : Nat)) ∧ gD T 0 (gD R 0 i).toNat = (sumTo a b o g (gD R 0 i) k : Nat)
theorem gD_setW (l : List Int) (x : Int) (k i : Nat) (hk : k < l.length) : gD (l.set k x) 0 i = if i = k then x else gD l 0 i := by
  unfold gD
  simp only [List.getD_eq_getElem?_getD, List.getElem?_set]
  by_cases h : i = k
  · subst h; simp [hk]
  · rw [if_neg (by omega), if_neg h]
theorem gD_rep (N i : Nat) : gD (List.replicate N (0 : Int)) 0 i = 0 := by
  unfold gD
  rw [List.getD_eq_getElem?_getD, List.getElem?_replicate]
  by_cases h : i < N <;> simp [h]
variable {a b o g : Int} {N : Nat} {R : List Int}
theorem tab_start : TabOk a b o g R N 0 0 (List.replicate N 0) := ⟨by simp, fun x _ => by rw [gD_rep]; simp [TabV]⟩
theorem tab_next {n : Nat} {T : List Int} (h : TabOk a b o g R N n R.length T) : TabOk a b o g R N (n + 1) 0 T := by
  refine ⟨h.1, fun x hx => ?_⟩
  rw [h.2 x hx]
  congr 1
  unfold TabV
  by_cases h1 : pegs x < n
  · rw [if_pos (.inl h1), if_pos (.inl (by omega))]
  by_cases h2 : pegs x = n
  · rw [if_pos (.inr ⟨h2, by simpa using hx⟩), if_pos (.inl (by omega))]
  · rw [if_neg (by omega), if_neg (by simp; omega)]
theorem take_mem {i : Nat} (hi : i < R.length) (x : Int) : x ∈ R.take (i + 1) ↔ x ∈ R.take i ∨ x = gD R 0 i := by
  rw [List.take_add_one, List.mem_append]
  have : R[i]? = some (gD R 0 i) := by simp [gD, hi]
  rw [this]
  simp
theorem nodup_take {i : Nat} (hn : R.Nodup) (hi : i < R.length) : gD R 0 i ∉ R.take i := by
  intro h
  have e : gD R 0 i = R[i] := gD_lt R 0 i hi
  rw [e, List.mem_take_iff_getElem] at h
  obtain ⟨j, hj, he⟩ := h
  exact (List.pairwise_iff_getElem.1 hn) j i (by omega) hi (by omega) he
theorem tab_skip {n i : Nat} {T : List Int} (hi : i < R.length) (hp : pegs (gD R 0 i) ≠ n) (h : TabOk a b o g R N n i T) : TabOk a b o g R N n (i + 1) T := by
  refine ⟨h.1, fun x hx => ?_⟩
  rw [h.2 x hx]
  congr 1
  unfold TabV
  simp only [take_mem hi]
  by_cases he : x = gD R 0 i
  · subst he; simp [hp]
  · simp [he]
theorem tabV_other {n i : Nat} (hi : i < R.length) {x : Int} (he : x ≠ gD R 0 i) : TabV a b o g R n (i + 1) x = TabV a b o g R n i x := by
  unfold TabV
  simp only [take_mem hi]
  simp [he]
theorem tabV_own {n i : Nat} (hi : i < R.length) (hp : pegs (gD R 0 i) = n) : TabV a b o g R n (i + 1) (gD R 0 i) = games a b o g (gD R 0 i) := by
  unfold TabV
  rw [if_pos (.inr ⟨hp, (take_mem hi _).2 (.inr rfl)⟩)]
theorem tab_in {n i : Nat} {T : List Int} (hk : RK a b o g N R) (hi : i < R.length) (hp : pegs (gD R 0 i) = n) (h : TabOk a b o g R N n i T) : TabMid a b o g R N n i 0 T := by
  refine ⟨h.1, fun x hx _ => h.2 x hx, ?_⟩
  rw [h.2 _ (gD_mem R 0 i hi)]
  unfold TabV
  rw [if_neg]
  · simp [sumTo]
  · rintro (h1 | ⟨_, h1⟩)
    · omega
    · exact nodup_take hk.nodup hi h1
theorem tab_out {n i : Nat} {T : List Int} (hi : i < R.length) (hp : pegs (gD R 0 i) = n) (hg : gD R 0 i ≠ g) (h : TabMid a b o g R N n i (linesOf a b o).length T) : TabOk a b o g R N n (i + 1) T := by
  refine ⟨h.1, fun x hx => ?_⟩
  by_cases he : x = gD R 0 i
  · subst he
    rw [h.2.2, tabV_own hi hp, games_step hg]
    unfold sumTo
    rw [List.take_length]
  · rw [h.2.1 x hx he, tabV_other hi he]
theorem tab_goal {n i : Nat} {T : List Int} (hk : RK a b o g N R) (hi : i < R.length) (hp : pegs (gD R 0 i) = n) (hg : gD R 0 i = g) (h : TabOk a b o g R N n i T) : TabOk a b o g R N n (i + 1) (T.set (gD R 0 i).toNat 1) := by
  have hr := hk.range _ (gD_mem R 0 i hi)
  refine ⟨by rw [List.length_set]; exact h.1, fun x hx => ?_⟩
  have hrx := hk.range _ hx
  rw [gD_setW _ _ _ _ (by rw [h.1]; omega)]
  by_cases he : x = gD R 0 i
  · subst he
    rw [if_pos rfl, tabV_own hi hp]
    conv => rhs; rw [hg]
    rw [games_goal]
    rfl
  · rw [if_neg (by omega), h.2 x hx, tabV_other hi he]
theorem sumTo_no {q : Int} {k : Nat} (h : k < (linesOf a b o).length) (hc : canJ q (gD (linesOf a b o) Ln0 k) = false) : sumTo a b o g q (k + 1) = sumTo a b o g q k := by
  unfold sumTo
  rw [sum_take_f _ _ _ _ h, hc]
  simp
theorem sumTo_yes {q : Int} {k : Nat} (h : k < (linesOf a b o).length) (hc : canJ q (gD (linesOf a b o) Ln0 k) = true) : sumTo a b o g q (k + 1) = sumTo a b o g q k + games a b o g (flip q (gD (linesOf a b o) Ln0 k)) := by
  unfold sumTo
  rw [sum_take_f (fun l => games a b o g (flip q l)) _ _ _ h, hc]
  simp
theorem sumTo_le {q : Int} (k : Nat) (hg : q ≠ g) : sumTo a b o g q k ≤ games a b o g q := by
  rw [games_step hg]
  exact sum_take_le _ _ _ _
theorem tab_no {n i k : Nat} {T : List Int} (hl : k < (linesOf a b o).length) (hc : canJ (gD R 0 i) (gD (linesOf a b o) Ln0 k) = false) (h : TabMid a b o g R N n i k T) : TabMid a b o g R N n i (k + 1) T :=
  ⟨h.1, h.2.1, by rw [h.2.2, sumTo_no hl hc]⟩
theorem tab_yes {n i k : Nat} {T : List Int} (hk : RK a b o g N R) (hi : i < R.length) (hp : pegs (gD R 0 i) = n) (hg : gD R 0 i ≠ g) (hl : k < (linesOf a b o).length) (hc : canJ (gD R 0 i) (gD (linesOf a b o) Ln0 k) = true) (h : TabMid a b o g R N n i k T) :
    ∃ s t : Nat, gD T 0 (gD R 0 i).toNat = s ∧ gD T 0 (flip (gD R 0 i) (gD (linesOf a b o) Ln0 k)).toNat = t ∧ s + t ≤ 9000000000000000000 ∧ TabMid a b o g R N n i (k + 1) (T.set (gD R 0 i).toNat ((s : Int) + t)) := by
  have hm := gD_mem R 0 i hi
  have hml := gD_mem (linesOf a b o) Ln0 k hl
  have hf := hk.jump _ hm _ hml hc
  have hpj := pegs_jump (linesOf_in hml).1 hc
  have hr := hk.range _ hm
  have hrf := hk.range _ hf
  have hne : flip (gD R 0 i) (gD (linesOf a b o) Ln0 k) ≠ gD R 0 i := fun e => by rw [e] at hpj; omega
  have hs := sumTo_yes (g := g) hl hc
  have hle := sumTo_le (a := a) (b := b) (o := o) (k + 1) hg
  have hfit := hk.fits _ hm
  refine ⟨sumTo a b o g (gD R 0 i) k, games a b o g (flip (gD R 0 i) (gD (linesOf a b o) Ln0 k)), h.2.2, ?_, by omega, ?_⟩
  · rw [h.2.1 _ hf hne]
    unfold TabV
    rw [if_pos (.inl (by omega))]
  · refine ⟨by rw [List.length_set]; exact h.1, fun x hx hxe => ?_, ?_⟩
    · have hrx := hk.range _ hx
      rw [gD_setW _ _ _ _ (by rw [h.1]; omega), if_neg (by omega), h.2.1 x hx hxe]
    · rw [gD_setW _ _ _ _ (by rw [h.1]; omega), if_pos rfl, hs]
      simp
theorem tab_end {n : Nat} {T : List Int} (hk : RK a b o g N R) (h : TabOk a b o g R N n 0 T) (hn : (a * b).toNat < n) : ∀ x ∈ R, x.toNat < T.length ∧ gD T 0 x.toNat = (games a b o g x : Nat) := by
  intro x hx
  have h1 := hk.pegsLe x hx
  have h2 := hk.range x hx
  refine ⟨by rw [h.1]; omega, ?_⟩
  rw [h.2 x hx]
  unfold TabV
  rw [if_pos (.inl (by omega))]
end Peg
namespace Go.Proofs.Ytledmebhlmpjaaa
open Go.ChangeShapes Go.WideShapes Go.ChangeAt Go.RowKit Peg Go.Sort
theorem run_make_ints (t : TypeId) (ht : Try.prog.underlying t = some (.slice 3)) (n : Int) (h0 : 0 ≤ n) (h1 : n ≤ 1099511627776) (w : World) :
    (Instr.makeSlice t (.int .i64 n) (.int .i64 n)).run Try.prog w = .ok (.slice (some ⟨w.heap.size, 0, none⟩) n.toNat n.toNat) (w.alloc (.cells (fillCells (.int .i64 0) n.toNat) 3)) := by
  obtain ⟨i, hi, hz, hsize, hby⟩ := info_parts info_int
  rw [run_make (P := Try.prog) w t 3 i (.int .i64 0) ht hi hz .i64 .i64 n n h0 (Int.le_refl _) (by rw [hby]; omega) (by omega)]
  rw [hsize, Nat.mul_one]
  show Result.ok _ (w.alloc (.cells (madeCells #[.int .i64 0] n.toNat) 3)) = _
  rw [madeCells_one]
theorem Own.intAt {w : World} {base b n cap : Nat} {l : List Int} (h : Own EInt w base (.slice (some ⟨b, 0, none⟩) n cap) l) (i : Nat) (hi : i < l.length) : w.cell? ⟨b, i, none⟩ = some (.int .i64 (gD l 0 i)) ∧ b < w.heap.size ∧ n = l.length := by
  obtain ⟨a, cap', hv, _, hg⟩ := h.intG
  obtain ⟨b', hb', h1, h2, h3⟩ := hg i hi
  simp only [Value.slice.injEq] at hv
  obtain ⟨rfl, rfl, rfl⟩ := hv
  simp only [Option.some.injEq, Addr.mk.injEq, and_true] at hb'
  subst hb'
  exact ⟨h3, h2, rfl⟩
set_option maxHeartbeats 4000000 in
set_option maxRecDepth 100000 in
theorem l22Ways_any (a b o s g : Int) (hsm : isSmall a b o = true) (hso : posOk a b o s = true) (hgo : posOk a b o g = true) (w : World) :
    Calls Try.prog 45 #[.agg #[.int .i64 a, .int .i64 b, .int .i64 o], .int .i64 s, .int .i64 g, .int .i64 (-1)] w (RetWays w a b o s g) := by
  obtain ⟨hbo, ab1, ab16, hN, hN1⟩ := small_N hsm
  have hRK := rk_of (a := a) (b := b) (o := o) (s := s) g hsm hso
  have hs9 := pos_lt hso
  have hg9 := pos_lt hgo
  have HMEM : Hid (∀ q, Peg.Steps (linesOf a b o) false s q → q ∈ reachList a b o s) := fun q h => (reach_mem hsm hso).2 h
  have HI : Hid (∀ l ∈ linesOf a b o, LnIn a b l) := fun l hl => linesOf_in hl
  have HLd : Hid (Leads (boardN a b) (linesOf a b o)) := leads_of hbo
  have HCP : Hid (∀ q ∈ reachList a b o s, ∀ W, Calls Try.prog 78 #[.agg #[.int .i64 a, .int .i64 b, .int .i64 o], .int .i64 q] W fun e w' => e = .returned (.int .i64 (pegs q : Nat)) ∧ Below W.heap.size W w') := by
    intro q hq W
    have hpq := Peg.Steps.pos hso ((reach_mem hsm hso).1 hq)
    have h := sCountPegs_any a b o q (by have := pos_lt hpq; omega) W
    rwa [if_pos hpq] at h
  have HRG : Hid (∀ x ∈ reachList a b o s, 0 ≤ x ∧ x < boardN a b) := hRK.range
  have HSK : Hid (∀ n i T, i < (reachList a b o s).length → pegs (gD (reachList a b o s) 0 i) ≠ n → TabOk a b o g (reachList a b o s) (boardN a b) n i T → TabOk a b o g (reachList a b o s) (boardN a b) n (i + 1) T) := fun n i T h1 h2 h3 => tab_skip h1 h2 h3
  have HNX : Hid (∀ n T, TabOk a b o g (reachList a b o s) (boardN a b) n (reachList a b o s).length T → TabOk a b o g (reachList a b o s) (boardN a b) (n + 1) 0 T) := fun n T h => tab_next h
  have HIN : Hid (∀ n i T, i < (reachList a b o s).length → pegs (gD (reachList a b o s) 0 i) = n → TabOk a b o g (reachList a b o s) (boardN a b) n i T → TabMid a b o g (reachList a b o s) (boardN a b) n i 0 T) := fun n i T h1 h2 h3 => tab_in hRK h1 h2 h3
  have HOU : Hid (∀ n i T, i < (reachList a b o s).length → pegs (gD (reachList a b o s) 0 i) = n → gD (reachList a b o s) 0 i ≠ g → TabMid a b o g (reachList a b o s) (boardN a b) n i (linesOf a b o).length T → TabOk a b o g (reachList a b o s) (boardN a b) n (i + 1) T) := fun n i T h1 h2 h3 h4 => tab_out h1 h2 h3 h4
  have HGO : Hid (∀ n i T, i < (reachList a b o s).length → pegs (gD (reachList a b o s) 0 i) = n → gD (reachList a b o s) 0 i = g → TabOk a b o g (reachList a b o s) (boardN a b) n i T → TabOk a b o g (reachList a b o s) (boardN a b) n (i + 1) (T.set (gD (reachList a b o s) 0 i).toNat 1)) := fun n i T h1 h2 h3 h4 => tab_goal hRK h1 h2 h3 h4
  have HNO : Hid (∀ n i k T, k < (linesOf a b o).length → canJ (gD (reachList a b o s) 0 i) (gD (linesOf a b o) Ln0 k) = false → TabMid a b o g (reachList a b o s) (boardN a b) n i k T → TabMid a b o g (reachList a b o s) (boardN a b) n i (k + 1) T) := fun n i k T h1 h2 h3 => tab_no h1 h2 h3
  have HYE : Hid (∀ n i k T, i < (reachList a b o s).length → pegs (gD (reachList a b o s) 0 i) = n → gD (reachList a b o s) 0 i ≠ g → k < (linesOf a b o).length → canJ (gD (reachList a b o s) 0 i) (gD (linesOf a b o) Ln0 k) = true → TabMid a b o g (reachList a b o s) (boardN a b) n i k T →
    ∃ x t : Nat, gD T 0 (gD (reachList a b o s) 0 i).toNat = x ∧ gD T 0 (Peg.flip (gD (reachList a b o s) 0 i) (gD (linesOf a b o) Ln0 k)).toNat = t ∧ x + t ≤ 9000000000000000000 ∧ TabMid a b o g (reachList a b o s) (boardN a b) n i (k + 1) (T.set (gD (reachList a b o s) 0 i).toNat ((x : Int) + t))) := fun n i k T h1 h2 h3 h4 h5 h6 => tab_yes hRK h1 h2 h3 h4 h5 h6
  have HEN : Hid (∀ n T, TabOk a b o g (reachList a b o s) (boardN a b) n 0 T → (a * b).toNat < n → ∀ x ∈ reachList a b o s, x.toNat < T.length ∧ gD T 0 x.toNat = (games a b o g x : Nat)) := fun n T h1 h2 => tab_end hRK h1 h2
  have HST : Hid (TabOk a b o g (reachList a b o s) (boardN a b) 0 0 (List.replicate (boardN a b) 0)) := tab_start
  have HTL : Hid (∀ n i T, TabOk a b o g (reachList a b o s) (boardN a b) n i T → T.length = boardN a b) := fun n i T h => h.1
  have HTM : Hid (∀ n i k T, TabMid a b o g (reachList a b o s) (boardN a b) n i k T → T.length = boardN a b) := fun n i k T h => h.1
  have hRl : (reachList a b o s).length ≤ 65536 := Nat.le_trans (listTo_length _ _) (spreadOf_le a b o s false)
  have hL196 := linesOf_le a b o
  have hpw := pw_wrap (n := a * b) (by omega) (by omega)
  rw [pwN (by omega)] at hpw
  clear hRK
  generalize TabOk a b o g (reachList a b o s) (boardN a b) = TO at *
  generalize TabMid a b o g (reachList a b o s) (boardN a b) = TM at *
  generalize boardN a b = N at *
  have hmk := run_make_ints 61 Try.underlying61 (N : Int) (by omega) (by omega)
  have hw : IntKind.i64.wrap (a * b) = a * b := IntWalk.i64_in _ (by omega)
  go_enter Try.func45, Try.ntmps45
  go_wp2_with fail
  refine (sLinesOf_any _ _ _ _).mono ?_
  rintro e w2 ⟨vL, rfl, hownL, hb⟩
  have hz2 := hb.size
  simp only [World.size_alloc] at hz2
  have hB2 : Below (w.heap.size + 1) (w.alloc (.cells #[.int .i64 a, .int .i64 b, .int .i64 o] 27)) w2 := by simpa using hb
  have HB2 := Lib.hid hB2
  clear hB2
  have hbox2 : ∀ j, w2.cell? ⟨w.heap.size, j, none⟩ = #[Value.int .i64 a, .int .i64 b, .int .i64 o][j]? := fun j => (HB2.out.cell (by simp)).trans (by simp)
  have gW2 : w.heap.size < w2.heap.size := by omega
  clear hb
  go_wp2_with fail
  refine (sReachOf_any _ _ _ _ (by omega) _).mono ?_
  rintro e w3 ⟨vR, rfl, hownR, hb3⟩
  have hz3 := hb3.size
  have hownL3 := hownL.keep hb3
  have HB3 : Hid (Below (w.heap.size + 1) (w.alloc (.cells #[.int .i64 a, .int .i64 b, .int .i64 o] 27)) w3) := HB2.out.trans (hb3.mono (by omega))
  have hbox3 : ∀ j, w3.cell? ⟨w.heap.size, j, none⟩ = #[Value.int .i64 a, .int .i64 b, .int .i64 o][j]? := fun j => (HB3.out.cell (by simp)).trans (by simp)
  have gW3 : w.heap.size < w3.heap.size := by omega
  obtain ⟨aL, capL, rfl, hnL, hgetL⟩ := hownL3.lineG
  obtain ⟨aR, capR, rfl, hnR, hgetR⟩ := hownR.intG
  have HGL := Lib.hid hgetL
  have HGR := Lib.hid hgetR
  have HW3 : Hid (Below w.heap.size w w3) := ((Below.refl _ _).alloc (Nat.le_refl _) _).trans (HB3.out.mono (by omega))
  clear hgetL hgetR hownL hownR hownL3 hb3 HB2 HB3 hbox2
  generalize hL0 : linesOf a b o = L at *
  have HL0 := Lib.hid hL0
  clear hL0
  generalize reachList a b o s = R at *
  have hS0 : Own EInt (w3.alloc (.cells (fillCells (.int .i64 0) N) 3)) w3.heap.size (.slice (some ⟨w3.heap.size, 0, none⟩) N N) (List.replicate N 0) := Own.fill (E := EInt) rfl (0 : Int) (.int .i64 0) rfl w3 N (by unfold maxLen; omega)
  have HS0 := Lib.hid hS0
  clear hS0
  go_wp2_with fail
  clear hmk hpw
  go_loopw [12] (fun i wr => ∃ (n : Nat) (T : List Int), n ≤ (a * b).toNat + 1 ∧ i = .int .i64 n ∧ Hid (TO n 0 T) ∧ Hid (Own EInt wr w3.heap.size (.slice (some ⟨w3.heap.size, 0, none⟩) N N) T) ∧ Below w3.heap.size w3 wr ∧ w3.heap.size < wr.heap.size) (fun i _ => (a * b).toNat + 1 - (intOf i).toNat)
  case atStart => exact ⟨0, _, by omega, rfl, HST, HS0, (Below.refl _ _).alloc (Nat.le_refl _) _, by simp⟩
  case round =>
    obtain ⟨n, T, hn, rfl, HTO, HOT, hbw, hzw⟩ := hrel
    obtain ⟨w4, rfl⟩ : ∃ w4 : World, w4 = wr := ⟨_, rfl⟩
    have hbox : ∀ j, w4.cell? ⟨w.heap.size, j, none⟩ = #[Value.int .i64 a, .int .i64 b, .int .i64 o][j]? := fun j => (hbw.cell (by simpa using gW3)).trans (hbox3 j)
    have gW4 : w.heap.size < w4.heap.size := by omega
    by_cases hlt : n < (a * b).toNat + 1
    · have hdn : decide ((n : Int) ≤ a * b) = true := decide_eq_true (by omega)
      have hdn2 : (n : Int) ≤ a * b := by omega
      go_wp2_with fail
      go_loopw [13] (fun i wr => ∃ (k : Nat) (T : List Int), k ≤ R.length ∧ i = .int .i64 k ∧ Hid (TO n k T) ∧ Hid (Own EInt wr w3.heap.size (.slice (some ⟨w3.heap.size, 0, none⟩) N N) T) ∧ Below w3.heap.size w3 wr ∧ w3.heap.size < wr.heap.size) (fun i _ => R.length - (intOf i).toNat)
      case atStart => exact ⟨0, _, by omega, rfl, HTO, HOT, hbw, hzw⟩
      case round =>
        obtain ⟨k, T', hk, rfl, HTO', HOT', hbw', hzw'⟩ := hrel
        clear HTO HOT T hbw hzw hbox gW4
        obtain ⟨w5, rfl⟩ : ∃ w5 : World, w5 = wr := ⟨_, rfl⟩
        have hbox : ∀ j, w5.cell? ⟨w.heap.size, j, none⟩ = #[Value.int .i64 a, .int .i64 b, .int .i64 o][j]? := fun j => (hbw'.cell (by simpa using gW3)).trans (hbox3 j)
        have gW5 : w.heap.size < w5.heap.size := by omega
        by_cases hkl : k < R.length
        · obtain ⟨bR, rfl, hbR1, hbR2, hcR⟩ := HGR.out k hkl
          have hcRw : w5.cell? ⟨bR, k, none⟩ = some (.int .i64 (gD R 0 k)) := (hbw'.cell (p := ⟨bR, k, none⟩) hbR2).trans hcR
          have hmem := gD_mem R 0 k hkl
          obtain ⟨hp0, hp1⟩ := HRG.out _ hmem
          have HCQ := Lib.hid (HCP.out _ hmem)
          have HSK' := Lib.hid (fun h => HSK.out n k T' hkl h HTO'.out)
          have HIN' := Lib.hid (fun h => HIN.out n k T' hkl h HTO'.out)
          have HGO' := Lib.hid (fun h h2 => HGO.out n k T' hkl h h2 HTO'.out)
          have HOU' := Lib.hid (fun T h h2 h3 => HOU.out n k T hkl h h2 h3)
          have HNO' := Lib.hid (fun j T h1 h2 h3 => HNO.out n k j T h1 h2 h3)
          have HYE' := Lib.hid (fun j T h1 h2 h3 h4 h5 => HYE.out n k j T hkl h1 h2 h3 h4 h5)
          have HTL' := HTL.out n k T' HTO'.out
          have hTq : (gD R 0 k).toNat < T'.length := by rw [HTL']; omega
          have HSTO := Lib.hid (fun W (hW : Below w5.heap.size w5 W) => And.intro (Own.store (HOT'.out.keep hW) rfl (gD R 0 k).toNat hTq (1 : Int) (.int .i64 1) rfl) (Own.intAt (HOT'.out.keep hW) (gD R 0 k).toNat hTq).1)
          have HTLh := Lib.hid HTL'
          clear HTL' hcR
          generalize gD R 0 k = q at *
          by_cases hpn : pegs q = n
          rotate_left
          · have hne : ((pegs q : Int) != n) = true := by simp; omega
            have HT2 := Lib.hid (HSK'.out hpn)
            clear HSK' HIN' HGO' HOU' HNO' HYE' HSTO
            generalize pegs q = c at *
            go_wp2_with (go_at_call 78; refine (HCQ.out _).mono ?_; rintro e w6 ⟨rfl, hb6⟩)
            go_roundw
            case rel => exact ⟨k + 1, T', by omega, by go_num, HT2, HOT'.out.keep hb6, hbw'.trans (hb6.mono (by omega)), by have := hb6.size; omega⟩
            case measure => simp [intOf]; omega
          have hpe : ((pegs q : Int) != n) = false := by simp [hpn]
          have HPN := Lib.hid hpn
          by_cases hqg : q = g
          · have HT2 := Lib.hid (HGO'.out hpn hqg)
            have hqg2 : (q == g) = true := by simp [hqg]
            clear HSK' HIN' HGO' HOU' HNO' HYE' hpn hqg
            generalize pegs q = c at *
            go_wp2_with (go_at_call 78; refine (HCQ.out _).mono ?_; rintro e w6 ⟨rfl, hb6⟩; have hz6 := hb6.size; obtain ⟨⟨hOS, -, hfr6⟩, hso6⟩ := HSTO.out _ hb6)
            go_roundw
            case rel => exact ⟨k + 1, _, by omega, by go_num, HT2, hOS, (hbw'.trans (hb6.mono (by omega))).setCell (by simp) _, by simp; omega⟩
            case measure => simp [intOf]; omega
          have hqg2 : (q == g) = false := by simp [hqg]
          have hgn : decide (g < 0) = false := decide_eq_false (by omega)
          have HT3 := Lib.hid (HIN'.out hpn)
          have HQG := Lib.hid hqg
          clear HSK' HIN' HGO' HSTO hpn hqg
          go_wp2_with (go_at_call 78; refine (HCQ.out _).mono ?_; rintro e w6 ⟨rfl, hb6⟩; have hz6 := hb6.size; have hOT6 := Lib.hid (HOT'.out.keep hb6); have hbw6 := hbw'.trans (hb6.mono (by omega)); clear hb6)
          clear hpe hqg2 hgn
          have hzw6 : w3.heap.size < w6.heap.size := by omega
          go_loopw [15] (fun i wr => ∃ (j : Nat) (T : List Int), j ≤ L.length ∧ i = .int .i64 j ∧ Hid (TM n k j T) ∧ Hid (Own EInt wr w3.heap.size (.slice (some ⟨w3.heap.size, 0, none⟩) N N) T) ∧ Below w3.heap.size w3 wr ∧ w3.heap.size < wr.heap.size) (fun i _ => L.length - (intOf i).toNat)
          case atStart => exact ⟨0, _, by omega, rfl, HT3, hOT6, hbw6, hzw6⟩
          case round =>
            obtain ⟨j, T, hj, rfl, HTMj, HOTj, hbwj, hzj⟩ := hrel
            obtain ⟨w7, rfl⟩ : ∃ w7 : World, w7 = wr := ⟨_, rfl⟩
            by_cases hjt : j < L.length
            · obtain ⟨bL, rfl, hbL1, hbL2, hl1, hl2, hl3⟩ := HGL.out j hjt
              have hmj := gD_mem L Ln0 j hjt
              have hin := HI.out _ hmj
              have hqN := HLd.out _ hmj q hp0 hp1
              have hm1 : w7.cell? ⟨bL, j * 3, none⟩ = some (.int .i64 (gD L Ln0 j).f) := (hbwj.cell (p := ⟨bL, j * 3, none⟩) hbL2).trans hl1
              have hm2 : w7.cell? ⟨bL, j * 3 + 1, none⟩ = some (.int .i64 (gD L Ln0 j).o) := (hbwj.cell (p := ⟨bL, j * 3 + 1, none⟩) hbL2).trans hl2
              have hm3 : w7.cell? ⟨bL, j * 3 + 2, none⟩ = some (.int .i64 (gD L Ln0 j).t) := (hbwj.cell (p := ⟨bL, j * 3 + 2, none⟩) hbL2).trans hl3
              clear hl1 hl2 hl3
              have HNOj := Lib.hid (fun h => HNO'.out j T hjt h HTMj.out)
              have HYEj := Lib.hid (fun h => HYE'.out j T HPN.out HQG.out hjt h HTMj.out)
              have hTl := HTM.out n k j T HTMj.out
              generalize gD L Ln0 j = l at *
              have hq0 := flip_nonneg q l
              have dQ0 : w3.heap.size < w7.heap.size := hzj
              have dQ1 : bL < w7.heap.size := by omega
              have dQ2 : w.heap.size < w7.heap.size := by omega
              have HCL : Hid (∀ W, Calls Try.prog 43 #[.agg #[.int .i64 l.f, .int .i64 l.o, .int .i64 l.t]] W fun e w' => e = .returned (.int .i64 (lbits l)) ∧ Below W.heap.size W w') := fun W => l05Bits_any l.f l.o l.t hin.1 W
              have hwf := pw_wrap (n := l.f) hin.1.1.1 (by have := hin.1.1.2; omega)
              have hwo := pw_wrap (n := l.o) hin.1.2.1.1 (by have := hin.1.2.1.2; omega)
              have pf0 := pw_pos l.f
              have po0 := pw_pos l.o
              have pf2 : pw l.f < 9223372036854775808 := Int.lt_trans (pw_lt (k := 49) hin.1.1.1 (by have := hin.1.1.2; omega)) (by rw [pw49]; decide)
              have po2 : pw l.o < 9223372036854775808 := Int.lt_trans (pw_lt (k := 49) hin.1.2.1.1 (by have := hin.1.2.1.2; omega)) (by rw [pw49]; decide)
              have pb2 : lbits l < 9223372036854775808 := Int.lt_trans (lbits_lt (k := 49) hin.1 (by have := hin.1.1.2; omega) (by have := hin.1.2.1.2; omega) (by have := hin.1.2.2.1.2; omega)) (by rw [pw49]; decide)
              have pb0 := lbits_nonneg l
              have hor := bits_or (a := pw l.f) (b := pw l.o) (by omega) pf2 (by omega) po2
              have hand := bits_and (a := q) (b := lbits l) hp0 (by omega) pb0 pb2
              have hxor := bits_xor (a := q) (b := lbits l) hp0 (by omega) pb0 pb2
              rw [show bxor q (lbits l) = Peg.flip q l from rfl] at hxor
              have hfo := hin.1.1
              have hoo := hin.1.2.1
              have hto := hin.1.2.2.1
              have htn : (l.t != -1) = true := by simp; omega
              have hci := canJ_iff (p := q) hin.1
              generalize canJ q l = cj at *
              clear pf0 po0 pf2 po2 pb2 pb0
              generalize lbits l = LB at *
              generalize Peg.flip q l = q' at *
              generalize hA : band q LB = A at *
              generalize hFO : bor (pw l.f) (pw l.o) = FO at *
              generalize pw l.f = F at *
              generalize pw l.o = O at *
              clear hA hFO
              cases cj
              · have HT2 := Lib.hid (HNOj.out rfl)
                clear HNOj HYEj hTl
                go_wp2_with ((with_reducible refine wp_region_qb ?_ ?_ (fun hq => ?_)); (focus kernel_rfl); (focus kernel_rfl); (repeat (go_big_quiet_step ((go_at_call 43; exact Calls.regrown_of (HCL.out _))))); refine wpQuiet_nil ?_; (intro wq hbq; clear hq))
                go_roundw
                case rel => exact ⟨j + 1, T, by omega, by go_num, HT2, HOTj.out.keep hbq, hbwj.trans (hbq.mono (by omega)), by have := hbq.size; omega⟩
                case measure => simp [intOf]; omega
              · obtain ⟨x, t, hx, ht, hxt, HT2⟩ := HYEj.out rfl
                have HT2' := Lib.hid HT2
                have e1 := (Own.intAt HOTj.out q.toNat (by rw [hTl]; omega)).1
                have e2 := (Own.intAt HOTj.out q'.toNat (by rw [hTl]; omega)).1
                rw [hx] at e1
                rw [ht] at e2
                have HSTO := Lib.hid (fun W (hW : Below w7.heap.size w7 W) => And.intro (Own.store (HOTj.out.keep hW) rfl q.toNat (by rw [hTl]; omega) ((x : Int) + t) (.int .i64 ((x : Int) + t)) rfl) (And.intro ((hW.cell (p := ⟨w3.heap.size, q.toNat, none⟩) dQ0).trans e1) ((hW.cell (p := ⟨w3.heap.size, q'.toNat, none⟩) dQ0).trans e2)))
                have hwx : IntKind.i64.wrap ((x : Int) + t) = (x : Int) + t := IntWalk.i64_in _ (by omega)
                clear HNOj HYEj HT2 hx ht
                go_wp2_with ((with_reducible refine wp_region_qb ?_ ?_ (fun hq => ?_)); (focus kernel_rfl); (focus kernel_rfl); (repeat (go_big_quiet_step ((go_at_call 43; exact Calls.regrown_of (HCL.out _))))); refine wpQuiet_nil ?_; (intro wq hbq; clear hq))
                have hzq := hbq.size
                have d1 := (hbq.cell (p := ⟨bL, j * 3, none⟩) dQ1).trans hm1
                have d2 := (hbq.cell (p := ⟨bL, j * 3 + 1, none⟩) dQ1).trans hm2
                have d3 := (hbq.cell (p := ⟨bL, j * 3 + 2, none⟩) dQ1).trans hm3
                obtain ⟨-, f1, f2⟩ := HSTO.out wq hbq
                have HBQ := Lib.hid (fun W (hW : Below wq.drew.heap.size wq.drew W) => hbq.drew.trans (hW.mono (by simpa using hzq)))
                have hwx2 : wrap64 ((x : Int) + t) = (x : Int) + t := IntWalk.wrap64_in _ (by omega)
                clear hbq hm1 hm2 hm3 e1 e2 hwf hwo hor hand hci hfo hoo hto htn
                go_region_with (go_at_call 43; refine (HCL.out _).mono ?_; rintro e w8 ⟨rfl, hb8⟩; have hb7 := HBQ.out w8 hb8; obtain ⟨⟨hO8, -, hfr8⟩, g1, g2⟩ := HSTO.out w8 hb7; have hz8 := hb7.size)
                all_goals (go_wp2_with fail; go_roundw; (case rel => exact ⟨j + 1, _, by omega, by go_num, HT2', hO8, (hbwj.trans (hb7.mono (by omega))).setCell (by simp) _, by simp; omega⟩); (case measure => simp [intOf]; omega))
            · obtain rfl : j = L.length := by omega
              have HT2 := Lib.hid (HOU'.out T HPN.out HQG.out HTMj.out)
              go_wp2_with fail
              go_roundw
              case rel => exact ⟨k + 1, T, by omega, by go_num, HT2, HOTj, hbwj, hzj⟩
              case measure => simp [intOf]; omega
        · obtain rfl : k = R.length := by omega
          have HT2 := Lib.hid (HNX.out n T' HTO'.out)
          go_wp2_with fail
          go_roundw
          case rel => exact ⟨n + 1, T', by omega, by go_num, HT2, HOT', hbw', hzw'⟩
          case measure => simp [intOf]; omega
    · obtain rfl : n = (a * b).toNat + 1 := by omega
      have hdn : decide (((((a * b).toNat + 1 : Nat)) : Int) ≤ a * b) = false := decide_eq_false (by omega)
      have hdn2 : ¬ ((((a * b).toNat + 1 : Nat)) : Int) ≤ a * b := by omega
      go_wp2_with fail
      all_goals go_ret
      all_goals exact ⟨_, T, rfl, HOT.out.mono (by omega), fun q hq => HEN.out _ T HTO.out (by omega) q (HMEM.out q (by rw [← HL0.out]; exact hq)), HW3.out.trans (hbw.mono (by omega))⟩
end Go.Proofs.Ytledmebhlmpjaaa
namespace Peg
theorem pickJ_sum {F : Ln → Nat} {J : List Ln} {j : Nat} (h : j < J.length) : ((J.take (j + 1)).map F).sum = ((J.take j).map F).sum + F (gD J Ln0 j) := by
  rw [take_gD J Ln0 j h, List.map_append, List.sum_append]
  simp
theorem pickJ_at {F : Ln → Nat} {J : List Ln} {i j : Nat} (h : j < J.length) (hs : ((J.take j).map F).sum ≤ i) (hn : i - ((J.take j).map F).sum < F (gD J Ln0 j)) :
    pick F J i = some (gD J Ln0 j, i - ((J.take j).map F).sum) := by
  have e : J = J.take j ++ (gD J Ln0 j :: J.drop (j + 1)) := by
    conv => lhs; rw [← List.take_append_drop (j + 1) J, take_gD J Ln0 j h]
    simp
  have h2 := pick_skip (f := F) (J.take j) (gD J Ln0 j :: J.drop (j + 1)) i hs
  rw [← e] at h2
  rw [h2, pick, if_pos hn]
end Peg
namespace Go.Proofs.Ytledmebhlmpjaaa
open Go.ChangeShapes Go.WideShapes Go.ChangeAt Go.RowKit Peg Go.Sort
set_option maxHeartbeats 4000000 in
set_option maxRecDepth 100000 in
theorem sGameAt_any (a b o p g : Int) (i : Nat) (hs : isSmall a b o = true) (hp : posOk a b o p = true) (hg : posOk a b o g = true) (hi : i < games a b o g p) (w : World) :
    Calls Try.prog 26 #[.agg #[.int .i64 a, .int .i64 b, .int .i64 o], .int .i64 p, .int .i64 g, .int .i64 i] w fun e w' => ∃ v, e = .returned (.tuple #[v, .bool true]) ∧ Own ELine w' w.heap.size v (gameAt a b o p g i) ∧ Below w.heap.size w w' := by
  have hfit := games_fits (g := g) hs hp
  have HPW : Hid (∀ W, Calls Try.prog 45 #[.agg #[.int .i64 a, .int .i64 b, .int .i64 o], .int .i64 p, .int .i64 g, .int .i64 (-1)] W (RetWays W a b o p g)) := fun W => l22Ways_any a b o p g hs hp hg W
  have HCG : Hid (∀ W, Calls Try.prog 13 #[.agg #[.int .i64 a, .int .i64 b, .int .i64 o], .int .i64 p, .int .i64 g] W fun e w' => e = .returned (.int .i64 (games a b o g p : Nat)) ∧ Below W.heap.size W w') := fun W => sCountGames_of a b o p g hs hp hg HPW.out W
  have HFT : Hid (∀ q, posOk a b o q = true → games a b o g q ≤ 9000000000000000000) := fun q hq => games_fits hs hq
  have HSTP : Hid (∀ q, Peg.Steps (linesOf a b o) false p q → posOk a b o q = true) := fun q h => Peg.Steps.pos hp h
  have HSNO : Hid (∀ q l, Peg.Steps (linesOf a b o) false p q → l ∈ linesOf a b o → canJ q l = true → Peg.Steps (linesOf a b o) false p (Peg.flip q l)) := fun q l h hl hc => h.snoc hl hc
  have HJU : Hid (∀ q, posOk a b o q = true → jumpsOf a b o q = (linesOf a b o).filter (canJ q)) := fun q h => by simp [jumpsOf, h]
  have HJM : Hid (∀ q l, posOk a b o q = true → l ∈ jumpsOf a b o q → l ∈ linesOf a b o ∧ canJ q l = true) := fun q l h hl => by
    rw [HJU.out q h] at hl
    exact List.mem_filter.1 hl
  have HJC : Hid (∀ q, posOk a b o q = true → ∀ W, Calls Try.prog 20 #[.agg #[.int .i64 a, .int .i64 b, .int .i64 o], .int .i64 q] W (RetLines W (jumpsOf a b o q))) := fun q h W => sJumpsOf_any a b o q (by have := pos_lt h; omega) W
  have HIN : Hid (∀ l ∈ linesOf a b o, LnIn a b l) := fun l hl => linesOf_in hl
  have HGS : Hid (∀ q, posOk a b o q = true → q ≠ g → games a b o g q = ((jumpsOf a b o q).map fun l => games a b o g (Peg.flip q l)).sum) := fun q h1 h => by rw [HJU.out q h1]; exact games_step h
  have HGA : Hid (∀ q i x j, posOk a b o q = true → q ≠ g → pick (fun l => games a b o g (Peg.flip q l)) (jumpsOf a b o q) i = some (x, j) → pegs (Peg.flip q x) + 1 = pegs q → gAt a b o g (pegs q) q i = x :: gAt a b o g (pegs (Peg.flip q x)) (Peg.flip q x) j) := fun q i x j h1 h2 h3 h4 => gAt_step h2 (by rw [← HJU.out q h1]; exact h3) h4
  have hin : inR (i : Int) 0 ((games a b o g p : Nat) - 1) = true := by rw [inR_iff]; omega
  have hw64 : wrap64 ((games a b o g p : Nat) + -1 : Int) = (games a b o g p : Nat) - 1 := by rw [IntWalk.wrap64_in _ (by omega)]; omega
  have HWI : Hid (∀ W, Calls Try.prog 58 #[.int .i64 i, .int .i64 0, .int .i64 ((games a b o g p : Nat) - 1)] W fun e w' => e = .returned (.bool true) ∧ W = w') := fun W => by
    have h := l01In_any (i : Int) 0 ((games a b o g p : Nat) - 1) W
    rw [hin] at h
    exact h
  have HL256 : Hid (∀ q, posOk a b o q = true → (jumpsOf a b o q).length ≤ 196) := fun q h => by
    rw [HJU.out q h]
    exact Nat.le_trans (List.length_filter_le _ _) (linesOf_le a b o)
  clear hin
  have HI := Lib.hid hi
  obtain ⟨m, hm⟩ : ∃ m, m = games a b o g p := ⟨_, rfl⟩
  rw [← hm] at hi HCG HWI hw64 hfit
  clear hm
  go_enter Try.func26, Try.ntmps26
  go_wp2_with fail
  refine (HCG.out _).mono ?_
  rintro e w1 ⟨rfl, hb1⟩
  have hz1 := hb1.size
  simp only [World.size_alloc] at hz1
  have hB1 : Below (w.heap.size + 1) (w.alloc (.cells #[.int .i64 a, .int .i64 b, .int .i64 o] 27)) w1 := by first | exact hb1.mono (by simp) | exact ((Below.refl _ _).alloc (by simp) _).trans (hb1.mono (by simp))
  have HB1 := Lib.hid hB1
  have hbox1 : ∀ j, w1.cell? ⟨w.heap.size, j, none⟩ = #[Value.int .i64 a, .int .i64 b, .int .i64 o][j]? := fun j => (HB1.out.cell (by simp)).trans (by simp)
  clear hb1 hB1
  have gW1 : w.heap.size < w1.heap.size := by omega
  go_wp2_with (go_at_call 58; refine (HWI.out _).mono ?_; rintro e w' ⟨rfl, rfl⟩)
  refine (HPW.out _).mono ?_
  rintro e w2 ⟨v, T, rfl, hown, hT, hb2⟩
  have hz2 := hb2.size
  have HB2 : Hid (Below w.heap.size w w2) := ((Below.refl _ _).alloc (Nat.le_refl _) _).trans ((HB1.out.trans (hb2.mono (by omega))).mono (by omega))
  have hbox2 : ∀ j, w2.cell? ⟨w.heap.size, j, none⟩ = #[Value.int .i64 a, .int .i64 b, .int .i64 o][j]? := fun j => (hb2.cell (by simpa using gW1)).trans (hbox1 j)
  have gW2 : w.heap.size < w2.heap.size := by omega
  obtain ⟨aT, cT, rfl, hnT, hgT⟩ := hown.intG
  obtain ⟨bT, hbT, hbT2⟩ : ∃ bT, aT = some ⟨bT, 0, none⟩ ∧ bT < w2.heap.size := by
    obtain ⟨bT, h1, _, h2, _⟩ := hgT p.toNat (hT p (Peg.Steps.refl p)).1
    exact ⟨bT, h1, h2⟩
  subst hbT
  have HCT : Hid (∀ q, Peg.Steps (linesOf a b o) false p q → q.toNat < T.length ∧ w2.cell? ⟨bT, q.toNat, none⟩ = some (.int .i64 (games a b o g q : Nat))) := by
    intro q hq
    obtain ⟨h1, h2⟩ := hT q hq
    obtain ⟨b', h3, _, _, h4⟩ := hgT q.toNat h1
    simp only [Option.some.injEq, Addr.mk.injEq, and_true] at h3
    subst h3
    rw [h2] at h4
    exact ⟨h1, h4⟩
  have HST0 : Hid (Peg.Steps (linesOf a b o) false p p) := Peg.Steps.refl p
  clear hgT hT hown hb2 hbox1 HB1 HPW HCG HWI hw64 hs hfit
  generalize T.length = TL at *
  generalize hL0 : linesOf a b o = L at *
  clear hL0
  go_wp2_with fail
  go_loopw [1, 3, 10] (fun t u v wr => ∃ (q : Int) (k : Nat) (D : List Ln), t = .int .i64 q ∧ u = .int .i64 k ∧ Hid (Own ELine wr w2.heap.size v D) ∧ Hid (Peg.Steps L false p q) ∧ k < games a b o g q ∧ Hid (gAt a b o g (pegs p) p i = D ++ gAt a b o g (pegs q) q k) ∧ D.length + pegs q = pegs p ∧ Below w2.heap.size w2 wr) (fun t _ _ _ => pegs (intOf t))
  case atStart => exact ⟨p, i, [], rfl, rfl, by show Own _ _ _ _ _; exact Own.emptyAny _ _ _ _, HST0, HI.out, by show _ = _; rfl, by simp, by (repeat' first | (with_reducible exact Below.refl _ _) | (with_reducible refine Below.alloc ?_ ?_ _) | (with_reducible refine Below.drew ?_) | (with_reducible refine Below.setCell ?_ ?_ _) | (with_reducible refine below_via (by assumption) ?_ ?_) | go_size)⟩
  case round =>
    obtain ⟨q, k, D, rfl, rfl, HOW, HSQ, hkm, HRU, hDl, hbw⟩ := hrel
    have hzr := hbw.size
    obtain ⟨aD, cD, rfl, -, -⟩ := HOW.out.lineG
    by_cases hqg : q = g
    · subst hqg
      have HEND : Hid (gameAt a b o p q i = D) := by
        show _ = _
        rw [gameAt, HRU.out]
        cases pegs q <;> simp [gAt]
      go_wp2_with fail
      all_goals go_ret2
      all_goals exact ⟨_, rfl, by rw [HEND.out]; exact HOW.out.mono (by omega), HB2.out.trans (hbw.mono (by omega))⟩
    · have hne : (q != g) = true := by simpa using hqg
      have hpo := HSTP.out q HSQ.out
      have HPO := Lib.hid hpo
      have hpl := pos_lt hpo
      clear hpo
      have hboxr : ∀ j, wr.cell? ⟨w.heap.size, j, none⟩ = #[Value.int .i64 a, .int .i64 b, .int .i64 o][j]? := fun j => (hbw.cell (by simpa using gW2)).trans (hbox2 j)
      have gWr : w.heap.size < wr.heap.size := by omega
      have HKM : Hid (k < ((jumpsOf a b o q).map fun l => games a b o g (Peg.flip q l)).sum) := by rw [← HGS.out q HPO.out hqg]; exact hkm
      have HF9 := HFT.out q HPO.out
      have HSX := Lib.hid (HGS.out q HPO.out hqg)
      have HJQ := Lib.hid (HJC.out q HPO.out)
      have HJM' := Lib.hid (fun l => HJM.out q l HPO.out)
      have HGA' := Lib.hid (fun i x j h => HGA.out q i x j HPO.out hqg h)
      have hJl := HL256.out q HPO.out
      unfold RetLines at HJQ
      generalize jumpsOf a b o q = J at *
      obtain ⟨w3, rfl⟩ : ∃ w3 : World, w3 = wr := ⟨_, rfl⟩
      go_wp2_with fail
      refine (HJQ.out _).mono ?_
      rintro e w4 ⟨vJ, rfl, hoJ, hb4⟩
      have hz4 := hb4.size
      obtain ⟨aJ, cJ, rfl, hnJ, hgetJ⟩ := hoJ.lineG
      have HGJ := Lib.hid hgetJ
      have HO4 := Lib.hid (HOW.out.keep hb4)
      have hbw4 := hbw.trans (hb4.mono hzr)
      clear hgetJ hoJ hb4
      go_wp2_with fail
      go_loopw [1, 3, 10, 13] (fun t u v x wr => ∃ j : Nat, j ≤ J.length ∧ t = .int .i64 q ∧ u = .int .i64 ((k - ((J.take j).map fun l => games a b o g (Peg.flip q l)).sum : Nat) : Int) ∧ v = .slice aD D.length cD ∧ x = .int .i64 j ∧ ((J.take j).map fun l => games a b o g (Peg.flip q l)).sum ≤ k ∧ Below w4.heap.size w4 wr) (fun _ _ _ x _ => J.length - (intOf x).toNat)
      case atStart => exact ⟨0, by omega, rfl, by simp, rfl, rfl, by simp, Below.refl _ _⟩
      case round =>
        obtain ⟨j, hj, rfl, rfl, rfl, rfl, hsk, hbi⟩ := hrel
        have hzi := hbi.size
        by_cases hjl : j < J.length
        rotate_left
        · obtain rfl : j = J.length := by omega
          have h1 := HKM.out
          rw [List.take_length] at hsk
          omega
        · obtain ⟨bL, rfl, hbL1, hbL2, hl1, hl2, hl3⟩ := HGJ.out j hjl
          have hm1 := (hbi.cell (p := ⟨bL, j * 3, none⟩) hbL2).trans hl1
          have hm2 := (hbi.cell (p := ⟨bL, j * 3 + 1, none⟩) hbL2).trans hl2
          have hm3 := (hbi.cell (p := ⟨bL, j * 3 + 2, none⟩) hbL2).trans hl3
          clear hl1 hl2 hl3
          obtain ⟨hml, hcj⟩ := HJM'.out _ (gD_mem J Ln0 j hjl)
          have hin := HIN.out _ hml
          have HSN := Lib.hid (HSNO.out q _ HSQ.out hml hcj)
          have HPJ := Lib.hid (pegs_jump hin.1 hcj)
          have HSUM := Lib.hid (@pickJ_sum (fun l => games a b o g (Peg.flip q l)) J j hjl)
          have HAT := Lib.hid (@pickJ_at (fun l => games a b o g (Peg.flip q l)) J k j hjl hsk)
          obtain ⟨hqT, hqc⟩ := HCT.out _ HSN.out
          have hqc2 : wr.cell? ⟨bT, (Peg.flip q (gD J Ln0 j)).toNat, none⟩ = _ := ((hbw4.trans (hbi.mono (by omega))).cell (p := ⟨bT, (Peg.flip q (gD J Ln0 j)).toNat, none⟩) hbT2).trans hqc
          have HFQ := HFT.out _ (HSTP.out _ HSN.out)
          clear hqc hcj hml
          generalize gD J Ln0 j = l at *
          have hq0 := flip_nonneg q l
          have HGX := Lib.hid (fun h => HGA'.out k l (k - ((J.take j).map fun l => games a b o g (Peg.flip q l)).sum) h HPJ.out)
          have dQ0 : bT < wr.heap.size := by omega
          have dQ1 : bL < wr.heap.size := by omega
          have dQ2 : w.heap.size < wr.heap.size := by omega
          have HCL : Hid (∀ W, Calls Try.prog 43 #[.agg #[.int .i64 l.f, .int .i64 l.o, .int .i64 l.t]] W fun e w' => e = .returned (.int .i64 (lbits l)) ∧ Below W.heap.size W w') := fun W => l05Bits_any l.f l.o l.t hin.1 W
          have pb2 : lbits l < 9223372036854775808 := Int.lt_trans (lbits_lt (k := 49) hin.1 (by have := hin.1.1.2; omega) (by have := hin.1.2.1.2; omega) (by have := hin.1.2.2.1.2; omega)) (by rw [pw49]; decide)
          have pb0 := lbits_nonneg l
          have hxor := bits_xor (a := q) (b := lbits l) hpl.1 (by omega) pb0 pb2
          rw [show bxor q (lbits l) = Peg.flip q l from rfl] at hxor
          clear pb0 pb2
          generalize lbits l = LB at *
          have HOi := Lib.hid (HO4.out.keep hbi)
          have HCELL := Lib.hid (fun W (hW : Below wr.heap.size wr W) => And.intro ((hW.cell (p := ⟨bL, j * 3, none⟩) dQ1).trans hm1) (And.intro ((hW.cell (p := ⟨bL, j * 3 + 1, none⟩) dQ1).trans hm2) (And.intro ((hW.cell (p := ⟨bL, j * 3 + 2, none⟩) dQ1).trans hm3) ((hW.cell (p := ⟨bT, (Peg.flip q l).toNat, none⟩) dQ0).trans hqc2))))
          have HSUM2 := Lib.hid HSUM.out
          by_cases hlt : k - ((J.take j).map fun l => games a b o g (Peg.flip q l)).sum < games a b o g (Peg.flip q l)
          · have HGX2 := Lib.hid (HGX.out (HAT.out hlt))
            have hdl : decide (((k - ((J.take j).map fun l => games a b o g (Peg.flip q l)).sum : Nat) : Int) < (games a b o g (Peg.flip q l) : Nat)) = true := decide_eq_true (by omega)
            have hltI : ((k - ((J.take j).map fun l => games a b o g (Peg.flip q l)).sum : Nat) : Int) < (games a b o g (Peg.flip q l) : Nat) := by omega
            have HLT := Lib.hid hlt
            have HDl := Lib.hid hDl
            have hD49 : D.length ≤ 1048576 := by have := pegs_le p; omega
            clear hlt HAT HGX HSUM HSUM2 HFQ hqc2 hsk hDl
            generalize ((J.take j).map fun l => games a b o g (Peg.flip q l)).sum = s at *
            generalize hq' : Peg.flip q l = q' at *
            clear hq'
            go_wp2_with (first | (go_at_call 43; refine (HCL.out _).mono ?_; rintro e w5 ⟨rfl, hb5⟩; have hz5 := hb5.size; obtain ⟨n1, n2, n3, n4⟩ := HCELL.out w5 hb5; have hown5 := HOi.out.keep hb5; have HB5 := Lib.hid (hbw4.trans ((hbi.trans (hb5.mono hzi)).mono (by omega))); clear hb5 hm1 hm2 hm3) | (at_builtin; (refine append1 (E := ELine) (base := w2.heap.size) (l := D) rfl rfl _ _ 36 rfl Try.underlying36 rfl hown5 l rfl (by omega) (by omega) ?_); intro v' w7 hown7 hb7 hg7))
            go_roundw
            case rel => exact ⟨q', k - s, D ++ [l], rfl, rfl, hown7, HSN, HLT.out, by show _ = _; rw [HRU.out, HGX2.out]; simp, by have := HDl.out; have := HPJ.out; simp; omega, HB5.out.trans hb7⟩
            case measure => have := HPJ.out; simp [intOf]; omega
          · have hdl : decide (((k - ((J.take j).map fun l => games a b o g (Peg.flip q l)).sum : Nat) : Int) < (games a b o g (Peg.flip q l) : Nat)) = false := decide_eq_false (by omega)
            have hltI : ¬ ((k - ((J.take j).map fun l => games a b o g (Peg.flip q l)).sum : Nat) : Int) < (games a b o g (Peg.flip q l) : Nat) := by omega
            have hkm9 : k ≤ 9000000000000000000 := by omega
            have hw : wrap64 (((k - ((J.take j).map fun l => games a b o g (Peg.flip q l)).sum : Nat) : Int) - (games a b o g (Peg.flip q l) : Nat)) = ((k - ((J.take (j + 1)).map fun l => games a b o g (Peg.flip q l)).sum : Nat) : Int) := by
              have h1 := HSUM2.out
              rw [h1, IntWalk.wrap64_in _ (by omega)]; omega
            have HWX : Hid (((k - ((J.take j).map fun l => games a b o g (Peg.flip q l)).sum : Nat) : Int) - (games a b o g (Peg.flip q l) : Nat) = ((k - ((J.take (j + 1)).map fun l => games a b o g (Peg.flip q l)).sum : Nat) : Int)) := by
              show _ = _
              have h1 := HSUM2.out
              rw [h1]; omega
            have HNX : Hid (((J.take (j + 1)).map fun l => games a b o g (Peg.flip q l)).sum ≤ k) := by
              show _ ≤ _
              have h1 := HSUM2.out
              rw [h1]; omega
            clear hlt HAT HGX HSUM HSUM2 hqc2
            generalize hs2 : ((J.take (j + 1)).map fun l => games a b o g (Peg.flip q l)).sum = s2 at *
            have HS2 := Lib.hid hs2
            clear hs2
            generalize ((J.take j).map fun l => games a b o g (Peg.flip q l)).sum = s at *
            generalize games a b o g (Peg.flip q l) = mm at *
            generalize Peg.flip q l = q' at *
            have HW := Lib.hid hw
            go_wp2_with (go_at_call 43; refine (HCL.out _).mono ?_; rintro e w5 ⟨rfl, hb5⟩; have hz5 := hb5.size; obtain ⟨n1, n2, n3, n4⟩ := HCELL.out w5 hb5; have HB5 := Lib.hid (hbi.trans (hb5.mono hzi)); clear hb5 hm1 hm2 hm3)
            go_roundw
            case rel => exact ⟨j + 1, by omega, rfl, by rw [HS2.out]; first | rfl | rw [HW.out] | rw [HWX.out], rfl, by go_num, by rw [HS2.out]; exact HNX.out, HB5.out⟩
            case measure => simp [intOf]; omega
end Go.Proofs.Ytledmebhlmpjaaa
