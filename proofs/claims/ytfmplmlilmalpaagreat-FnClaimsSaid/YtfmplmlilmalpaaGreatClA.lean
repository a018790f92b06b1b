/- ClA: several texts in one (Fewest0, LeftM, MapM, Games0, CountG, FwM). Conditions: those that each theorem names. -/
import Derived.Test.YtfmplmlilmalpaaGreatClV
import Derived.Test.YtfmplmlilmalpaaGreatClP
import Derived.Test.YtfmplmlilmalpaaGreatReach2
import Derived.Test.YtfmplmlilmalpaaGreatMem3
import Derived.Test.YtfmplmlilmalpaaGreatBase
import Derived.Maps.OwnSet
import Derived.Deep.RegionWith
import Derived.Deep.DeepCutAuto
import Derived.Deep.Cut
import Derived.IntWalk
import Derived.Test.YtfmplmlilmalpaaGreatReach
import Derived.DeepKeys4
import Derived.Carry
set_option linter.unusedVariables false
set_option linter.unusedSimpArgs false
namespace Peg
/-- the lesser one; less than nought: none yet -/
def lessOf (best c : Int) : Int := if best < 0 ∨ c < best then c else best
def fewestL (L : List Int) : Int := L.foldl (fun m q => lessOf m (pegs q)) (-1)
def fewestLeft (a b o p : Int) : Int := fewestL (reachList a b o p)
/-- the jumps from p that lead on to the goal -/
def onTo (a b o g p : Int) (l : Ln) : Bool := canJ p l && hasB (spreadOf a b o g true) (flip p l)
def fwStep (a b o g p last : Int) (F : Int → Int → Int) (best : Int) (l : Ln) : Int :=
  if onTo a b o g p l = true then lessOf best (F (flip p l) l.t + if l.f = last then 0 else 1) else best
def fw (a b o g : Int) : Nat → Int → Int → Int
  | 0, p, _ => if p = g then 0 else -1
  | f + 1, p, last => if p = g then 0 else (linesOf a b o).foldl (fwStep a b o g p last (fw a b o g f)) (-1)
/-- the least number of further sweeps -/
def fewest (a b o g p last : Int) : Int := fw a b o g (pegs p) p last
def fewestSweeps (a b o p g : Int) : Int := if reach a b o p g false = true then fewest a b o g p (-1) else -1
theorem fewest_goal (a b o g last : Int) : fewest a b o g g last = 0 := by
  unfold fewest
  cases pegs g <;> simp [fw]
theorem foldl_congr_mem {α β : Type} (f g : β → α → β) : ∀ (l : List α) (b : β), (∀ x ∈ l, ∀ b, f b x = g b x) → l.foldl f b = l.foldl g b
  | [], b, _ => rfl
  | x :: l, b, h => by
    rw [List.foldl_cons, List.foldl_cons, h x (by simp) b]
    exact foldl_congr_mem f g l _ fun y hy b => h y (by simp [hy]) b
theorem fewest_step {a b o g p last : Int} (h : p ≠ g) : fewest a b o g p last = (linesOf a b o).foldl (fwStep a b o g p last (fewest a b o g)) (-1) := by
  unfold fewest
  cases hp : pegs p with
  | zero =>
    rw [fw, if_neg h]
    have key : ∀ L : List Ln, (∀ l ∈ L, l ∈ linesOf a b o) → ∀ x : Int, L.foldl (fwStep a b o g p last (fun q t => fw a b o g (pegs q) q t)) x = x := by
      intro L
      induction L with
      | nil => intro _ x; rfl
      | cons l L ih =>
        intro hL x
        rw [List.foldl_cons]
        have : fwStep a b o g p last (fun q t => fw a b o g (pegs q) q t) x l = x := by
          unfold fwStep
          rw [if_neg]
          intro hc
          simp only [onTo, Bool.and_eq_true] at hc
          have := pegs_jump (linesOf_in (hL l (by simp))).1 hc.1
          omega
        rw [this]
        exact ih (fun m hm => hL m (by simp [hm])) x
    exact (key _ (fun _ h => h) _).symm
  | succ f =>
    rw [fw, if_neg h]
    refine foldl_congr_mem _ _ _ _ fun l hl x => ?_
    unfold fwStep
    by_cases hc : onTo a b o g p l = true
    · rw [if_pos hc, if_pos hc]
      simp only [onTo, Bool.and_eq_true] at hc
      have := pegs_jump (linesOf_in hl).1 hc.1
      show _ = lessOf x (fw a b o g (pegs (flip p l)) (flip p l) l.t + if l.f = last then 0 else 1)
      rw [show pegs (flip p l) = f from by omega]
    · rw [if_neg hc, if_neg hc]
/-- what the least of a list of steps is bounded by -/
theorem fw_fold {a b o g p last : Int} {F : Int → Int → Int} {m : Int} (hF : ∀ l ∈ linesOf a b o, onTo a b o g p l = true → 0 ≤ F (flip p l) l.t ∧ F (flip p l) l.t ≤ m) :
    ∀ (L : List Ln) (x : Int), (∀ l ∈ L, l ∈ linesOf a b o) → (x = -1 ∨ (0 ≤ x ∧ x ≤ m + 1)) →
      (L.foldl (fwStep a b o g p last F) x = -1 ∧ x = -1 ∧ ∀ l ∈ L, onTo a b o g p l = false) ∨ (0 ≤ L.foldl (fwStep a b o g p last F) x ∧ L.foldl (fwStep a b o g p last F) x ≤ m + 1)
  | [], x, _, hx => by
    rcases hx with rfl | hx
    · exact Or.inl ⟨rfl, rfl, fun _ h => by cases h⟩
    · exact Or.inr hx
  | l :: L, x, hL, hx => by
    rw [List.foldl_cons]
    have hl := hL l (by simp)
    have hL' : ∀ m ∈ L, m ∈ linesOf a b o := fun m hm => hL m (by simp [hm])
    by_cases hc : onTo a b o g p l = true
    · obtain ⟨f1, f2⟩ := hF l hl hc
      have hs : 0 ≤ fwStep a b o g p last F x l ∧ fwStep a b o g p last F x l ≤ m + 1 := by
        unfold fwStep
        rw [if_pos hc]
        unfold lessOf
        split
        · constructor <;> split <;> omega
        · rename_i hh; omega
      rcases fw_fold (last := last) hF L (fwStep a b o g p last F x l) hL' (Or.inr hs) with h | h
      · omega
      · exact Or.inr h
    · have hs : fwStep a b o g p last F x l = x := by unfold fwStep; rw [if_neg hc]
      rw [hs]
      rcases fw_fold (last := last) hF L x hL' hx with ⟨h1, h2, h3⟩ | h
      · refine Or.inl ⟨h1, h2, fun m hm => ?_⟩
        rcases List.mem_cons.1 hm with rfl | hm
        · simpa using hc
        · exact h3 m hm
      · exact Or.inr h
theorem fewest_bd {a b o g : Int} (hs : isSmall a b o = true) (hg : posOk a b o g = true) : ∀ (k : Nat) (p : Int), pegs p = k → posOk a b o p = true → reach a b o p g false = true → ∀ last, 0 ≤ fewest a b o g p last ∧ fewest a b o g p last ≤ k
  | k, p, hk, hp, hr, last => by
    by_cases hne : p = g
    · subst hne; rw [fewest_goal]; omega
    · rw [fewest_step hne]
      obtain ⟨y, h1, h2, h3, h4, h5, h6⟩ := step_some hs hp hg hr hne
      have hpj := pegs_jump (linesOf_in h2).1 h3
      match k, hk with
      | 0, hk => omega
      | k + 1, hk =>
        have hF : ∀ l ∈ linesOf a b o, onTo a b o g p l = true → 0 ≤ fewest a b o g (flip p l) l.t ∧ fewest a b o g (flip p l) l.t ≤ (k : Int) := by
          intro l hl hc
          simp only [onTo, Bool.and_eq_true] at hc
          have h7 := pegs_jump (linesOf_in hl).1 hc.1
          have h8 := hc.2
          rw [has_reach] at h8
          exact fewest_bd hs hg k _ (by omega) (posOk_flip hp hl) h8 _
        rcases fw_fold (last := last) hF (linesOf a b o) (-1) (fun _ h => h) (Or.inl rfl) with ⟨_, _, h8⟩ | h8
        · have := h8 y h2
          simp [onTo, h3, h4] at this
        · exact ⟨h8.1, by have := h8.2; omega⟩
end Peg
namespace Peg
theorem left_succ {R : List Int} {k : Nat} (h : k < R.length) : fewestL (R.take (k + 1)) = lessOf (fewestL (R.take k)) (pegs (gD R 0 k)) := by
  unfold fewestL
  rw [List.take_add_one, List.foldl_append]
  have : R[k]? = some (gD R 0 k) := by simp [gD, h]
  rw [this]
  rfl
theorem left_ge (R : List Int) : ∀ k, k ≤ R.length → -1 ≤ fewestL (R.take k) ∧ fewestL (R.take k) ≤ 49
  | 0, _ => by simp [fewestL]
  | k + 1, h => by
    have ih := left_ge R k (by omega)
    rw [left_succ (by omega)]
    have := pegs_le (gD R 0 k)
    unfold lessOf
    split <;> omega
end Peg
namespace Go.Proofs.YtfmplmlilmalpaaGreat
open Go.ChangeShapes Go.WideShapes Go.ChangeAt Go.RowKit Peg Go.Sort
set_option maxHeartbeats 1000000 in
set_option maxRecDepth 100000 in
theorem FewestLeft_any (a b o p : Int) (hs : isSmall a b o = true) (hp : posOk a b o p = true) (w : World) :
    Calls Tryz.prog 25 #[.agg #[.int .i64 a, .int .i64 b, .int .i64 o], .int .i64 p] w fun e w' => e = .returned (.int .i64 (fewestLeft a b o p)) ∧ Below w.heap.size w w' := by
  have hpl := pos_lt hp
  have HR : Hid (∀ x ∈ reachList a b o p, 0 ≤ x ∧ x < 65536) := by
    intro x hx
    have h1 := listOf_mem hx
    rw [spreadOf_length hs hp] at h1
    have := (small_N hs).2.2.2.1
    exact ⟨h1.1, by omega⟩
  have HF : Hid (fewestLeft a b o p = fewestL (reachList a b o p)) := rfl
  go_enter Tryz.func25, Tryz.ntmps25
  go_wp2_with fail
  refine (ReachOf_any _ _ _ _ (by omega) _).mono ?_
  rintro e w2 ⟨vR, rfl, hownR, hb⟩
  have HW := Lib.hid (show Below w.heap.size w w2 by (repeat' first | (with_reducible exact Below.refl _ _) | (with_reducible refine Below.alloc ?_ ?_ _) | (with_reducible refine Below.drew ?_) | (with_reducible refine Below.setCell ?_ ?_ _) | (with_reducible refine below_via (by assumption) ?_ ?_) | go_size))
  obtain ⟨aR, capR, rfl, hnR, hgetR⟩ := hownR.intG
  have HGR := Lib.hid hgetR
  clear hgetR hownR hb
  generalize reachList a b o p = R at *
  have HLE := Lib.hid (left_ge R)
  have HSU := Lib.hid (fun k (h : k < R.length) => left_succ h)
  go_wp2_with fail
  go_loopw [5, 12] (fun c i wr => ∃ k : Nat, k ≤ R.length ∧ i = .int .i64 k ∧ c = .int .i64 (fewestL (R.take k)) ∧ Below w2.heap.size w2 wr) (fun _ i _ => R.length - (intOf i).toNat)
  case atStart => exact ⟨0, by omega, rfl, by simp [fewestL], Below.refl _ _⟩
  case round =>
    obtain ⟨k, hk, rfl, rfl, hbw⟩ := hrel
    have hz := hbw.size
    by_cases hlt : k < R.length
    · obtain ⟨bR, rfl, _, hbR2, hcR⟩ := HGR.out k hlt
      have hcRw := (hbw.cell (p := ⟨bR, k, none⟩) hbR2).trans hcR
      have hrg := HR.out _ (gD_mem R 0 k hlt)
      have HS := Lib.hid (HSU.out k hlt)
      have hle := HLE.out k (by omega)
      have hP := pegsIn_any (gD R 0 k) hrg.1 (by omega)
      clear hcR
      generalize gD R 0 k = q at *
      generalize fewestL (R.take k) = m at *
      have HP := Lib.hid hP
      clear hP
      generalize pegs q = c at *
      by_cases h1 : m < 0
      · have hd1 : decide (m < 0) = true := decide_eq_true h1
        have HV : Hid (fewestL (R.take (k + 1)) = c) := by show _ = _; rw [HS.out, lessOf, if_pos (Or.inl h1)]
        go_wp2_with (go_at_call 22; refine (HP.out _).mono ?_; rintro e w' ⟨rfl, rfl⟩)
        go_roundw
        case rel => exact ⟨k + 1, by omega, by go_num, by rw [HV.out], hbw⟩
        case measure => simp [intOf]; omega
      · have hd1 : decide (m < 0) = false := decide_eq_false h1
        by_cases h2 : (c : Int) < m
        · have hd2 : decide ((c : Int) < m) = true := decide_eq_true h2
          have HV : Hid (fewestL (R.take (k + 1)) = c) := by show _ = _; rw [HS.out, lessOf, if_pos (Or.inr h2)]
          go_wp2_with (go_at_call 22; refine (HP.out _).mono ?_; rintro e w' ⟨rfl, rfl⟩)
          go_roundw
          case rel => exact ⟨k + 1, by omega, by go_num, by rw [HV.out], hbw⟩
          case measure => simp [intOf]; omega
        · have hd2 : decide ((c : Int) < m) = false := decide_eq_false h2
          have HV : Hid (fewestL (R.take (k + 1)) = m) := by show _ = _; rw [HS.out, lessOf, if_neg (by omega)]
          go_wp2_with (go_at_call 22; refine (HP.out _).mono ?_; rintro e w' ⟨rfl, rfl⟩)
          go_roundw
          case rel => exact ⟨k + 1, by omega, by go_num, by rw [HV.out], hbw⟩
          case measure => simp [intOf]; omega
    · obtain rfl : k = R.length := by omega
      rw [List.take_length]
      go_wp2_with fail
      all_goals go_ret
      all_goals exact ⟨by simp [HF.out], HW.out.trans (hbw.mono HW.out.size)⟩
set_option maxHeartbeats 1000000 in
set_option maxRecDepth 100000 in
theorem sFewestLeft_any (a b o p : Int) (hs : isSmall a b o = true) (hp : posOk a b o p = true) (w : World) :
    Calls Tryz.prog 33 #[.agg #[.int .i64 a, .int .i64 b, .int .i64 o], .int .i64 p] w fun e w' => e = .returned (.int .i64 (fewestLeft a b o p)) ∧ Below w.heap.size w w' := by
  have hpl := pos_lt hp
  have HR : Hid (∀ x ∈ reachList a b o p, 0 ≤ x ∧ x < 65536) := by
    intro x hx
    have h1 := listOf_mem hx
    rw [spreadOf_length hs hp] at h1
    have := (small_N hs).2.2.2.1
    exact ⟨h1.1, by omega⟩
  have HCP : Hid (∀ q ∈ reachList a b o p, ∀ W, Calls Tryz.prog 31 #[.agg #[.int .i64 a, .int .i64 b, .int .i64 o], .int .i64 q] W fun e w' => e = .returned (.int .i64 (pegs q : Nat)) ∧ Below W.heap.size W w') := by
    intro q hq W
    have h1 := listOf_mem hq
    have h2 : hasB (spreadOf a b o p false) q = true := by
      simp only [hasB, Bool.and_eq_true, decide_eq_true_eq]
      exact ⟨⟨h1.1, h1.2.1⟩, h1.2.2⟩
    have hpq := Peg.Steps.pos hp ((hasB_iff hs hp).1 h2)
    have h := sCountPegs_any a b o q (by have := pos_lt hpq; omega) W
    rwa [if_pos hpq] at h
  have HF : Hid (fewestLeft a b o p = fewestL (reachList a b o p)) := rfl
  go_enter Tryz.func33, Tryz.ntmps33
  go_wp2_with fail
  refine (sReachOf_any _ _ _ _ (by omega) _).mono ?_
  rintro e w2 ⟨vR, rfl, hownR, hb⟩
  have hz2 := hb.size
  simp only [World.size_alloc] at hz2
  have hB2 : Below (w.heap.size + 1) (w.alloc (.cells #[.int .i64 a, .int .i64 b, .int .i64 o] 25)) w2 := by simpa using hb
  have HB2 := Lib.hid hB2
  have hbox2 : ∀ j, w2.cell? ⟨w.heap.size, j, none⟩ = #[Value.int .i64 a, .int .i64 b, .int .i64 o][j]? := fun j => (HB2.out.cell (by simp)).trans (by simp)
  have gW2 : w.heap.size < w2.heap.size := by omega
  have HW : Hid (Below w.heap.size w w2) := ((Below.refl _ _).alloc (Nat.le_refl _) _).trans (HB2.out.mono (by omega))
  obtain ⟨aR, capR, rfl, hnR, hgetR⟩ := hownR.intG
  have HGR := Lib.hid hgetR
  clear hgetR hownR hb hB2
  generalize reachList a b o p = R at *
  have HLE := Lib.hid (left_ge R)
  have HSU := Lib.hid (fun k (h : k < R.length) => left_succ h)
  go_wp2_with fail
  go_loopw [6, 7] (fun c i wr => ∃ k : Nat, k ≤ R.length ∧ i = .int .i64 k ∧ c = .int .i64 (fewestL (R.take k)) ∧ Below w2.heap.size w2 wr) (fun _ i _ => R.length - (intOf i).toNat)
  case atStart => exact ⟨0, by omega, rfl, by simp [fewestL], Below.refl _ _⟩
  case round =>
    obtain ⟨k, hk, rfl, rfl, hbw⟩ := hrel
    have hz := hbw.size
    have hboxr : ∀ j, wr.cell? ⟨w.heap.size, j, none⟩ = #[Value.int .i64 a, .int .i64 b, .int .i64 o][j]? := fun j => (hbw.cell (by simpa using gW2)).trans (hbox2 j)
    have gWr : w.heap.size < wr.heap.size := by omega
    by_cases hlt : k < R.length
    · obtain ⟨bR, rfl, _, hbR2, hcR⟩ := HGR.out k hlt
      have hcRw := (hbw.cell (p := ⟨bR, k, none⟩) hbR2).trans hcR
      have gR : bR < wr.heap.size := by omega
      have hrg := HR.out _ (gD_mem R 0 k hlt)
      have HS := Lib.hid (HSU.out k hlt)
      have hle := HLE.out k (by omega)
      have HP := Lib.hid (HCP.out _ (gD_mem R 0 k hlt))
      clear hcR
      generalize gD R 0 k = q at *
      generalize fewestL (R.take k) = m at *
      generalize pegs q = c at *
      by_cases h1 : m < 0
      · have hd1 : decide (m < 0) = true := decide_eq_true h1
        have HV : Hid (fewestL (R.take (k + 1)) = c) := by show _ = _; rw [HS.out, lessOf, if_pos (Or.inl h1)]
        go_wp2_with ((with_reducible refine wp_region_qb ?_ ?_ (fun hq => ?_)); (focus kernel_rfl); (focus kernel_rfl); (repeat (go_big_quiet_step ((go_at_call 31; exact Calls.regrown_of (HP.out _))))); refine wpQuiet_nil ?_; (intro wq hbq; clear hq))
        go_roundw
        case rel => exact ⟨k + 1, by omega, by go_num, by rw [HV.out], hbw.trans (hbq.mono hz)⟩
        case measure => simp [intOf]; omega
      · have hd1 : decide (m < 0) = false := decide_eq_false h1
        by_cases h2 : (c : Int) < m
        · have hd2 : decide ((c : Int) < m) = true := decide_eq_true h2
          have HV : Hid (fewestL (R.take (k + 1)) = c) := by show _ = _; rw [HS.out, lessOf, if_pos (Or.inr h2)]
          go_wp2_with ((with_reducible refine wp_region_qb ?_ ?_ (fun hq => ?_)); (focus kernel_rfl); (focus kernel_rfl); (repeat (go_big_quiet_step ((go_at_call 31; exact Calls.regrown_of (HP.out _))))); refine wpQuiet_nil ?_; (intro wq hbq; clear hq))
          go_roundw
          case rel => exact ⟨k + 1, by omega, by go_num, by rw [HV.out], hbw.trans (hbq.mono hz)⟩
          case measure => simp [intOf]; omega
        · have hd2 : decide ((c : Int) < m) = false := decide_eq_false h2
          have HV : Hid (fewestL (R.take (k + 1)) = m) := by show _ = _; rw [HS.out, lessOf, if_neg (by omega)]
          go_wp2_with ((with_reducible refine wp_region_qb ?_ ?_ (fun hq => ?_)); (focus kernel_rfl); (focus kernel_rfl); (repeat (go_big_quiet_step ((go_at_call 31; exact Calls.regrown_of (HP.out _))))); refine wpQuiet_nil ?_; (intro wq hbq; clear hq))
          go_roundw
          case rel => exact ⟨k + 1, by omega, by go_num, by rw [HV.out], hbw.trans (hbq.mono hz)⟩
          case measure => simp [intOf]; omega
    · obtain rfl : k = R.length := by omega
      rw [List.take_length]
      go_wp2_with fail
      all_goals go_ret
      all_goals exact ⟨by simp [HF.out], HW.out.trans (hbw.mono HW.out.size)⟩
end Go.Proofs.YtfmplmlilmalpaaGreat
namespace Go.Proofs.YtfmplmlilmalpaaGreat
open Go.ChangeShapes Go.WideShapes Go.ChangeAt Go.RowKit Go.Sort
open Go.Maps (Keyed)
/-- nothing but block c is written -/
theorem gro_refl (w : World) (c : Nat) : w.grownBy w (some c) := ⟨rfl, rfl, rfl, Nat.le_refl _, fun _ _ _ => rfl⟩
theorem gro_via {a w w' : World} {c : Nat} (h : a.grownBy w (some c)) (hb : Below w.heap.size w w') : a.grownBy w' (some c) :=
  ⟨hb.os.trans h.os, hb.tape.trans h.tape, hb.output.trans h.output, Nat.le_trans h.size hb.size, fun k hk hne => (hb.block k (Nat.lt_of_lt_of_le hk h.size)).trans (h.block k hk hne)⟩
theorem gro_trans {a w w' : World} {c : Nat} (h : a.grownBy w (some c)) (g : w.grownBy w' (some c)) : a.grownBy w' (some c) :=
  ⟨g.os.trans h.os, g.tape.trans h.tape, g.output.trans h.output, Nat.le_trans h.size g.size, fun k hk hne => (g.block k (Nat.lt_of_lt_of_le hk h.size) hne).trans (h.block k hk hne)⟩
theorem gro_below {w w' : World} {c : Nat} (hb : Below w.heap.size w w') : w.grownBy w' (some c) := gro_via (gro_refl w c) hb
theorem below_gro {w w' : World} {c : Nat} (hc : c ≤ w.heap.size) (h : w.grownBy w' (some c)) : Below c w w' := (Below.refl c w).grown h hc (fun k hk => by cases hk; exact Nat.le_refl _)
theorem gro_cell {w w' : World} {c b o : Nat} (h : w.grownBy w' (some c)) (hb : b < w.heap.size) (hne : b ≠ c) : w'.cell? ⟨b, o, none⟩ = w.cell? ⟨b, o, none⟩ := World.cell?_of_block (h.block b hb (fun e => hne (by cases e; rfl)))
theorem gro_frozen {w w' : World} {c b o : Nat} (h : w.grownBy w' (some c)) (hb : b < w.heap.size) (hne : b ≠ c) : w'.frozen? ⟨b, o, none⟩ = w.frozen? ⟨b, o, none⟩ := World.frozen?_of_block (h.block b hb (fun e => hne (by cases e; rfl)))
/-- block B is a map whose keys are among KS, each with the value G of its key -/
def Memo (w : World) (K E : TypeId) (B : Nat) (KS : List Lit) (G : Lit → Int) : Prop :=
  ∃ es : List (Lit × DataW Unit), w.ownsMap Tryz.prog K (plainElem Tryz.prog E) B KS.length (.map es) ∧ ∀ e ∈ es, e.1 ∈ KS ∧ e.2 = .lit (.int .i64 (G e.1))
theorem nodup_len {α : Type} : ∀ (l m : List α), l.Pairwise (· ≠ ·) → (∀ x ∈ l, x ∈ m) → l.length ≤ m.length
  | [], _, _, _ => by simp
  | x :: l, m, h, hs => by
    obtain ⟨h1, h2⟩ := List.pairwise_cons.1 h
    obtain ⟨s, t, rfl⟩ := List.append_of_mem (hs x (by simp))
    have := nodup_len l (s ++ t) h2 fun y hy => by
      have h3 := hs y (by simp [hy])
      have h4 := h1 y hy
      simp only [List.mem_append, List.mem_cons] at h3 ⊢
      rcases h3 with h3 | h3 | h3
      · exact Or.inl h3
      · exact absurd h3.symm h4
      · exact Or.inr h3
    simp only [List.length_append, List.length_cons] at this ⊢
    omega
theorem Memo.made (w : World) (K E : TypeId) (KS : List Lit) (G : Lit → Int) : Memo (w.alloc (.map #[] 0)) K E w.heap.size KS G :=
  ⟨[], (World.ownsMap_made w _ K _).mono (by omega), fun e h => by cases h⟩
theorem Memo.kept {w w' : World} {K E : TypeId} {B : Nat} {KS : List Lit} {G : Lit → Int} {row : Option Nat} (h : Memo w K E B KS G) (hg : w.grownBy w' row) (hne : some B ≠ row) : Memo w' K E B KS G := by
  obtain ⟨es, h1, h2⟩ := h
  exact ⟨es, h1.kept hg hne, h2⟩
theorem Memo.lt {w : World} {K E : TypeId} {B : Nat} {KS : List Lit} {G : Lit → Int} (h : Memo w K E B KS G) : B < w.heap.size := by
  obtain ⟨es, h1, _⟩ := h
  exact h1.lt
theorem Memo.below {w w' : World} {K E : TypeId} {B : Nat} {KS : List Lit} {G : Lit → Int} (h : Memo w K E B KS G) (hb : Below w.heap.size w w') : Memo w' K E B KS G := by
  obtain ⟨es, ⟨es0, clock, h1, h3⟩, h2⟩ := h
  have hlt : B < w.heap.size := by
    rcases Nat.lt_or_ge B w.heap.size with h | h
    · exact h
    · rw [Array.getElem?_eq_none h] at h1; cases h1
  exact ⟨es, ⟨es0, clock, (hb.block B hlt).trans h1, h3⟩, h2⟩
/-- a map's block has no cells -/
theorem Memo.nocell {w : World} {K E : TypeId} {B : Nat} {KS : List Lit} {G : Lit → Int} (h : Memo w K E B KS G) {b o : Nat} {u : Value} (hc : w.cell? ⟨b, o, none⟩ = some u) : b ≠ B := by
  rintro rfl
  obtain ⟨es, ⟨es0, clock, h1, h3⟩, h2⟩ := h
  simp [World.cell?, h1] at hc
theorem map_find (k : Lit) (z : DataW Unit) : ∀ es : List (Lit × DataW Unit), Maps.has (.map es) k = true → ∃ e ∈ es, e.1 = k ∧ DataW.atKey (.map es) k z = e.2
  | [], h => by simp [Maps.has] at h
  | x :: es, h => by
    cases hx : x.1.sameKey k
    · have h2 : Maps.has (.map es) k = true := by simpa [Maps.has, hx] using h
      obtain ⟨e, e1, e2, e3⟩ := map_find k z es h2
      refine ⟨e, by simp [e1], e2, ?_⟩
      rw [← e3]
      simp [DataW.atKey, hx]
    · exact ⟨x, by simp, WideAt.sameKey_eq hx, by simp [DataW.atKey, hx]⟩
/-- 'v, ok := m[k]' -/
theorem Memo.look {w : World} {K E : TypeId} {B : Nat} {KS : List Lit} {G : Lit → Int} (h : Memo w K E B KS G) (L : Keyed Tryz.prog K) {T : TypeId} (ht : Tryz.prog.underlying T = some (.map K E)) (he : Tryz.prog.underlying E = some (.int .i64)) (hz : (zeroValue E).run Tryz.prog w = .ok (.int .i64 0) w)
    {key : Value} {kl : Lit} (hkey : keyOf Tryz.prog K key = some kl) : ∃ (c : Int) (ok : Bool), (Instr.lookup T (.map (some B)) key true).run Tryz.prog w = .ok (.tuple #[.int .i64 c, .bool ok]) w ∧ (ok = true → c = G kl) := by
  obtain ⟨es, h1, h2⟩ := h
  obtain ⟨v, ps, hr, hv⟩ := h1.look_ok L ht hz (plainElem_int he (by decide)) hkey
  obtain ⟨c, rfl, hc, hwc⟩ := plainElem_int_inv he hv
  refine ⟨c, _, hr, fun hok => ?_⟩
  obtain ⟨e, e1, e2, e3⟩ := map_find kl (.lit (.int .i64 0)) es hok
  have e4 := congrArg Prod.fst hc
  simp only at e4
  rw [e3, (h2 e e1).2, e2] at e4
  simpa using e4.symm
theorem insert_mem {x e : Lit × DataW Unit} : ∀ {l : List (Lit × DataW Unit)}, e ∈ DataW.insert x l → e = x ∨ e ∈ l
  | [], h => by simp [DataW.insert] at h; exact Or.inl h
  | y :: l, h => by
    unfold DataW.insert at h
    split at h
    · simpa using h
    · rcases List.mem_cons.1 h with rfl | h
      · exact Or.inr (by simp)
      · rcases insert_mem h with h | h
        · exact Or.inl h
        · exact Or.inr (by simp [h])
/-- 'm[k] = v' -/
theorem Memo.store {w : World} {K E : TypeId} {B : Nat} {KS : List Lit} {G : Lit → Int} (h : Memo w K E B KS G) (L : Keyed Tryz.prog K) {T : TypeId} (ht : Tryz.prog.underlying T = some (.map K E)) (he : Tryz.prog.underlying E = some (.int .i64)) (hn : KS.length < maxLen)
    {key : Value} {kl : Lit} (hkey : keyOf Tryz.prog K key = some kl) (hk : kl ∈ KS) {v : Int} (hv : v = G kl) (hwf : (Lit.int .i64 v).wf = true) :
    ∃ w', (Instr.mapUpdate T (.map (some B)) key (.int .i64 v)).run Tryz.prog w = .ok () w' ∧ Memo w' K E B KS G ∧ w.mapTurned w' B := by
  subst hv
  obtain ⟨es, h1, h2⟩ := h
  obtain ⟨w', hr, h3, h4⟩ := h1.store L ht hn hkey (plainElem_int he hwf)
  refine ⟨w', hr, ?_, h4⟩
  obtain ⟨es', he', hp⟩ := h3.tidy L
  rw [he'] at h3
  have hm : ∀ e ∈ es', e.1 ∈ KS ∧ e.2 = .lit (.int .i64 (G e.1)) := by
    intro e hme
    have : es' = DataW.insert (kl, .lit (.int .i64 (G kl))) (es.filter fun p => !p.1.sameKey kl) := by
      simpa [DataW.put] using he'.symm
    rw [this] at hme
    rcases insert_mem hme with rfl | hme
    · exact ⟨hk, rfl⟩
    · exact h2 e (List.mem_filter.1 hme).1
  obtain ⟨es0, clock, hb, F, hs, hD⟩ := h3
  have hsz : es0.size ≤ KS.length := by
    have e1 : es'.length = es0.size := by
      have := congrArg Maps.size hD
      simpa [Maps.size, length_sorted] using this
    rw [← e1]
    have := nodup_len (es'.map (·.1)) KS (by
      rw [List.pairwise_map]
      exact hp) fun x hx => by
        obtain ⟨e, hme, rfl⟩ := List.mem_map.1 hx
        exact (hm e hme).1
    simpa using this
  exact ⟨es', ⟨es0, clock, hb, F, hsz, hD⟩, hm⟩
/-- at the operation: '(at_lookup; refine wpList_memo_look _ rfl _ _ T rfl hM law A.underlyingT A.underlyingE (zeroE _) rfl rfl hkey ?_; intro c ok hcok)' -/
theorem wpList_memo_look (w : World) {ops : Array Oper} {rest : List Oper} {o : Oper} {a : Act} {Q : Exit → Act → World → Prop} (hg : o.guard = none) (m x : Operand) (T : TypeId) (hop : o.op = Op.lookup T m x true)
    {K E : TypeId} {B : Nat} {KS : List Lit} {G : Lit → Int} (h : Memo w K E B KS G) (L : Keyed Tryz.prog K) (ht : Tryz.prog.underlying T = some (.map K E)) (he : Tryz.prog.underlying E = some (.int .i64)) (hz : (zeroValue E).run Tryz.prog w = .ok (.int .i64 0) w)
    {key : Value} {kl : Lit} (hm : a.eval m = .map (some B)) (hx : a.eval x = key) (hkey : keyOf Tryz.prog K key = some kl)
    (hK : ∀ (c : Int) (ok : Bool), (ok = true → c = G kl) → wpList Tryz.prog ops Q rest (a.put o.dst (.tuple #[.int .i64 c, .bool ok])) w) :
    wpList Tryz.prog ops Q (o :: rest) a w := by
  refine wpList_plain hg fun K' hK' => ?_
  obtain ⟨c, ok, hrun, hv⟩ := h.look L ht he hz hkey
  unfold Oper.wp
  simp [execOp, hop, hm, hx, hrun, Result.andThen]
  exact hK' _ _ (hK c ok hv)
theorem wpList_memo_store (w : World) {ops : Array Oper} {rest : List Oper} {o : Oper} {a : Act} {Q : Exit → Act → World → Prop} (hg : o.guard = none) (m x v : Operand) (T : TypeId) (hop : o.op = Op.mapUpdate T m x v)
    {K E : TypeId} {B : Nat} {KS : List Lit} {G : Lit → Int} (h : Memo w K E B KS G) (L : Keyed Tryz.prog K) (ht : Tryz.prog.underlying T = some (.map K E)) (he : Tryz.prog.underlying E = some (.int .i64)) (hn : KS.length < maxLen)
    {key : Value} {kl : Lit} {u : Int} (hm : a.eval m = .map (some B)) (hx : a.eval x = key) (hv : a.eval v = .int .i64 u) (hkey : keyOf Tryz.prog K key = some kl) (hk : kl ∈ KS) (hu : u = G kl) (hwf : (Lit.int .i64 u).wf = true)
    (hK : ∀ w', Memo w' K E B KS G → w.grownBy w' (some B) → wpList Tryz.prog ops Q rest (a.put o.dst undef) w') :
    wpList Tryz.prog ops Q (o :: rest) a w := by
  refine wpList_plain hg fun K' hK' => ?_
  obtain ⟨w', hrun, r1, r2⟩ := h.store L ht he hn hkey hk hu hwf
  unfold Oper.wp
  simp [execOp, hop, hm, hx, hv, hrun, Result.andThen]
  exact hK' _ _ (hK w' r1 r2.grown)
end Go.Proofs.YtfmplmlilmalpaaGreat
namespace Peg
/-- the number of games from p to g of at most f jumps -/
def gm (ls : List Ln) (g : Int) : Nat → Int → Nat
  | 0, p => if p = g then 1 else 0
  | f + 1, p => if p = g then 1 else ((ls.filter (canJ p)).map fun l => gm ls g f (flip p l)).sum
def games (a b o g p : Int) : Nat := gm (linesOf a b o) g (pegs p) p
theorem pegs_two {p : Int} {l : Ln} (hl : LnOk l) (h : canJ p l = true) : 2 ≤ pegs p := by
  have h1 := pegs_jump hl h
  have h2 : 1 ≤ pegs (flip p l) := by
    rw [pegs_eq]
    refine List.countP_pos_iff.2 ⟨l.t.toNat, ?_, ?_⟩
    · unfold LnOk at hl; rw [List.mem_range]; omega
    · obtain ⟨n1, n2, n3⟩ := lnOk_nat hl
      simp only [canJ, tb_nat, Bool.and_eq_true, Bool.not_eq_true'] at h
      rw [flip_tb, h.2]
      simp
  omega
theorem games_goal (a b o g : Int) : games a b o g g = 1 := by
  unfold games
  cases pegs g <;> simp [gm]
theorem games_step {a b o g p : Int} (h : p ≠ g) : games a b o g p = (((linesOf a b o).filter (canJ p)).map fun l => games a b o g (flip p l)).sum := by
  unfold games
  cases hp : pegs p with
  | zero =>
    have : (linesOf a b o).filter (canJ p) = [] := by
      rw [List.filter_eq_nil_iff]
      intro l hl hc
      have := pegs_two (linesOf_in hl).1 hc
      omega
    rw [this]
    simp [gm, h]
  | succ f =>
    rw [gm, if_neg h]
    congr 1
    refine List.map_congr_left fun l hl => ?_
    obtain ⟨h1, h2⟩ := List.mem_filter.1 hl
    have := pegs_jump (linesOf_in h1).1 h2
    rw [show pegs (flip p l) = f from by omega]
theorem gm_zero {ls : List Ln} {g p : Int} (h : ¬ Steps ls false p g) : ∀ f, gm ls g f p = 0
  | 0 => by
    rw [gm, if_neg]
    rintro rfl
    exact h (.refl _)
  | f + 1 => by
    rw [gm, if_neg (by rintro rfl; exact h (.refl _))]
    have key : ∀ L : List Ln, (∀ l ∈ L, l ∈ ls.filter (canJ p)) → (L.map fun l => gm ls g f (flip p l)).sum = 0 := by
      intro L
      induction L with
      | nil => intro _; rfl
      | cons l L ih =>
        intro hL
        obtain ⟨h1, h2⟩ := List.mem_filter.1 (hL l (by simp))
        rw [List.map_cons, List.sum_cons, ih fun m hm => hL m (by simp [hm]), gm_zero (fun h3 => h (.step h1 h2 h3)) f]
    exact key _ fun _ hl => hl
/-! how many jumps there are -/
theorem linesFrom_f {a b o k : Int} {l : Ln} (h : l ∈ linesFrom a b o k) : l.f = k := by
  simp only [linesFrom, linesPart, List.mem_filterMap] at h
  obtain ⟨q, _, hq⟩ := h
  unfold lineTo at hq
  split at hq
  · split at hq
    · simp only [Option.some.injEq] at hq
      subst hq; rfl
    · cases hq
  · cases hq
theorem holesTo_mono (p : Int) : ∀ (d n : Nat), (holesTo p n).length ≤ (holesTo p (n + d)).length
  | 0, n => Nat.le_refl _
  | d + 1, n => by
    refine Nat.le_trans (holesTo_mono p d n) ?_
    rw [← Nat.add_assoc]
    cases h : tb p ((n + d : Nat) : Int)
    · rw [holesTo_succ_no _ _ h]; exact Nat.le_refl _
    · rw [holesTo_succ_yes _ _ h]; simp
theorem jumps_part {a b o p : Int} {c : Nat} (hc : ∀ k ∈ holesOf a b o, (linesFrom a b o k).length ≤ c) (hh : ∀ n, ∀ k ∈ holesTo o n, n ≤ (a * b).toNat → k ∈ holesOf a b o) :
    ∀ n, n ≤ (a * b).toNat → (((holesTo o n).flatMap (linesFrom a b o)).filter (canJ p)).length ≤ c * (holesTo p n).length
  | 0, _ => by simp [holesTo]
  | n + 1, hn => by
    have ih := jumps_part (p := p) hc hh n (by omega)
    have hm : (holesTo p n).length ≤ (holesTo p (n + 1)).length := holesTo_mono p 1 n
    cases ho : tb o (n : Int)
    · rw [holesTo_succ_no _ _ ho]
      exact Nat.le_trans ih (Nat.mul_le_mul_left c hm)
    · have hk := hc n (hh (n + 1) n (by rw [holesTo_succ_yes _ _ ho]; simp) hn)
      rw [holesTo_succ_yes _ _ ho, List.flatMap_append, List.filter_append, List.length_append]
      cases hp : tb p (n : Int)
      · rw [holesTo_succ_no _ _ hp]
        have : ((([(n : Int)] : List Int).flatMap (linesFrom a b o)).filter (canJ p)) = [] := by
          rw [List.filter_eq_nil_iff]
          intro l hl
          simp only [List.flatMap_cons, List.flatMap_nil, List.append_nil] at hl
          simp [canJ, linesFrom_f hl, hp]
        rw [this]
        simpa using ih
      · rw [holesTo_succ_yes _ _ hp]
        have h1 : ((([(n : Int)] : List Int).flatMap (linesFrom a b o)).filter (canJ p)).length ≤ c := by
          refine Nat.le_trans (List.length_filter_le _ _) ?_
          simpa using hk
        rw [List.length_append, Nat.mul_add]
        simp only [List.length_singleton, Nat.mul_one]
        omega
theorem jumps_le {a b o p : Int} {c : Nat} (hc : ∀ k ∈ holesOf a b o, (linesFrom a b o k).length ≤ c) (hb : boardOk a b o = true) : ((linesOf a b o).filter (canJ p)).length ≤ c * pegs p := by
  have ha := area (boardOk_sides hb).1 (boardOk_sides hb).2
  have h1 := jumps_part (p := p) hc (fun n k hk hn => by
    rw [holesOf, if_pos hb]
    simp only [holesTo, List.mem_map, List.mem_filter, List.mem_range] at hk ⊢
    obtain ⟨i, ⟨h1, h2⟩, h3⟩ := hk
    exact ⟨i, ⟨by omega, h2⟩, h3⟩) _ (Nat.le_refl _)
  have h2 : (holesTo p (a * b).toNat).length ≤ pegs p := by
    have := holesTo_mono p (49 - (a * b).toNat) (a * b).toNat
    rwa [show (a * b).toNat + (49 - (a * b).toNat) = 49 from by omega] at this
  rw [linesOf, holesOf, if_pos hb]
  exact Nat.le_trans h1 (Nat.mul_le_mul_left c h2)
/-- games of a board whose holes have at most c lines each -/
def gb (c : Nat) : Nat → Nat
  | 0 => 1
  | 1 => 1
  | k + 2 => c * (k + 2) * gb c (k + 1)
theorem sum_le {α : Type} (f : α → Nat) (B : Nat) : ∀ (l : List α), (∀ x ∈ l, f x ≤ B) → (l.map f).sum ≤ l.length * B
  | [], _ => by simp
  | x :: l, h => by
    have h1 := h x (by simp)
    have h2 := sum_le f B l fun y hy => h y (by simp [hy])
    simp only [List.map_cons, List.sum_cons, List.length_cons, Nat.add_mul]
    omega
theorem gb_pos {c : Nat} (hc : 1 ≤ c) : ∀ k, 1 ≤ gb c k
  | 0 => Nat.le_refl _
  | 1 => Nat.le_refl _
  | k + 2 => by
    rw [gb]
    exact Nat.mul_pos (Nat.mul_pos hc (by omega)) (gb_pos hc (k + 1))
theorem gb_mono {c : Nat} (hc : 1 ≤ c) (k : Nat) : gb c k ≤ gb c (k + 1) := by
  cases k with
  | zero => exact Nat.le_refl _
  | succ k =>
    rw [gb]
    exact Nat.le_mul_of_pos_left _ (Nat.mul_pos hc (by omega))
theorem gb_le {c : Nat} (hc : 1 ≤ c) (k : Nat) : ∀ d, gb c k ≤ gb c (k + d)
  | 0 => Nat.le_refl _
  | d + 1 => Nat.le_trans (gb_le hc k d) (gb_mono hc (k + d))
theorem games_le {a b o g : Int} {c : Nat} (hc1 : 1 ≤ c) (hc : ∀ k ∈ holesOf a b o, (linesFrom a b o k).length ≤ c) (hb : boardOk a b o = true) : ∀ (k : Nat) (p : Int), pegs p = k → games a b o g p ≤ gb c k
  | k, p, hk => by
    by_cases hg : p = g
    · subst hg; rw [games_goal]; exact gb_pos hc1 _
    · rw [games_step hg]
      match k, hk with
      | 0, hk | 1, hk =>
        have : (linesOf a b o).filter (canJ p) = [] := by
          rw [List.filter_eq_nil_iff]
          intro l hl hcj
          have := pegs_two (linesOf_in hl).1 hcj
          omega
        rw [this]
        simp
      | k + 2, hk =>
        refine Nat.le_trans (sum_le _ (gb c (k + 1)) _ fun l hl => ?_) ?_
        · obtain ⟨h1, h2⟩ := List.mem_filter.1 hl
          have h3 := pegs_jump (linesOf_in h1).1 h2
          exact games_le hc1 hc hb (k + 1) _ (by omega)
        · rw [gb]
          refine Nat.mul_le_mul_right _ ?_
          have := jumps_le (p := p) hc hb
          rwa [hk] at this
theorem lineTo_way {k way : Int} {o : Int} {l : Ln} (h : lineTo 4 4 o k way = some l) : 0 ≤ k % 4 + 2 * dx way ∧ k % 4 + 2 * dx way ≤ 3 ∧ 0 ≤ k / 4 + 2 * dy way ∧ k / 4 + 2 * dy way ≤ 3 := by
  unfold lineTo at h
  split at h
  · rename_i h1
    split at h
    · rename_i h2
      simp only [stepTo] at h1
      split at h1
      · split at h1
        · split at h1
          · rename_i x1 y1 t1
            have hv : stepTo 4 4 o k way = (k / 4 + dy way) * 4 + (k % 4 + dx way) := by
              simp only [stepTo]
              rw [if_pos x1, if_pos y1, if_pos t1]
            rw [hv] at h2
            simp only [stepTo] at h2
            split at h2
            · split at h2
              · rename_i x2 y2
                rw [inR_iff] at x1 y1 x2 y2
                generalize dx way = u at *
                generalize dy way = v at *
                omega
              · omega
            · omega
          · omega
        · omega
      · omega
    · cases h
  · cases h
theorem linesFrom_44 (o k : Int) : (linesFrom 4 4 o k).length ≤ 2 := by
  have e : linesFrom 4 4 o k = (lineTo 4 4 o k 0).toList ++ (lineTo 4 4 o k 1).toList ++ (lineTo 4 4 o k 2).toList ++ (lineTo 4 4 o k 3).toList := by
    unfold linesFrom
    rw [linesPart_succ, linesPart_succ, linesPart_succ, linesPart_succ]
    simp [linesPart]
  rw [e]
  have h02 : lineTo 4 4 o k 0 = none ∨ lineTo 4 4 o k 2 = none := by
    cases h0 : lineTo 4 4 o k 0 with
    | none => exact Or.inl rfl
    | some l =>
      cases h2 : lineTo 4 4 o k 2 with
      | none => exact Or.inr rfl
      | some m =>
        have a1 := lineTo_way h0
        have a2 := lineTo_way h2
        simp [dx, dy] at a1 a2
        omega
  have h13 : lineTo 4 4 o k 1 = none ∨ lineTo 4 4 o k 3 = none := by
    cases h0 : lineTo 4 4 o k 1 with
    | none => exact Or.inl rfl
    | some l =>
      cases h2 : lineTo 4 4 o k 3 with
      | none => exact Or.inr rfl
      | some m =>
        have a1 := lineTo_way h0
        have a2 := lineTo_way h2
        simp [dx, dy] at a1 a2
        omega
  have hl : ∀ x : Option Ln, x.toList.length ≤ 1 := fun x => by cases x <;> simp
  simp only [List.length_append]
  have l0 := hl (lineTo 4 4 o k 0)
  have l1 := hl (lineTo 4 4 o k 1)
  have l2 := hl (lineTo 4 4 o k 2)
  have l3 := hl (lineTo 4 4 o k 3)
  rcases h02 with h | h <;> rcases h13 with h' | h' <;> simp only [h, h', Option.toList_none, List.length_nil] <;> omega
/-- pegs on a board of n cells -/
theorem pegs_cells {p : Int} {n : Nat} (hn : n ≤ 49) (h0 : 0 ≤ p) (hp : p < pw n) : pegs p = (holesTo p n).length := by
  have key : ∀ d, n + d ≤ 49 → (holesTo p (n + d)).length = (holesTo p n).length := by
    intro d
    induction d with
    | zero => intro _; rfl
    | succ d ih =>
      intro hd
      rw [← Nat.add_assoc, holesTo_succ_no, ih (by omega)]
      rw [tb_nat]
      refine Nat.testBit_lt_two_pow ?_
      have h1 : p.toNat < 2 ^ n := by
        have : pw (n : Int) = ((2 ^ n : Nat) : Int) := by simp [pw]
        omega
      exact Nat.lt_of_lt_of_le h1 (Nat.pow_le_pow_right (by decide) (by simp only [Int.toNat_natCast]; omega))
  have := key (49 - n) (by omega)
  rw [show n + (49 - n) = 49 from by omega] at this
  exact this
theorem full_no {p : Int} {n : Nat} (h : (holesTo p n).length = n) : ∀ i, i < n → tb p (i : Int) = true := by
  intro i hi
  have h1 : (List.range n).filter (fun i : Nat => tb p (i : Int)) = List.range n := by
    refine List.filter_eq_self.2 ?_
    have h2 : ((List.range n).filter (fun i : Nat => tb p (i : Int))).length = (List.range n).length := by
      unfold holesTo at h; rw [List.length_map] at h; simpa using h
    exact List.length_filter_eq_length_iff.1 h2
  have := List.filter_eq_self.1 h1 i (List.mem_range.2 hi)
  simpa using this
/-- the number of games of a small board fits 62 bits -/
theorem games_fits {a b o g p : Int} (hs : isSmall a b o = true) (hp : posOk a b o p = true) : games a b o g p ≤ 9000000000000000000 := by
  obtain ⟨hb, ha1, ha2, _, _⟩ := small_N hs
  obtain ⟨hsa, hsb⟩ := boardOk_sides hb
  have hpN := pos_N hp
  have hpw : p < pw ((a * b).toNat : Int) := by
    rw [show (((a * b).toNat : Nat) : Int) = a * b from by omega, pwN (by omega)]; exact hpN.2
  have hpc := pegs_cells (n := (a * b).toNat) (by omega) hpN.1 hpw
  have hle : pegs p ≤ (a * b).toNat := by rw [hpc]; exact holesTo_length _ _
  by_cases h16 : a * b = 16
  · have h44 : a = 4 ∧ b = 4 := by
      rw [inR_iff] at hsa hsb
      have : a = 1 ∨ a = 2 ∨ a = 3 ∨ a = 4 ∨ a = 5 ∨ a = 6 ∨ a = 7 := by omega
      rcases this with rfl | rfl | rfl | rfl | rfl | rfl | rfl <;> omega
    obtain ⟨rfl, rfl⟩ := h44
    refine Nat.le_trans (games_le (c := 2) (by decide) (fun k _ => linesFrom_44 o k) hb _ p rfl) ?_
    have h1 := gb_le (c := 2) (by decide) (pegs p) (16 - pegs p)
    rw [show pegs p + (16 - pegs p) = 16 from by omega] at h1
    refine Nat.le_trans h1 ?_
    decide
  · have hc : ∀ k ∈ holesOf a b o, (linesFrom a b o k).length ≤ 4 := fun k _ => linesPart_length a b o k 4
    by_cases hf : pegs p ≤ 14
    · refine Nat.le_trans (games_le (c := 4) (by decide) hc hb _ p rfl) ?_
      have h1 := gb_le (c := 4) (by decide) (pegs p) (14 - pegs p)
      rw [show pegs p + (14 - pegs p) = 14 from by omega] at h1
      refine Nat.le_trans h1 ?_
      decide
    · have hN : (a * b).toNat = 15 := by omega
      have hno : (linesOf a b o).filter (canJ p) = [] := by
        rw [List.filter_eq_nil_iff]
        intro l hl hcj
        have hin := linesOf_in hl
        have hfull := full_no (p := p) (n := 15) (by rw [← hN, ← hpc]; omega) l.t.toNat (by
          have := hin.2
          omega)
        simp only [canJ, tb_nat, Bool.and_eq_true, Bool.not_eq_true'] at hcj
        rw [tb_nat] at hfull
        simp only [Int.toNat_natCast] at hfull
        rw [hfull] at hcj
        cases hcj.2
      by_cases hg : p = g
      · subst hg; rw [games_goal]; omega
      · rw [games_step hg, hno]; simp
end Peg
namespace Peg
theorem sum_take_f (F : Ln → Nat) (P : Ln → Bool) (L : List Ln) (j : Nat) (h : j < L.length) : (((L.take (j + 1)).filter P).map F).sum = (((L.take j).filter P).map F).sum + if P (gD L Ln0 j) = true then F (gD L Ln0 j) else 0 := by
  rw [take_gD L Ln0 j h, List.filter_append, List.map_append, List.sum_append]
  cases hp : P (gD L Ln0 j) <;> simp [hp]
theorem sum_take_le (F : Ln → Nat) (P : Ln → Bool) (L : List Ln) (j : Nat) : (((L.take j).filter P).map F).sum ≤ ((L.filter P).map F).sum := by
  conv => rhs; rw [← List.take_append_drop j L]
  rw [List.filter_append, List.map_append, List.sum_append]
  omega
end Peg
namespace Go.Proofs.YtfmplmlilmalpaaGreat
open Go.ChangeShapes Go.WideShapes Go.ChangeAt Go.RowKit Peg Go.Sort
def GK : List Lit := (List.range 65536).map fun n : Nat => Lit.int .i64 n
def gk (a b o g : Int) : Lit → Int
  | .int _ p => (games a b o g p : Nat)
  | _ => 0
theorem GK_len : GK.length < maxLen := by unfold GK maxLen; rw [List.length_map, List.length_range]; omega
theorem GK_mem {p : Int} (h0 : 0 ≤ p) (h : p < 65536) : Lit.int .i64 p ∈ GK := by
  unfold GK
  refine List.mem_map.2 ⟨p.toNat, List.mem_range.2 (by omega), ?_⟩
  rw [show ((p.toNat : Nat) : Int) = p from by omega]
/-- lines that can be read -/
def LnAt (w : World) (aL : Option Addr) (L : List Ln) : Prop :=
  ∀ i, i < L.length → ∃ b, aL = some ⟨b, 0, none⟩ ∧ b < w.heap.size ∧ w.cell? ⟨b, i * 3, none⟩ = some (.int .i64 (gD L Ln0 i).f) ∧ w.cell? ⟨b, i * 3 + 1, none⟩ = some (.int .i64 (gD L Ln0 i).o) ∧ w.cell? ⟨b, i * 3 + 2, none⟩ = some (.int .i64 (gD L Ln0 i).t)
theorem LnAt.below {w w' : World} {aL : Option Addr} {L : List Ln} (h : LnAt w aL L) (hb : Below w.heap.size w w') : LnAt w' aL L := fun i hi => by
  obtain ⟨b, h1, h2, h3, h4, h5⟩ := h i hi
  exact ⟨b, h1, Nat.lt_of_lt_of_le h2 hb.size, (hb.cell h2).trans h3, (hb.cell h2).trans h4, (hb.cell h2).trans h5⟩
theorem LnAt.gro {w w' : World} {aL : Option Addr} {L : List Ln} {K E : TypeId} {B : Nat} {KS : List Lit} {G : Lit → Int} (h : LnAt w aL L) (hm : Memo w K E B KS G) (hg : w.grownBy w' (some B)) : LnAt w' aL L := fun i hi => by
  obtain ⟨b, h1, h2, h3, h4, h5⟩ := h i hi
  have hne := hm.nocell h3
  exact ⟨b, h1, Nat.lt_of_lt_of_le h2 hg.size, (gro_cell hg h2 hne).trans h3, (gro_cell hg h2 hne).trans h4, (gro_cell hg h2 hne).trans h5⟩
theorem lnN {a b o : Int} (hs : isSmall a b o = true) : (linesOf a b o).length ≤ 256 := by
  have h := linesFrom_le a b o (holesOf a b o)
  have := holesOf_length a b o
  unfold linesOf
  omega
theorem zero3 (w : World) : (zeroValue 3).run Tryz.prog w = .ok (.int .i64 0) w := by kernel_rfl
end Go.Proofs.YtfmplmlilmalpaaGreat
namespace Go.Proofs.YtfmplmlilmalpaaGreat
open Go.ChangeShapes Go.WideShapes Go.ChangeAt Go.RowKit Peg Go.Sort
def KL (p t : Int) : Lit := .string (keyBytes [.int .i64 p, .int .i64 t])
def K2 : List Lit := (List.range 65536).flatMap fun n : Nat => (List.range 51).map fun t : Nat => KL n ((t : Int) - 1)
theorem K2_len : K2.length < maxLen := by
  have key : ∀ (l : List Nat), (l.flatMap fun n : Nat => (List.range 51).map fun t : Nat => KL n ((t : Int) - 1)).length = 51 * l.length := by
    intro l
    induction l with
    | nil => rfl
    | cons x l ih => rw [List.flatMap_cons, List.length_append, ih, List.length_map, List.length_range, List.length_cons]; omega
  unfold K2 maxLen
  rw [key, List.length_range]
  omega
theorem K2_mem {p t : Int} (h0 : 0 ≤ p) (h : p < 65536) (t0 : -1 ≤ t) (t1 : t < 50) : KL p t ∈ K2 := by
  unfold K2
  refine List.mem_flatMap.2 ⟨p.toNat, List.mem_range.2 (by omega), List.mem_map.2 ⟨(t + 1).toNat, List.mem_range.2 (by omega), ?_⟩⟩
  rw [show ((p.toNat : Nat) : Int) = p from by omega, show (((t + 1).toNat : Nat) : Int) - 1 = t from by omega]
-- type 105
theorem key_of {p t : Int} (hp : (Lit.int .i64 p).wf = true) (ht : (Lit.int .i64 t).wf = true) : keyOf Tryz.prog 105 (.agg #[.int .i64 p, .int .i64 t]) = some (KL p t) := by
  have hk : Tryz.prog.keyType 105 = true := by kernel_rfl
  have hc : Tryz.prog.cellsOf 105 = 2 := by kernel_rfl
  have hc1 : Tryz.prog.cellsOf 3 = 1 := by kernel_rfl
  have hf : (Value.agg #[Value.int .i64 p, Value.int .i64 t]).formed Tryz.prog 105 = true := by
    simp [Value.formed, Tryz.underlying105, hc]
  have hd0 : 0 < Tryz.prog.types.size := by decide +kernel
  obtain ⟨d, hd⟩ : ∃ d, Tryz.prog.types.size = d + 1 := ⟨Tryz.prog.types.size - 1, by omega⟩
  unfold keyOf
  rw [Tryz.underlying105]
  simp only [hk, hf, Bool.and_self, if_true]
  unfold Program.keyLits
  rw [Tryz.underlying105]
  simp [Value.cells, hc, hc1, hd, Program.keyLits, Tryz.underlying3, List.range_succ, hp, ht, KL]
theorem law2 : Go.Maps.Keyed Tryz.prog 105 :=
  Go.Maps.Keyed.of_law (deep_law_laid (by decide +kernel) (m := 3) (by decide) (by decide +kernel) (by decide +kernel) (by rw [Tryz.underlying105]))
noncomputable def fk (a b o g : Int) (l : Lit) : Int :=
  let x := Classical.epsilon (fun x : Int × Int => keyOf Tryz.prog 105 (.agg #[.int .i64 x.1, .int .i64 x.2]) = some l)
  fewest a b o g x.1 x.2
theorem fk_at (a b o g : Int) {p t : Int} (hp : (Lit.int .i64 p).wf = true) (ht : (Lit.int .i64 t).wf = true) : fk a b o g (KL p t) = fewest a b o g p t := by
  have h := Classical.epsilon_spec (p := fun x : Int × Int => keyOf Tryz.prog 105 (.agg #[.int .i64 x.1, .int .i64 x.2]) = some (KL p t)) ⟨(p, t), key_of hp ht⟩
  have h2 := law2.inj h (key_of hp ht)
  unfold fk
  simp only at h2 ⊢
  generalize Classical.epsilon (fun x : Int × Int => keyOf Tryz.prog 105 (.agg #[.int .i64 x.1, .int .i64 x.2]) = some (KL p t)) = x at *
  simp at h2
  rw [h2.1, h2.2]
theorem Own.nomap {w w' : World} {K E : TypeId} {B base : Nat} {KS : List Lit} {G : Lit → Int} {v : Value} {l : List Bool} (h : Own EBool w base v l) (hm : Memo w K E B KS G) (hg : w.grownBy w' (some B)) : Own EBool w' base v l := by
  rcases h with h | h
  · exact .inl h
  rcases h.2 with ⟨hv, hn⟩ | ⟨g, cap, cur, hv, hb, hh, r⟩
  · exact .inr ⟨h.1, .inl ⟨hv, hn⟩⟩
  · refine Own.grown (.inr h) hg (.inl ?_)
    rw [hv]
    intro e
    simp only [Value.ownBlock, Option.some.injEq] at e
    subst e
    obtain ⟨es, ⟨es0, clock, h1, h3⟩, h2⟩ := hm
    rw [h1] at hh
    cases hh
/-- the sweeper's memory -/
def Sw (W : World) (a b o g : Int) (aL aB : Option Addr) (cB B : Nat) : Prop :=
  Memo W 105 3 B K2 (fk a b o g) ∧ LnAt W aL (linesOf a b o) ∧ ∃ base, Own EBool W base (.slice aB (spreadOf a b o g true).length cB) (spreadOf a b o g true)
theorem Sw.below {W W' : World} {a b o g : Int} {aL aB : Option Addr} {cB B : Nat} (h : Sw W a b o g aL aB cB B) (hb : Below W.heap.size W W') : Sw W' a b o g aL aB cB B := by
  obtain ⟨h1, h2, base, h3⟩ := h
  exact ⟨h1.below hb, h2.below hb, base, h3.keep hb⟩
theorem Sw.gro {W W' : World} {a b o g : Int} {aL aB : Option Addr} {cB B : Nat} (h : Sw W a b o g aL aB cB B) (hm : Memo W' 105 3 B K2 (fk a b o g)) (hg : W.grownBy W' (some B)) : Sw W' a b o g aL aB cB B := by
  obtain ⟨h1, h2, base, h3⟩ := h
  exact ⟨hm, h2.gro h1 hg, base, h3.nomap h1 hg⟩
def costOf (a b o g p last : Int) (l : Ln) : Int := if onTo a b o g p l = true then fewest a b o g (flip p l) l.t + (if l.f = last then 0 else 1) else -1
set_option maxHeartbeats 2000000 in
set_option maxRecDepth 100000 in
theorem cost_any (a b o g p last : Int) (l : Ln) (aL aB : Option Addr) (cL cB B : Nat) (hl : LnOk l) (hp0 : 0 ≤ p) (hp1 : p < 562949953421312)
    (hbd : onTo a b o g p l = true → 0 ≤ fewest a b o g (flip p l) l.t ∧ fewest a b o g (flip p l) l.t ≤ 49)
    (HF : onTo a b o g p l = true → ∀ W, Sw W a b o g aL aB cB B → Calls Tryz.prog 62 #[.agg #[.slice aL (linesOf a b o).length cL, .slice aB (spreadOf a b o g true).length cB, .int .i64 g, .map (some B)], .int .i64 (flip p l), .int .i64 l.t] W fun e w' => e = .returned (.int .i64 (fewest a b o g (flip p l) l.t)) ∧ Sw w' a b o g aL aB cB B ∧ W.grownBy w' (some B))
    (w : World) (HS : Sw w a b o g aL aB cB B) :
    Calls Tryz.prog 96 #[.agg #[.slice aL (linesOf a b o).length cL, .slice aB (spreadOf a b o g true).length cB, .int .i64 g, .map (some B)], .int .i64 p, .int .i64 last, .agg #[.int .i64 l.f, .int .i64 l.o, .int .i64 l.t]] w fun e w' => e = .returned (.int .i64 (costOf a b o g p last l)) ∧ Sw w' a b o g aL aB cB B ∧ w.grownBy w' (some B) := by
  have HSw := Lib.hid HS
  have hBlt := HS.1.lt
  have HJF : Hid (∀ W, Calls Tryz.prog 72 #[.int .i64 p, .agg #[.int .i64 l.f, .int .i64 l.o, .int .i64 l.t]] W fun e w' => e = .returned (.tuple #[.int .i64 (jumpTo p l), .bool (canJ p l)]) ∧ Below W.heap.size W w') := fun W => jumpFrom_any p l hl hp0 hp1 W
  have HHAS : Hid (∀ W, Sw W a b o g aL aB cB B → Calls Tryz.prog 59 #[.slice aB (spreadOf a b o g true).length cB, .int .i64 (flip p l)] W fun e w' => e = .returned (.bool (hasB (spreadOf a b o g true) (flip p l))) ∧ Below W.heap.size W w') := fun W h => by
    obtain ⟨_, _, base, h3⟩ := h
    exact has_any _ _ base _ W h3
  have HV : Hid (costOf a b o g p last l = if onTo a b o g p l = true then fewest a b o g (flip p l) l.t + (if l.f = last then 0 else 1) else -1) := rfl
  have HON : Hid (onTo a b o g p l = (canJ p l && hasB (spreadOf a b o g true) (flip p l))) := rfl
  have HFH := Lib.hid HF
  have HBD := Lib.hid hbd
  clear HS HF hbd
  generalize costOf a b o g p last l = cv at *
  generalize fewest a b o g (flip p l) l.t = fv at *
  generalize onTo a b o g p l = ov at *
  generalize (linesOf a b o).length = nL at *
  generalize (spreadOf a b o g true).length = nB at *
  generalize hasB (spreadOf a b o g true) (flip p l) = hv at *
  cases hcj : canJ p l
  · have HE : Hid (cv = -1) := by show _ = _; rw [HV.out, HON.out, hcj]; simp
    rw [hcj] at HJF
    clear HV HON HFH HBD hcj
    go_enter Tryz.func96, Tryz.ntmps96
    go_wp2_with (go_at_call 72; refine (HJF.out _).mono ?_; rintro e w2 ⟨rfl, hb2⟩)
    all_goals go_ret
    all_goals exact ⟨by simp [HE.out], HSw.out.below (by (repeat' first | (with_reducible exact Below.refl _ _) | (with_reducible refine Below.alloc ?_ ?_ _) | (with_reducible refine Below.drew ?_) | (with_reducible refine Below.setCell ?_ ?_ _) | (with_reducible refine below_via (by assumption) ?_ ?_) | go_size)), gro_below (by (repeat' first | (with_reducible exact Below.refl _ _) | (with_reducible refine Below.alloc ?_ ?_ _) | (with_reducible refine Below.drew ?_) | (with_reducible refine Below.setCell ?_ ?_ _) | (with_reducible refine below_via (by assumption) ?_ ?_) | go_size))⟩
  · rw [hcj] at HJF
    simp only [show jumpTo p l = Peg.flip p l from by simp [jumpTo, hcj]] at HJF
    generalize Peg.flip p l = q at *
    cases hv
    · have HE : Hid (cv = -1) := by show _ = _; rw [HV.out, HON.out]; simp
      clear HV HON HFH HBD hcj
      go_enter Tryz.func96, Tryz.ntmps96
      go_wp2_with fail
      refine (HJF.out _).mono ?_
      rintro e w2 ⟨rfl, hb2⟩
      have hz2 := hb2.size
      simp only [World.size_alloc] at hz2
      have HB2 := Lib.hid (show Below w.heap.size w w2 by (repeat' first | (with_reducible exact Below.refl _ _) | (with_reducible refine Below.alloc ?_ ?_ _) | (with_reducible refine Below.drew ?_) | (with_reducible refine Below.setCell ?_ ?_ _) | (with_reducible refine below_via (by assumption) ?_ ?_) | go_size))
      have hbox : ∀ j, w2.cell? ⟨w.heap.size, j, none⟩ = #[Value.slice aL nL cL, .slice aB nB cB, .int .i64 g, .map (some B)][j]? := fun j => (hb2.cell (by simp; omega)).trans (by simp)
      have gW : w.heap.size < w2.heap.size := by omega
      clear hb2
      go_wp2_with (go_at_call 59; refine (HHAS.out _ (HSw.out.below HB2.out)).mono ?_; rintro e w3 ⟨rfl, hb3⟩)
      all_goals go_ret
      all_goals exact ⟨by simp [HE.out], (HSw.out.below HB2.out).below hb3, gro_below (HB2.out.trans (hb3.mono HB2.out.size))⟩
    · have hov : ov = true := by rw [HON.out, hcj]; rfl
      have HE : Hid (cv = fv + (if l.f = last then 0 else 1)) := by show _ = _; rw [HV.out, if_pos hov]
      obtain ⟨f0, f1⟩ := HBD.out hov
      have HFF := Lib.hid (HFH.out hov)
      clear HV HON HFH HBD hcj hov
      have hwf : wrap64 (fv + 1) = fv + 1 := IntWalk.wrap64_in _ (by omega)
      go_enter Tryz.func96, Tryz.ntmps96
      go_wp2_with fail
      refine (HJF.out _).mono ?_
      rintro e w2 ⟨rfl, hb2⟩
      have hz2 := hb2.size
      simp only [World.size_alloc] at hz2
      have HB2 := Lib.hid (show Below w.heap.size w w2 by (repeat' first | (with_reducible exact Below.refl _ _) | (with_reducible refine Below.alloc ?_ ?_ _) | (with_reducible refine Below.drew ?_) | (with_reducible refine Below.setCell ?_ ?_ _) | (with_reducible refine below_via (by assumption) ?_ ?_) | go_size))
      have hbox : ∀ j, w2.cell? ⟨w.heap.size, j, none⟩ = #[Value.slice aL nL cL, .slice aB nB cB, .int .i64 g, .map (some B)][j]? := fun j => (hb2.cell (by simp; omega)).trans (by simp)
      have hln : ∀ j, w2.cell? ⟨w.heap.size + 1, j, none⟩ = #[Value.int .i64 l.f, .int .i64 l.o, .int .i64 l.t][j]? := fun j => (hb2.cell (by simp)).trans (by simp)
      have gW : w.heap.size < w2.heap.size := by omega
      have gW1 : w.heap.size + 1 < w2.heap.size := by omega
      clear hb2
      go_wp2_with (go_at_call 59; refine (HHAS.out _ (HSw.out.below HB2.out)).mono ?_; rintro e w3 ⟨rfl, hb3⟩; have hz3 := hb3.size; have hbox3 : ∀ j, w3.cell? ⟨w.heap.size, j, none⟩ = #[Value.slice aL nL cL, .slice aB nB cB, .int .i64 g, .map (some B)][j]? := (fun j => (hb3.cell (by simpa using gW)).trans (hbox j)); have hln3 : ∀ j, w3.cell? ⟨w.heap.size + 1, j, none⟩ = #[Value.int .i64 l.f, .int .i64 l.o, .int .i64 l.t][j]? := (fun j => (hb3.cell (by simpa using gW1)).trans (hln j)))
      have HSw3 := Lib.hid ((HSw.out.below HB2.out).below hb3)
      have HB3 := Lib.hid (HB2.out.trans (hb3.mono HB2.out.size))
      have g0 : w.heap.size < w3.heap.size := by omega
      have g1 : w.heap.size + 1 < w3.heap.size := by omega
      clear hb3 hbox hln
      refine (HFF.out _ HSw3.out).mono ?_
      rintro e w4 ⟨rfl, hS4, hg4⟩
      have n1 : w.heap.size + 1 ≠ B := by omega
      have hln4 : ∀ j, w4.cell? ⟨w.heap.size + 1, j, none⟩ = #[Value.int .i64 l.f, .int .i64 l.o, .int .i64 l.t][j]? := fun j => (gro_cell hg4 g1 n1).trans (hln3 j)
      have HS4 := Lib.hid hS4
      have HG4 := Lib.hid (gro_trans (gro_below HB3.out) hg4)
      clear hS4 hg4 hln3 hbox3
      by_cases hfl : l.f = last
      · have hq1 : (l.f != last) = false := by simp [hfl]
        rw [if_pos hfl] at HE
        clear hfl
        go_wp2_with fail
        all_goals go_ret
        all_goals exact ⟨by rw [HE.out]; simp, HS4.out, HG4.out⟩
      · have hq1 : (l.f != last) = true := by simp [hfl]
        rw [if_neg hfl] at HE
        clear hfl
        go_wp2_with fail
        all_goals go_ret
        all_goals exact ⟨by rw [HE.out]; simp, HS4.out, HG4.out⟩
set_option maxHeartbeats 4000000 in
set_option maxRecDepth 100000 in
theorem fewest_any (a b o g : Int) (hs : isSmall a b o = true) (hg : posOk a b o g = true) (aL aB : Option Addr) (cL cB B : Nat) : ∀ (n : Nat) (p last : Int) (w : World), pegs p = n → posOk a b o p = true → reach a b o p g false = true → -1 ≤ last → last < 50 → Sw w a b o g aL aB cB B →
    Calls Tryz.prog 62 #[.agg #[.slice aL (linesOf a b o).length cL, .slice aB (spreadOf a b o g true).length cB, .int .i64 g, .map (some B)], .int .i64 p, .int .i64 last] w fun e w' => e = .returned (.int .i64 (fewest a b o g p last)) ∧ Sw w' a b o g aL aB cB B ∧ w.grownBy w' (some B) := by
  intro n
  induction n using Nat.strongRecOn with
  | _ n ih =>
  intro p last w hn hp hr hl0 hl1 hS
  by_cases hpg : p = g
  · subst hpg
    have HS := Lib.hid hS
    have HG := Lib.hid (fewest_goal a b o p last)
    clear hS ih hn hr
    go_enter Tryz.func62, Tryz.ntmps62
    go_wp2_with fail
    go_ret
    exact ⟨by simp [HG.out], HS.out.below (by (repeat' first | (with_reducible exact Below.refl _ _) | (with_reducible refine Below.alloc ?_ ?_ _) | (with_reducible refine Below.drew ?_) | (with_reducible refine Below.setCell ?_ ?_ _) | (with_reducible refine below_via (by assumption) ?_ ?_) | go_size)), gro_below (by (repeat' first | (with_reducible exact Below.refl _ _) | (with_reducible refine Below.alloc ?_ ?_ _) | (with_reducible refine Below.drew ?_) | (with_reducible refine Below.setCell ?_ ?_ _) | (with_reducible refine below_via (by assumption) ?_ ?_) | go_size))⟩
  have hpg1 : (p == g) = false := by simp [hpg]
  have HS := Lib.hid hS
  have hBlt := hS.1.lt
  have hpl := pos_lt hp
  have hwp : (Lit.int .i64 p).wf = true := WalkArith.wf_i64 (by omega)
  have hwl : (Lit.int .i64 last).wf = true := WalkArith.wf_i64 (by omega)
  have hkey := key_of hwp hwl
  have HFK := Lib.hid (fk_at a b o g hwp hwl)
  have HKM := Lib.hid (K2_mem hpl.1 (by have := pos_N hp; have := (small_N hs).2.2.2.1; omega) hl0 hl1)
  have HST := Lib.hid (fewest_step (a := a) (b := b) (o := o) (last := last) hpg)
  have hbd0 := fewest_bd hs hg n p hn hp hr last
  have hn49 := pegs_le p
  have HLI : Hid (∀ x ∈ linesOf a b o, LnIn a b x) := fun x hx => linesOf_in hx
  have HCO : Hid (∀ x ∈ linesOf a b o, (onTo a b o g p x = true → 0 ≤ fewest a b o g (Peg.flip p x) x.t ∧ fewest a b o g (Peg.flip p x) x.t ≤ 48) ∧ ∀ W, Sw W a b o g aL aB cB B → Calls Tryz.prog 96 #[.agg #[.slice aL (linesOf a b o).length cL, .slice aB (spreadOf a b o g true).length cB, .int .i64 g, .map (some B)], .int .i64 p, .int .i64 last, .agg #[.int .i64 x.f, .int .i64 x.o, .int .i64 x.t]] W fun e w' => e = .returned (.int .i64 (costOf a b o g p last x)) ∧ Sw w' a b o g aL aB cB B ∧ W.grownBy w' (some B)) := by
    intro x hx
    have hin := linesOf_in hx
    have hok := hin.1
    have key : onTo a b o g p x = true → pegs (Peg.flip p x) + 1 = pegs p ∧ posOk a b o (Peg.flip p x) = true ∧ reach a b o (Peg.flip p x) g false = true := by
      intro h
      simp only [onTo, Bool.and_eq_true] at h
      exact ⟨pegs_jump hok h.1, posOk_flip hp hx, by rw [← has_reach]; exact h.2⟩
    have hbd : onTo a b o g p x = true → 0 ≤ fewest a b o g (Peg.flip p x) x.t ∧ fewest a b o g (Peg.flip p x) x.t ≤ 48 := by
      intro h
      obtain ⟨k1, k2, k3⟩ := key h
      have := fewest_bd hs hg _ _ rfl k2 k3 x.t
      omega
    refine ⟨hbd, fun W hW => cost_any a b o g p last x aL aB cL cB B hok hpl.1 hpl.2 (fun h => by have := hbd h; omega) (fun h W hW => ?_) W hW⟩
    obtain ⟨k1, k2, k3⟩ := key h
    unfold LnOk at hok
    exact ih _ (by omega) _ _ W rfl k2 k3 (by omega) (by omega) hW
  have HFS : Hid (∀ best x, fwStep a b o g p last (fewest a b o g) best x = if onTo a b o g p x = true then lessOf best (costOf a b o g p last x) else best) := by
    intro best x
    unfold fwStep costOf
    by_cases h : onTo a b o g p x = true
    · rw [if_pos h, if_pos h, if_pos h]
    · rw [if_neg h, if_neg h]
  have HCV : Hid (∀ x, costOf a b o g p last x = if onTo a b o g p x = true then fewest a b o g (Peg.flip p x) x.t + (if x.f = last then 0 else 1) else -1) := fun x => rfl
  clear ih hp hn hS hwp hwl hr
  generalize fewest a b o g p last = fv at *
  generalize hfst : fwStep a b o g p last (fewest a b o g) = fs at *
  clear hfst
  generalize hcst : costOf a b o g p last = cs at *
  clear hcst
  generalize (spreadOf a b o g true).length = nB at *
  go_enter Tryz.func62, Tryz.ntmps62
  go_wp2_with (first | (at_lookup; refine wpList_memo_look _ rfl _ _ 81 rfl (HS.out.below (by (repeat' first | (with_reducible exact Below.refl _ _) | (with_reducible refine Below.alloc ?_ ?_ _) | (with_reducible refine Below.drew ?_) | (with_reducible refine Below.setCell ?_ ?_ _) | (with_reducible refine below_via (by assumption) ?_ ?_) | go_size))).1 law2 Tryz.underlying81 Tryz.underlying3 (zero3 _) rfl rfl hkey ?_; intro c ok hcok) | go_in)
  · have hc := hcok (by assumption)
    go_ret
    exact ⟨by simp [hc, HFK.out], HS.out.below (by (repeat' first | (with_reducible exact Below.refl _ _) | (with_reducible refine Below.alloc ?_ ?_ _) | (with_reducible refine Below.drew ?_) | (with_reducible refine Below.setCell ?_ ?_ _) | (with_reducible refine below_via (by assumption) ?_ ?_) | go_size)), gro_below (by (repeat' first | (with_reducible exact Below.refl _ _) | (with_reducible refine Below.alloc ?_ ?_ _) | (with_reducible refine Below.drew ?_) | (with_reducible refine Below.setCell ?_ ?_ _) | (with_reducible refine below_via (by assumption) ?_ ?_) | go_size))⟩
  obtain rfl : ok = false := by assumption
  have hX : ∀ j, ((w.alloc (.cells #[.slice aL (linesOf a b o).length cL, .slice aB nB cB, .int .i64 g, .map (some B)] 83)).alloc (.cells #[.int .i64 p, .int .i64 last] 105)).cell? ⟨w.heap.size, j, none⟩ = #[Value.slice aL (linesOf a b o).length cL, .slice aB nB cB, .int .i64 g, .map (some B)][j]? := fun j => by simp
  have hK : ∀ j, ((w.alloc (.cells #[.slice aL (linesOf a b o).length cL, .slice aB nB cB, .int .i64 g, .map (some B)] 83)).alloc (.cells #[.int .i64 p, .int .i64 last] 105)).cell? ⟨w.heap.size + 1, j, none⟩ = #[Value.int .i64 p, .int .i64 last][j]? := fun j => by
    simp
  clear hcok hpg hpg1
  have hL196 := linesOf_le a b o
  generalize hL0 : linesOf a b o = L at *
  have HL0 := Lib.hid hL0
  clear hL0
  go_loopw [10, 33] (fun bs i wr => ∃ (j : Nat) (m : Int), j ≤ L.length ∧ i = .int .i64 j ∧ bs = .int .i64 m ∧ Hid (m = (L.take j).foldl fs (-1)) ∧ -1 ≤ m ∧ m ≤ 49 ∧ Hid (Sw wr a b o g aL aB cB B) ∧ Hid (w.grownBy wr (some B)) ∧ (∀ j, wr.cell? ⟨w.heap.size, j, none⟩ = #[Value.slice aL L.length cL, .slice aB nB cB, .int .i64 g, .map (some B)][j]?) ∧ (∀ j, wr.cell? ⟨w.heap.size + 1, j, none⟩ = #[Value.int .i64 p, .int .i64 last][j]?) ∧ w.heap.size + 1 < wr.heap.size) (fun _ i _ => L.length - (intOf i).toNat)
  case atStart => exact ⟨0, -1, by omega, rfl, rfl, by show _ = _; rfl, by omega, by omega, HS.out.below (by (repeat' first | (with_reducible exact Below.refl _ _) | (with_reducible refine Below.alloc ?_ ?_ _) | (with_reducible refine Below.drew ?_) | (with_reducible refine Below.setCell ?_ ?_ _) | (with_reducible refine below_via (by assumption) ?_ ?_) | go_size)), gro_below (by (repeat' first | (with_reducible exact Below.refl _ _) | (with_reducible refine Below.alloc ?_ ?_ _) | (with_reducible refine Below.drew ?_) | (with_reducible refine Below.setCell ?_ ?_ _) | (with_reducible refine below_via (by assumption) ?_ ?_) | go_size)), hX, hK, by simp⟩
  case round =>
    obtain ⟨j, m, hj, rfl, rfl, HM, hm0, hm1, HSr, HGr, hXr, hKr, hzr⟩ := hrel
    by_cases hlt : j < L.length
    · obtain ⟨bL, hbL, hbL1, hf, ho, ht⟩ := (show LnAt wr aL L by rw [← HL0.out]; exact HSr.out.2.1) j hlt
      have gW0 : w.heap.size < wr.heap.size := by omega
      subst hbL
      have hmem := gD_mem L Ln0 j hlt
      obtain ⟨hbd, hC⟩ := HCO.out _ hmem
      have HC := Lib.hid hC
      have HFO : Hid ((L.take (j + 1)).foldl fs (-1) = fs m (gD L Ln0 j)) := by
        show _ = _
        rw [take_gD L Ln0 j hlt, List.foldl_append, ← HM.out]
        rfl
      have hfs := HFS.out m (gD L Ln0 j)
      have hcv := HCV.out (gD L Ln0 j)
      have HB1 : Hid (Below wr.heap.size wr (wr.alloc (.cells #[.int .i64 (gD L Ln0 j).f, .int .i64 (gD L Ln0 j).o, .int .i64 (gD L Ln0 j).t] 74))) := (Below.refl _ _).alloc (Nat.le_refl _) _
      clear hC
      have HPOST : Hid (∀ W, Sw W a b o g (some ⟨bL, 0, none⟩) aB cB B → (wr.alloc (.cells #[.int .i64 (gD L Ln0 j).f, .int .i64 (gD L Ln0 j).o, .int .i64 (gD L Ln0 j).t] 74)).grownBy W (some B) → Hid (Sw W a b o g (some ⟨bL, 0, none⟩) aB cB B) ∧ Hid (w.grownBy W (some B)) ∧ (∀ j, W.cell? ⟨w.heap.size, j, none⟩ = #[Value.slice (some ⟨bL, 0, none⟩) L.length cL, .slice aB nB cB, .int .i64 g, .map (some B)][j]?) ∧ (∀ j, W.cell? ⟨w.heap.size + 1, j, none⟩ = #[Value.int .i64 p, .int .i64 last][j]?) ∧ w.heap.size + 1 < W.heap.size) := by
        intro W h1 h2
        have hz := h2.size
        simp only [World.size_alloc] at hz
        exact ⟨h1, gro_trans (gro_via HGr.out HB1.out) h2, fun j => ((gro_cell h2 (by simp; omega) (by omega)).trans (HB1.out.cell (by simp; omega))).trans (hXr j), fun j => ((gro_cell h2 (by simp; omega) (by omega)).trans (HB1.out.cell (by simpa using hzr))).trans (hKr j), by omega⟩
      generalize gD L Ln0 j = x at *
      have hcase : (¬ 0 ≤ cs x ∧ fs m x = m) ∨ (0 ≤ cs x ∧ cs x ≤ 49 ∧ m < 0 ∧ fs m x = cs x) ∨ (0 ≤ cs x ∧ cs x ≤ 49 ∧ ¬ m < 0 ∧ cs x < m ∧ fs m x = cs x) ∨ (0 ≤ cs x ∧ cs x ≤ 49 ∧ ¬ m < 0 ∧ ¬ cs x < m ∧ fs m x = m) := by
        rw [hfs]
        by_cases hon : onTo a b o g p x = true
        · rw [if_pos hon] at hcv ⊢
          obtain ⟨b0, b1⟩ := hbd hon
          have hcb : 0 ≤ cs x ∧ cs x ≤ 49 := by rw [hcv]; split <;> omega
          unfold lessOf
          by_cases h1 : m < 0
          · exact Or.inr (Or.inl ⟨hcb.1, hcb.2, h1, by rw [if_pos (Or.inl h1)]⟩)
          · by_cases h2 : cs x < m
            · exact Or.inr (Or.inr (Or.inl ⟨hcb.1, hcb.2, h1, h2, by rw [if_pos (Or.inr h2)]⟩))
            · exact Or.inr (Or.inr (Or.inr ⟨hcb.1, hcb.2, h1, h2, by rw [if_neg (by omega)]⟩))
        · rw [if_neg hon] at hcv ⊢
          exact Or.inl ⟨by omega, rfl⟩
      clear hcv hfs hbd HCO HFS HCV
      generalize hv : cs x = c at *
      clear hv
      rcases hcase with ⟨h1, hnew⟩ | ⟨h1, h2, h3, hnew⟩ | ⟨h1, h2, h3, h4, hnew⟩ | ⟨h1, h2, h3, h4, hnew⟩
      · have hd1 : decide (0 ≤ c) = false := decide_eq_false h1
        go_wp2_with fail
        refine (HC.out _ (HSr.out.below HB1.out)).mono ?_
        rintro e w3 ⟨rfl, hS3, hg3⟩
        obtain ⟨HS3, HG3, hX3, hK3, hz3⟩ := HPOST.out w3 hS3 hg3
        clear hS3 hg3
        go_wp2_with fail
        go_roundw
        case rel => exact ⟨j + 1, _, by omega, by go_num, rfl, by show _ = _; rw [HFO.out, hnew], by omega, by omega, HS3, HG3, hX3, hK3, hz3⟩
        case measure => simp [intOf]; omega
      · have hd1 : decide (0 ≤ c) = true := decide_eq_true h1
        have hd2 : decide (m < 0) = true := decide_eq_true h3
        go_wp2_with fail
        refine (HC.out _ (HSr.out.below HB1.out)).mono ?_
        rintro e w3 ⟨rfl, hS3, hg3⟩
        obtain ⟨HS3, HG3, hX3, hK3, hz3⟩ := HPOST.out w3 hS3 hg3
        clear hS3 hg3
        go_wp2_with fail
        go_roundw
        case rel => exact ⟨j + 1, _, by omega, by go_num, rfl, by show _ = _; rw [HFO.out, hnew], by omega, by omega, HS3, HG3, hX3, hK3, hz3⟩
        case measure => simp [intOf]; omega
      · have hd1 : decide (0 ≤ c) = true := decide_eq_true h1
        have hd2 : decide (m < 0) = false := decide_eq_false h3
        have hd3 : decide (c < m) = true := decide_eq_true h4
        go_wp2_with fail
        refine (HC.out _ (HSr.out.below HB1.out)).mono ?_
        rintro e w3 ⟨rfl, hS3, hg3⟩
        obtain ⟨HS3, HG3, hX3, hK3, hz3⟩ := HPOST.out w3 hS3 hg3
        clear hS3 hg3
        go_wp2_with fail
        go_roundw
        case rel => exact ⟨j + 1, _, by omega, by go_num, rfl, by show _ = _; rw [HFO.out, hnew], by omega, by omega, HS3, HG3, hX3, hK3, hz3⟩
        case measure => simp [intOf]; omega
      · have hd1 : decide (0 ≤ c) = true := decide_eq_true h1
        have hd2 : decide (m < 0) = false := decide_eq_false h3
        have hd3 : decide (c < m) = false := decide_eq_false h4
        go_wp2_with fail
        refine (HC.out _ (HSr.out.below HB1.out)).mono ?_
        rintro e w3 ⟨rfl, hS3, hg3⟩
        obtain ⟨HS3, HG3, hX3, hK3, hz3⟩ := HPOST.out w3 hS3 hg3
        clear hS3 hg3
        go_wp2_with fail
        go_roundw
        case rel => exact ⟨j + 1, _, by omega, by go_num, rfl, by show _ = _; rw [HFO.out, hnew], by omega, by omega, HS3, HG3, hX3, hK3, hz3⟩
        case measure => simp [intOf]; omega
    · obtain rfl : j = L.length := by omega
      have hmf : m = fv := by rw [HM.out, List.take_length, ← HST.out]
      have HU : Hid (m = fk a b o g (KL p last)) := by show _ = _; rw [HFK.out, hmf]
      have HMF := Lib.hid hmf
      have hwf : (Lit.int .i64 m).wf = true := WalkArith.wf_i64 (by omega)
      clear hmf
      go_wp2_with (first | (at_mapUpdate; refine wpList_memo_store _ rfl _ _ _ 81 rfl HSr.out.1 law2 Tryz.underlying81 Tryz.underlying3 K2_len rfl rfl rfl hkey HKM.out HU.out hwf ?_; intro w5 HM5 HG5) | go_in)
      all_goals go_ret
      all_goals exact ⟨by simp [HMF.out], HSr.out.gro HM5 HG5, gro_trans HGr.out HG5⟩
end Go.Proofs.YtfmplmlilmalpaaGreat
