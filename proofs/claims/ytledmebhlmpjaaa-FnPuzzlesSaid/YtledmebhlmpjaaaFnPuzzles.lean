/- A puzzle without spoiling jumps is solved by any play, and one way is one game up to order, for all drawn codes. No condition. -/
import Derived.Test.YtledmebhlmpjaaaDrawPz
import Derived.Test.YtledmebhlmpjaaaOneI
import Derived.Test.YtledmebhlmpjaaaHwW
import Derived.Test.YtledmebhlmpjaaaOrdW
import Derived.Test.YtledmebhlmpjaaaPzP
import Derived.Test.YtledmebhlmpjaaaDiff
import Derived.Test.YtledmebhlmpjaaaPlayAll
import Derived.Test.YtledmebhlmpjaaaPzV
import Derived.Test.YtledmebhlmpjaaaBtoi
import Derived.Test.YtledmebhlmpjaaaPzD
import Derived.Deep.Cut
import Derived.Deep.DeepCutAuto
import Derived.IntWalk
set_option linter.unusedVariables false
set_option linter.unusedSimpArgs false
namespace Peg
theorem short_diff {a b o s g : Int} (h : isSolvable a b o s g = true) : difficulty a b o s g = spoils a b o s g + ((wayTo a b o s g).length : Int) := by
  unfold difficulty
  rw [if_pos h, (way_len h).1]
  omega
theorem short_solved {a b o s g : Int} (h : isSolvable a b o s g = true) (h5 : (wayTo a b o s g).length ≤ 5) : isSolvedBy a b o s g (wayTo a b o s g) = true := by
  obtain ⟨_, hp⟩ := way_len h
  obtain ⟨h1, h2, h3, _⟩ := solv_steps h
  have hpl : playAll a b o s (wayTo a b o s g) = some g := by
    unfold playAll
    rw [if_pos h2, if_pos (by omega)]
    exact hp
  simp [isSolvedBy, isSolution, puzzleOk, h1, h2, h3, hpl]
theorem diff_yes {a b o s g : Int} (h : isSolvable a b o s g = true) : 0 ≤ difficulty a b o s g := by
  rw [short_diff h]
  have := spoils_bd a b o s g
  omega
theorem diff_no {a b o s g : Int} (h : isSolvable a b o s g = false) : difficulty a b o s g = -1 := by
  unfold difficulty
  rw [if_neg (by simp [h])]
theorem line_at {M : List Ln} {j : Nat} (h : j < M.length) : gD M Ln0 j ∈ M := by
  rw [gD, List.getD_eq_getElem?_getD, List.getElem?_eq_getElem h]
  exact List.getElem_mem h
theorem spoilNo_next {a b o q g : Int} {M : List Ln} (hM : M = jumpsOf a b o q) {k : Nat} (hk : k < M.length) : spoilNo a b o q g (k + 1) = spoilNo a b o q g k + (if isSpoiled a b o q g (gD M Ln0 k) = true then 1 else 0) := by
  subst hM
  exact spoilNo_succ a b o q g k hk
theorem spoilNo_end {a b o q g : Int} {M : List Ln} (hM : M = jumpsOf a b o q) : spoilNo a b o q g M.length = ((jumpsOf a b o q).countP (isSpoiled a b o q g) : Nat) := by
  subst hM
  exact spoilNo_all a b o q g
end Peg
namespace Go.Proofs.Ytledmebhlmpjaaa.fnPuzzles
open Go.ChangeShapes Go.WideShapes Go.ChangeAt Go.RowKit Peg Go.Sort

set_option maxHeartbeats 40000000 in
set_option maxRecDepth 100000 in
theorem law_any (v : Value) (l : List Int) (w : World) (hv : Rd EBy w v l) (hok : ∀ y ∈ l, ByOk y) :
    Calls Try.prog 4 #[v] w fun e w' => e = .returned (.bool true) ∧ Below w.heap.size w w' := by
  by_cases hl : 1048576 < l.length
  · have HB : Hid (∀ W, Rd EBy W v l → Calls Try.prog 8 #[v] W fun e w' => e = .returned (.bool true) ∧ W = w') := fun W hW => by have hol := big_any v l W hW; rwa [decide_eq_true (by omega)] at hol
    go_enter Try.func4, Try.ntmps4
    go_wp2_with (go_at_call 8; refine (HB.out _ hv).mono ?_; rintro e w' ⟨rfl, rfl⟩)
    all_goals go_ret
    all_goals exact ⟨by simp, Below.refl _ _⟩
  have HB : Hid (∀ W, Rd EBy W v l → Calls Try.prog 8 #[v] W fun e w' => e = .returned (.bool false) ∧ W = w') := fun W hW => by have hol := big_any v l W hW; rwa [decide_eq_false (by omega)] at hol
  have HV := Lib.hid hv
  have HDS := Lib.hid (DrawShort_any v l w hv hok (by omega))
  have HDP := Lib.hid (fun W (hW : Below w.heap.size w W) => DrawPuzzle_any v l W (hv.keep hW) hok (by omega))
  have HAT := Lib.hid (fun (k : Nat) (hk : k ≤ 1000) W (hW : Below w.heap.size w W) => at_val v l k hk W (hv.keep hW) hok)
  have HAB := Lib.hid (fun k => atOf_bd hok k)
  clear hv hok
  go_enter Try.func4, Try.ntmps4
  go_wp2_with (go_at_call 8; refine (HB.out _ HV.out).mono ?_; rintro e w' ⟨rfl, rfl⟩)
  refine HDS.out.mono ?_
  rintro e w1 ⟨⟨a, b, o, s, g, J, rfl, hsm, hps, hpg, hpt, hJ⟩, hb1⟩
  have hz1 := hb1.size
  have hsol := short_solv hsm hps hpg hpt
  have hrs : reach a b o s g false = true := by have h := hsol; simp only [isSolvable, Bool.and_eq_true] at h; exact h.2
  have hpz : puzzleOk a b o s g = true := by simp [puzzleOk, hsm, hps, hpg]
  have hs9 : s ≤ 9223372036854775807 := by have := pos_lt hps; omega
  have hg9 : g ≤ 9223372036854775807 := by have := pos_lt hpg; omega
  obtain ⟨hw5, hpd⟩ := short_len hsm hps hpg hpt hJ
  have HCS : Hid (∀ W, Calls Try.prog 10 #[.agg #[.int .i64 a, .int .i64 b, .int .i64 o, .int .i64 s, .int .i64 g]] W fun e w' => e = .returned (.int .i64 (spoils a b o s g)) ∧ Below W.heap.size W w') := fun W => CountSpoils_any a b o s g hs9 hg9 W
  have HDF : Hid (∀ W, Calls Try.prog 11 #[.agg #[.int .i64 a, .int .i64 b, .int .i64 o, .int .i64 s, .int .i64 g]] W fun e w' => e = .returned (.int .i64 (spoils a b o s g + ((wayTo a b o s g).length : Int))) ∧ Below W.heap.size W w') := fun W => by
    have h := DifficultyOf_any a b o s g hs9 hg9 W
    rwa [short_diff hsol] at h
  have HWT : Hid (∀ W, Calls Try.prog 12 #[.agg #[.int .i64 a, .int .i64 b, .int .i64 o], .int .i64 s, .int .i64 g] W fun e w' => ∃ v, e = .returned (.tuple #[v, .bool true]) ∧ Own ELine w' W.heap.size v (wayTo a b o s g) ∧ Below W.heap.size W w') := fun W => by
    have h := sWayTo_any a b o s g hs9 hg9 W
    unfold RetWay at h
    rwa [hrs] at h
  have HHO : Hid (∀ W, Calls Try.prog 7 #[.agg #[.int .i64 a, .int .i64 b, .int .i64 o, .int .i64 s, .int .i64 g]] W fun e w' => e = .returned (.bool (hasOne a b o s g)) ∧ Below W.heap.size W w') := fun W => HasOneWay_any a b o s g hs9 hg9 W
  have HGM : Hid (∀ W, Calls Try.prog 13 #[.agg #[.int .i64 a, .int .i64 b, .int .i64 o], .int .i64 s, .int .i64 g] W fun e w' => e = .returned (.int .i64 (games a b o g s : Nat)) ∧ Below W.heap.size W w') := fun W => sCountGames_of a b o s g hsm hps hpg (fun W => l22Ways_any a b o s g hsm hps hpg W) W
  have HPO : Hid (∀ W, Calls Try.prog 14 #[.agg #[.int .i64 a, .int .i64 b, .int .i64 o, .int .i64 s, .int .i64 g]] W fun e w' => e = .returned (.bool true) ∧ Below W.heap.size W w') := fun W => by rw [← hpz]; exact PuzzleOk_any a b o s g hs9 hg9 W
  have HSO : Hid (∀ W, Calls Try.prog 15 #[.agg #[.int .i64 a, .int .i64 b, .int .i64 o, .int .i64 s, .int .i64 g]] W fun e w' => e = .returned (.bool true) ∧ Below W.heap.size W w') := fun W => by rw [← hsol]; exact IsSolvable_any a b o s g hs9 hg9 W
  have HSB : Hid (∀ (W : World) (B : Nat) (x : Value), Own ELine W B x (wayTo a b o s g) → Calls Try.prog 16 #[.agg #[.int .i64 a, .int .i64 b, .int .i64 o, .int .i64 s, .int .i64 g], x] W fun e w' => e = .returned (.bool true) ∧ Below W.heap.size W w') := fun W B x h => by rw [← short_solved hsol hw5]; exact IsSolvedBy_any a b o s g _ x hs9 hg9 W h
  have HCO : Hid (∀ (W : World) (B : Nat) (x : Value), Own ELine W B x (wayTo a b o s g) → Calls Try.prog 17 #[x] W fun e w' => e = .returned (.int .i64 (ordersOf (wayTo a b o s g) : Nat)) ∧ Below W.heap.size W w') := fun W B x h => CountOrders_any _ x (by omega) W h
  have HG1 : Hid (games a b o g s = 1 → hasOne a b o s g = true) := fun h => one_game hsol h hpd
  have HG2 : Hid (hasOne a b o s g = true → games a b o g s ≤ ordersOf (wayTo a b o s g)) := one_orders
  have hgb := games_fits (g := g) hsm hps
  have hsb := spoils_bd a b o s g
  have HJO : Hid (∀ q, posOk a b o q = true → ∀ W, Calls Try.prog 20 #[.agg #[.int .i64 a, .int .i64 b, .int .i64 o], .int .i64 q] W (RetLines W (jumpsOf a b o q))) := fun q h W => sJumpsOf_any a b o q (by have := pos_lt h; omega) W
  have HIS : Hid (∀ (q : Int) (x : Ln), posOk a b o q = true → ∀ W, Calls Try.prog 22 #[.agg #[.int .i64 a, .int .i64 b, .int .i64 o], .int .i64 q, .int .i64 g, .agg #[.int .i64 x.f, .int .i64 x.o, .int .i64 x.t]] W fun e w' => e = .returned (.bool (isSpoiled a b o q g x)) ∧ Below W.heap.size W w') := fun q x h W => sIsSpoiled_any a b o q g x (by have := pos_lt h; omega) hg9 W
  have HDJ : Hid (∀ (q : Int) (x : Ln), x ∈ jumpsOf a b o q → ∀ W, Calls Try.prog 23 #[.agg #[.int .i64 a, .int .i64 b, .int .i64 o], .int .i64 q, .agg #[.int .i64 x.f, .int .i64 x.o, .int .i64 x.t]] W fun e w' => e = .returned (.tuple #[.int .i64 (flip q x), .bool (doOk false a b o q x)]) ∧ Below W.heap.size W w') := fun q x h W => by
    rw [← jumps_do h]
    exact sDoJump_any a b o q x (by have := pos_lt (jumps_mem h).1; omega) W
  have HCR : Hid (∀ q, posOk a b o q = true → ∀ W, Calls Try.prog 19 #[.agg #[.int .i64 a, .int .i64 b, .int .i64 o], .int .i64 q, .int .i64 g] W fun e w' => e = .returned (.bool (reach a b o q g false)) ∧ Below W.heap.size W w') := fun q h W => sCanReach_any a b o q g (by have := pos_lt h; omega) hg9 W
  have HAL0 := Lib.hid (along_start hsol)
  have HFL : Hid (∀ (q : Int) (x : Ln), x ∈ jumpsOf a b o q → posOk a b o (flip q x) = true) := fun q x h => jumps_pos h
  have HALE : Hid (∀ q z, Along a b o s g q z → 0 ≤ z ∧ z ≤ spoils a b o s g ∧ posOk a b o q = true) := fun q z h => ⟨h.le.1, h.le.2, h.pos⟩
  have HALO : Hid (∀ q z x, Along a b o s g q z → x ∈ jumpsOf a b o q → reach a b o (flip q x) g false = false → 0 < spoils a b o s g) := fun q z x h h2 h3 => h.lost h2 h3
  generalize spoils a b o s g = n at *
  generalize games a b o g s = G at *
  generalize hasOne a b o s g = one at *
  have HW5 := Lib.hid hw5
  generalize hWL : wayTo a b o s g = WL at *
  generalize ordersOf WL = O at *
  have HBT : Hid (∀ x W, Calls Try.prog 21 #[.bool x] W fun e w' => e = .returned (.int .i64 (if x = true then 1 else 0)) ∧ Below W.heap.size W w') := fun x W => (btoi_any x W).mono fun e w' h => ⟨h.1, h.2 ▸ Below.refl _ _⟩
  obtain ⟨w2, hw2⟩ : ∃ w2 : World, w2 = w1.alloc (.cells #[.int .i64 a, .int .i64 b, .int .i64 o, .int .i64 s, .int .i64 g] 29) := ⟨_, rfl⟩
  have hB2 : Below w1.heap.size w1 w2 := by rw [hw2]; exact (Below.refl _ _).alloc (Nat.le_refl _) _
  have hz2 : w2.heap.size = w1.heap.size + 1 := by rw [hw2]; simp
  have HX2 : Hid (BoxAt w2 w1.heap.size #[.int .i64 a, .int .i64 b, .int .i64 o, .int .i64 s, .int .i64 g]) := by rw [hw2]; exact BoxAt.new w1 _ _
  have HBOX : Hid (∀ W', Below w2.heap.size w2 W' → BoxAt W' w1.heap.size #[.int .i64 a, .int .i64 b, .int .i64 o, .int .i64 s, .int .i64 g]) := fun W' h => HX2.out.keep h
  have HB2 := Lib.hid (hb1.trans (hB2.mono hz1))
  clear hb1 hB2 HX2 hsm hps hpg hpt hJ hsol hrs hpz hs9 hg9 hw5 hpd hWL HDS HB HV
  obtain ⟨x1, x2, x3⟩ := HBOX.out _ (Below.refl _ _)
  go_upto_region 4 with fail
  rw [← hw2]
  clear hw2
  go_wp2_with fail
  refine (HCS.out w2).mono ?_
  rintro e w3 ⟨rfl, hb3⟩
  have HB3 := Lib.hid hb3
  clear x1 x2 x3 hb3
  obtain ⟨x1, x2, x3⟩ := HBOX.out _ HB3.out
  go_wp2_with fail
  refine (HDF.out w3).mono ?_
  rintro e w4 ⟨rfl, hb4⟩
  have HB4 := Lib.hid (HB3.out.trans (hb4.mono HB3.out.size))
  clear x1 x2 x3 hb4
  obtain ⟨x1, x2, x3⟩ := HBOX.out _ HB4.out
  go_wp2_with fail
  refine (HWT.out w4).mono ?_
  rintro e w5 ⟨vW, rfl, ow5, hb5⟩
  have HB5 := Lib.hid (HB4.out.trans (hb5.mono HB4.out.size))
  clear x1 x2 x3 hb5
  obtain ⟨x1, x2, x3⟩ := HBOX.out _ HB5.out
  obtain ⟨aW, cW, rfl, hnW, -⟩ := ow5.lineG
  have HOW : Hid (∀ W', Below w5.heap.size w5 W' → Own ELine W' w4.heap.size (.slice aW WL.length cW) WL) := fun W' h => ow5.keep h
  have HSB5 : Hid (∀ W', Below w5.heap.size w5 W' → Calls Try.prog 16 #[.agg #[.int .i64 a, .int .i64 b, .int .i64 o, .int .i64 s, .int .i64 g], .slice aW WL.length cW] W' fun e w' => e = .returned (.bool true) ∧ Below W'.heap.size W' w') := fun W' h => HSB.out W' _ _ (HOW.out W' h)
  have HCO5 : Hid (∀ W', Below w5.heap.size w5 W' → Calls Try.prog 17 #[.slice aW WL.length cW] W' fun e w' => e = .returned (.int .i64 (O : Nat)) ∧ Below W'.heap.size W' w') := fun W' h => HCO.out W' _ _ (HOW.out W' h)
  have hW5 := HW5.out
  clear ow5 HSB HCO HOW HCS HDF HWT HW5
  generalize WL.length = m5 at *
  go_wp2_with fail
  refine (HHO.out w5).mono ?_
  rintro e w6 ⟨rfl, hb6⟩
  have HW6 := Lib.hid hb6
  have HB6 := Lib.hid (HB5.out.trans (hb6.mono HB5.out.size))
  clear x1 x2 x3 hb6
  obtain ⟨x1, x2, x3⟩ := HBOX.out _ HB6.out
  go_wp2_with fail
  refine (HGM.out w6).mono ?_
  rintro e w7 ⟨rfl, hb7⟩
  have HWB := Lib.hid (HW6.out.trans (hb7.mono HW6.out.size))
  clear x1 x2 x3 hb7 HHO HGM HB6 HW6
  have HBX5 : Hid (∀ W', Below w5.heap.size w5 W' → BoxAt W' w1.heap.size #[.int .i64 a, .int .i64 b, .int .i64 o, .int .i64 s, .int .i64 g]) := fun W' h => HBOX.out W' (HB5.out.trans (h.mono HB5.out.size))
  obtain ⟨x1, x2, x3⟩ := HBX5.out _ HWB.out
  have hw25 := HB5.out.size
  go_upto_region 9 with fail
  go_cut [85] (fun u wx => u = .bool false ∧ Hid (Below w5.heap.size w5 wx))
  case first =>
    as_aux_lemma =>
      have hn0 : decide (n < 0) = false := by simp; omega
      have hwr : IntKind.i64.wrap (n + (m5 : Int)) = n + (m5 : Int) := IntWalk.i64_in _ (by omega)
      have hdq : (n + (m5 : Int) != n + (m5 : Int)) = false := by simp
      cases one
      · have hG : ((G : Int) == 1) = false := by
          rw [beq_eq_false_iff_ne]
          intro h
          have := HG1.out (by omega)
          cases this
        go_wp2_with (first | (go_at_call 14; refine (HPO.out _).mono ?_; rintro e w' ⟨rfl, hb⟩; replace HWB := Lib.hid (HWB.out.trans (hb.mono HWB.out.size)); obtain ⟨x1, x2, x3⟩ := HBX5.out _ HWB.out; clear hb) | (go_at_call 15; refine (HSO.out _).mono ?_; rintro e w' ⟨rfl, hb⟩; replace HWB := Lib.hid (HWB.out.trans (hb.mono HWB.out.size)); obtain ⟨x1, x2, x3⟩ := HBX5.out _ HWB.out; clear hb) | (go_at_call 16; refine (HSB5.out _ HWB.out).mono ?_; rintro e w' ⟨rfl, hb⟩; replace HWB := Lib.hid (HWB.out.trans (hb.mono HWB.out.size)); clear hb))
        all_goals (go_meet; case rel => exact ⟨rfl, HWB⟩)
      · have hO := HG2.out rfl
        have hO2 : decide ((O : Int) < (G : Int)) = false := by simp; omega
        have hO3 : decide (O < G) = false := by simp; omega
        cases hG : ((G : Int) == 1)
        all_goals go_wp2_with (first | (go_at_call 14; refine (HPO.out _).mono ?_; rintro e w' ⟨rfl, hb⟩; replace HWB := Lib.hid (HWB.out.trans (hb.mono HWB.out.size)); obtain ⟨x1, x2, x3⟩ := HBX5.out _ HWB.out; clear hb) | (go_at_call 15; refine (HSO.out _).mono ?_; rintro e w' ⟨rfl, hb⟩; replace HWB := Lib.hid (HWB.out.trans (hb.mono HWB.out.size)); obtain ⟨x1, x2, x3⟩ := HBX5.out _ HWB.out; clear hb) | (go_at_call 16; refine (HSB5.out _ HWB.out).mono ?_; rintro e w' ⟨rfl, hb⟩; replace HWB := Lib.hid (HWB.out.trans (hb.mono HWB.out.size)); clear hb) | (go_at_call 17; refine (HCO5.out _ HWB.out).mono ?_; rintro e w' ⟨rfl, hb⟩; replace HWB := Lib.hid (HWB.out.trans (hb.mono HWB.out.size)); clear hb))
        all_goals (go_meet; case rel => exact ⟨rfl, HWB⟩)
  obtain ⟨rfl, hbc⟩ := hcut
  obtain ⟨w8, rfl⟩ : ∃ w8 : World, w8 = wc := ⟨_, rfl⟩
  have HB8 := Lib.hid (HB5.out.trans (hbc.out.mono hw25))
  have hz8 := HB8.out.size
  have HBW8 := Lib.hid (HB2.out.trans (HB8.out.mono HB2.out.size))
  clear hbc x1 x2 x3 HWB HBX5 HSB5 HCO5 HPO HSO HG1 HG2 hgb
  go_wp2_with fail
  refine (HDP.out w8 HBW8.out).mono ?_
  rintro e w9 ⟨⟨a2, b2, o2, s2, g2, rfl, hpz2⟩, hb9⟩
  have hz9 := hb9.size
  have hps2 : posOk a2 b2 o2 s2 = true := by simp [puzzleOk] at hpz2; exact hpz2.1.2
  have hpg2 : posOk a2 b2 o2 g2 = true := by simp [puzzleOk] at hpz2; exact hpz2.2
  have hs92 : s2 ≤ 9223372036854775807 := by have := pos_lt hps2; omega
  have hg92 : g2 ≤ 9223372036854775807 := by have := pos_lt hpg2; omega
  have hS2 : isSolvable a2 b2 o2 s2 g2 = reach a2 b2 o2 s2 g2 false := by unfold isSolvable; rw [hpz2]; rfl
  have HS2 : Hid (∀ W, Calls Try.prog 15 #[.agg #[.int .i64 a2, .int .i64 b2, .int .i64 o2, .int .i64 s2, .int .i64 g2]] W fun e w' => e = .returned (.bool (reach a2 b2 o2 s2 g2 false)) ∧ Below W.heap.size W w') := fun W => by rw [← hS2]; exact IsSolvable_any a2 b2 o2 s2 g2 hs92 hg92 W
  have HC2 : Hid (∀ W, Calls Try.prog 19 #[.agg #[.int .i64 a2, .int .i64 b2, .int .i64 o2], .int .i64 s2, .int .i64 g2] W fun e w' => e = .returned (.bool (reach a2 b2 o2 s2 g2 false)) ∧ Below W.heap.size W w') := fun W => sCanReach_any a2 b2 o2 s2 g2 hs92 hg92 W
  have HD2 : Hid (∀ W, Calls Try.prog 11 #[.agg #[.int .i64 a2, .int .i64 b2, .int .i64 o2, .int .i64 s2, .int .i64 g2]] W fun e w' => e = .returned (.int .i64 (difficulty a2 b2 o2 s2 g2)) ∧ Below W.heap.size W w') := fun W => DifficultyOf_any a2 b2 o2 s2 g2 hs92 hg92 W
  have HDY : Hid (reach a2 b2 o2 s2 g2 false = true → 0 ≤ difficulty a2 b2 o2 s2 g2) := fun h => diff_yes (by rw [hS2]; exact h)
  have HDN : Hid (reach a2 b2 o2 s2 g2 false = false → difficulty a2 b2 o2 s2 g2 < 0) := fun h => by rw [diff_no (by rw [hS2]; exact h)]; omega
  generalize reach a2 b2 o2 s2 g2 false = r2 at *
  generalize difficulty a2 b2 o2 s2 g2 = d2 at *
  obtain ⟨w10, hw10⟩ : ∃ w10 : World, w10 = w9.alloc (.cells #[.int .i64 a2, .int .i64 b2, .int .i64 o2, .int .i64 s2, .int .i64 g2] 29) := ⟨_, rfl⟩
  have hB10 : Below w9.heap.size w9 w10 := by rw [hw10]; exact (Below.refl _ _).alloc (Nat.le_refl _) _
  have hz10 : w10.heap.size = w9.heap.size + 1 := by rw [hw10]; simp
  have HY10 : Hid (BoxAt w10 w9.heap.size #[.int .i64 a2, .int .i64 b2, .int .i64 o2, .int .i64 s2, .int .i64 g2]) := by rw [hw10]; exact BoxAt.new w9 _ _
  have HB10 := Lib.hid (HB8.out.trans ((hb9.trans (hB10.mono hz9)).mono hz8))
  obtain ⟨x1, x2, x3⟩ := HBOX.out _ HB10.out
  obtain ⟨y1, y2, y3⟩ := HY10.out
  clear hb9 hB10 hpz2 hps2 hpg2 hs92 hg92 hS2 HDP
  go_upto_region 12 with fail
  rw [← hw10]
  clear hw10
  go_cut [105] (fun u wx => u = .bool false ∧ Hid (Below w10.heap.size w10 wx))
  case first =>
    as_aux_lemma =>
      cases r2
      · have hd1 := HDN.out rfl
        have hd2 : decide (d2 < 0) = true := by simpa using hd1
        (with_reducible refine wp_region_qb ?_ ?_ (fun hq => ?_)); (focus kernel_rfl); (focus kernel_rfl); (repeat (go_big_quiet_step ((first | (go_at_call 15; exact Calls.regrown_of (HS2.out _)) | (go_at_call 19; exact Calls.regrown_of (HC2.out _)) | (go_at_call 11; exact Calls.regrown_of (HD2.out _)))))); refine wpQuiet_nil ?_; intro wz hb; go_wp2_with fail; go_meet; (case rel => exact ⟨rfl, hb⟩)
      · have hd1 := HDY.out rfl
        have hd2 : decide (d2 < 0) = false := by simpa using hd1
        (with_reducible refine wp_region_qb ?_ ?_ (fun hq => ?_)); (focus kernel_rfl); (focus kernel_rfl); (repeat (go_big_quiet_step ((first | (go_at_call 15; exact Calls.regrown_of (HS2.out _)) | (go_at_call 19; exact Calls.regrown_of (HC2.out _)) | (go_at_call 11; exact Calls.regrown_of (HD2.out _)))))); refine wpQuiet_nil ?_; intro wz hb; go_wp2_with fail; go_meet; (case rel => exact ⟨rfl, hb⟩)
  obtain ⟨rfl, hbc⟩ := hcut
  obtain ⟨w11, rfl⟩ : ∃ w11 : World, w11 = wc := ⟨_, rfl⟩
  have HB11 := Lib.hid (HB10.out.trans (hbc.out.mono HB10.out.size))
  have HK : Hid (∀ W', Below w11.heap.size w11 W' → Below w.heap.size w W' ∧ BoxAt W' w1.heap.size #[.int .i64 a, .int .i64 b, .int .i64 o, .int .i64 s, .int .i64 g]) := fun W' h => by
    have h2 := HB11.out.trans (h.mono HB11.out.size)
    exact ⟨HB2.out.trans (h2.mono HB2.out.size), HBOX.out W' h2⟩
  clear hbc x1 x2 x3 y1 y2 y3 HY10 HS2 HC2 HD2 HDY HDN HBOX HB2 HB3 HB4 HB5 HB8 HB10 HB11 HBW8
  clear hz1 hz2 hz8 hz9 hz10 hw25 hnW hW5
  have hk0 := HK.out _ (Below.refl _ _)
  obtain ⟨hb0, x1, x2, x3⟩ := hk0
  have HZ0 := Lib.hid hb0
  clear hb0
  go_wp2_with fail
  go_loopw [11, 12, 13] (fun now sp i wr => ∃ (q z : Int) (k : Nat), k ≤ 8 ∧ now = .int .i64 q ∧ sp = .int .i64 z ∧ i = .int .i64 k ∧ Hid (Along a b o s g q z) ∧ Hid (Below w11.heap.size w11 wr)) (fun _ _ i _ => 8 - (intOf i).toNat)
  case atStart => exact ⟨s, 0, 0, by omega, rfl, rfl, rfl, HAL0, Below.refl _ _⟩
  case round =>
    obtain ⟨q, z, k, hk, rfl, rfl, rfl, HAL, HBr⟩ := hrel
    clear x1 x2 x3 HZ0 HAL0
    obtain ⟨hbw, x1, x2, x3⟩ := HK.out wr HBr.out
    have HBW := Lib.hid hbw
    obtain ⟨hz0, hzn, hpq⟩ := HALE.out q z HAL.out
    clear hbw
    by_cases hk8 : k < 8
    · have hk8' : decide ((k : Int) < 8) = true := decide_eq_true (by omega)
      by_cases hqg : q = g
      · have hq1 : (q != g) = false := by simp [hqg]
        have HQ := Lib.hid hqg
        clear hqg
        go_wp2_with fail
        go_ret
        exact ⟨by first | (simp; done) | (simp; omega), HBW.out⟩
      · have hq1 : (q != g) = true := by simp [hqg]
        have hML := HAL.out.some hqg
        have HJQ := Lib.hid (HJO.out q hpq)
        have HISq := Lib.hid (fun x => HIS.out q x hpq)
        have HDJq := Lib.hid (fun x h => HDJ.out q x h)
        clear hqg
        go_wp2_with fail
        refine (HJQ.out wr).mono ?_
        rintro e w12 ⟨vM, rfl, ow, hb12⟩
        obtain ⟨aM, cM, rfl, hnM, hgM⟩ := ow.lineG
        have HGL := Lib.hid hgM
        have HB12 := Lib.hid (HBr.out.trans (hb12.mono HBr.out.size))
        have hM196 := jumpsL_le a b o q
        clear ow hgM hb12 x1 x2 x3 HBW HJQ
        obtain ⟨hbw, x1, x2, x3⟩ := HK.out w12 HB12.out
        have HBW := Lib.hid hbw
        clear hbw
        generalize hM : jumpsOf a b o q = M at *
        have HSN : Hid (∀ j, j < M.length → spoilNo a b o q g (j + 1) = spoilNo a b o q g j + (if isSpoiled a b o q g (gD M Ln0 j) = true then 1 else 0)) := fun j h => spoilNo_next hM.symm h
        have HSTEP : Hid (∀ x, x ∈ M → reach a b o (flip q x) g false = true → Along a b o s g (flip q x) (z + spoilNo a b o q g M.length)) := fun x hx hr => by
          have h := HAL.out.step (l := x) (by rw [hM]; exact hx) hr
          rwa [← spoilNo_end hM.symm] at h
        have HLOST : Hid (∀ x, x ∈ M → reach a b o (flip q x) g false = false → 0 < n) := fun x hx hr => HALO.out q z x HAL.out (by rw [hM]; exact hx) hr
        have HFLq : Hid (∀ x, x ∈ M → posOk a b o (flip q x) = true) := fun x hx => HFL.out q x (by rw [hM]; exact hx)
        have HS0 := Lib.hid (spoilNo_0 a b o q g)
        have HSB := Lib.hid (spoilNo_bd a b o q g)
        generalize spoilNo a b o q g = S at *
        clear hM HAL HALO HFL HALE HJO HIS HDJ
        have hm0 : ((M.length : Int) == 0) = false := by rw [beq_eq_false_iff_ne]; omega
        have hk8n : k < 8 := hk8
        go_wp2_with fail
        go_loopw [12, 15] (fun sp i wz => ∃ j : Nat, j ≤ M.length ∧ i = .int .i64 j ∧ sp = .int .i64 (z + S j) ∧ Hid (Below w12.heap.size w12 wz)) (fun _ i _ => M.length - (intOf i).toNat)
        case atStart => exact ⟨0, by omega, rfl, by rw [HS0.out]; simp, Below.refl _ _⟩
        case round =>
          obtain ⟨j, hj, rfl, rfl, HBz⟩ := hrel
          obtain ⟨wz, rfl⟩ : ∃ wz : World, wz = wr := ⟨_, rfl⟩
          have HBWz := Lib.hid (HB12.out.trans (HBz.out.mono HB12.out.size))
          have hzz := HBz.out.size
          clear x1 x2 x3
          obtain ⟨hbw, x1, x2, x3⟩ := HK.out wz HBWz.out
          have HBZ0 := Lib.hid hbw
          clear hbw
          obtain ⟨hs0, hs1⟩ := HSB.out j
          by_cases hjm : j < M.length
          · have hjm' : decide ((j : Int) < (M.length : Int)) = true := decide_eq_true (by omega)
            obtain ⟨bM, rfl, hbM0, hbM1, c0, c1, c2⟩ := HGL.out j hjm
            have d0 := (HBz.out.cell (p := ⟨bM, j * 3, none⟩) hbM1).trans c0
            have d1 := (HBz.out.cell (p := ⟨bM, j * 3 + 1, none⟩) hbM1).trans c1
            have d2 := (HBz.out.cell (p := ⟨bM, j * 3 + 2, none⟩) hbM1).trans c2
            have hbMz : bM < wz.heap.size := by omega
            have hXz : w1.heap.size < wz.heap.size := x1
            have HSj := Lib.hid (HSN.out j hjm)
            have HISj := Lib.hid (HISq.out (gD M Ln0 j))
            clear c0 c1 c2 HSN HISq HGL HSTEP HLOST HDJq HFLq HAT HAB
            generalize gD M Ln0 j = x at *
            generalize isSpoiled a b o q g x = sp at *
            have HBT1 := Lib.hid (HBT.out sp)
            obtain ⟨y, hy⟩ : ∃ y, y = z + S j := ⟨_, rfl⟩
            have HY := Lib.hid hy
            rw [← hy]
            have hy0 : 0 ≤ y := by omega
            have hy1 : y ≤ 12845300 := by omega
            clear hy
            obtain ⟨u, hu⟩ : ∃ u : Int, u = (if sp = true then 1 else 0) := ⟨_, rfl⟩
            have hu1 : 0 ≤ u ∧ u ≤ 1 := by rw [hu]; split <;> omega
            rw [← hu] at HBT1 HSj
            have hwr : IntKind.i64.wrap (y + u) = y + u := IntWalk.i64_in _ (by omega)
            clear hu hs0 hs1 hz0 hzn hM196
            go_upto_region 25 with fail
            (with_reducible refine wp_region_qb ?_ ?_ (fun hq => ?_)); (focus kernel_rfl); (focus kernel_rfl); (repeat (go_big_quiet_step ((first | (go_at_call 22; exact Calls.regrown_of (HISj.out _)) | (go_at_call 21; exact Calls.regrown_of (HBT1.out _)))))); refine wpQuiet_nil ?_; intro wq hbq
            have HBE := Lib.hid (HBz.out.trans (hbq.mono hzz))
            clear hq hbq
            go_wp2_with fail
            go_roundw
            case rel => exact ⟨j + 1, by omega, by go_num, by rw [HSj.out, ← Int.add_assoc, ← HY.out], HBE.out⟩
            case measure => simp [intOf]; omega
          · obtain rfl : j = M.length := by omega
            have HATk := Lib.hid (fun W (h : Below wz.heap.size wz W) => HAT.out k (by omega) W (HBZ0.out.trans (h.mono HBZ0.out.size)))
            obtain ⟨hx0, hx1⟩ := HAB.out k
            generalize atOf l k = x5 at *
            obtain ⟨r, hr⟩ : ∃ r : Nat, x5 % (M.length : Int) = (r : Int) := ⟨(x5 % (M.length : Int)).toNat, by have := Int.emod_nonneg x5 (show (M.length : Int) ≠ 0 by omega); omega⟩
            have hr2 : r < M.length := by have := Int.emod_lt_of_pos x5 (show (0 : Int) < (M.length : Int) by omega); omega
            obtain ⟨bM, rfl, hbM0, hbM1, c0, c1, c2⟩ := HGL.out r hr2
            have d0 := (HBz.out.cell (p := ⟨bM, r * 3, none⟩) hbM1).trans c0
            have d1 := (HBz.out.cell (p := ⟨bM, r * 3 + 1, none⟩) hbM1).trans c1
            have d2 := (HBz.out.cell (p := ⟨bM, r * 3 + 2, none⟩) hbM1).trans c2
            have hbMz : bM < wz.heap.size := by omega
            have hXz : w1.heap.size < wz.heap.size := x1
            have hin := line_at hr2
            have HDJr := Lib.hid (HDJq.out _ hin)
            have HST := Lib.hid (HSTEP.out _ hin)
            have HLO := Lib.hid (HLOST.out _ hin)
            have HCRx := Lib.hid (HCR.out _ (HFLq.out _ hin))
            clear c0 c1 c2 HSN HISq HGL HSTEP HLOST HDJq HFLq HAT HAB hin
            generalize gD M Ln0 r = x at *
            generalize doOk false a b o q x = dk at *
            generalize flip q x = y at *
            generalize reach a b o y g false = ry at *
            have hm1 : (M.length : Int) ≠ 0 := by omega
            have hjm' : decide ((M.length : Int) < (M.length : Int)) = false := by simp
            go_upto_region 26 with fail
            (with_reducible refine wp_region_qb ?_ ?_ (fun hq => ?_)); (focus kernel_rfl); (focus kernel_rfl); (repeat (go_big_quiet_step ((first | (go_at_call 24; exact calls_qp (HATk.out _ (below_regrown _ _ _))) | (go_at_call 23; exact Calls.regrown_of (HDJr.out _)))))); refine wpQuiet_nil ?_; intro wq hbq
            have HBq := Lib.hid (HBWz.out.trans (hbq.mono HBWz.out.size))
            clear hq hbq x1 x2 x3 d0 d1 d2
            obtain ⟨hbw, x1, x2, x3⟩ := HK.out wq HBq.out
            clear hbw
            go_wp2_with fail
            refine (HCRx.out wq).mono ?_
            rintro e w13 ⟨rfl, hb13⟩
            have HB13 := Lib.hid (HBq.out.trans (hb13.mono HBq.out.size))
            clear hb13 x1 x2 x3
            obtain ⟨hbw, x1, x2, x3⟩ := HK.out w13 HB13.out
            have HBF := Lib.hid hbw
            clear hbw
            cases ry
            · have hn1 := HLO.out rfl
              have hd : decide (0 < n) = true := by simpa using hn1
              go_wp2_with fail
              go_ret
              exact ⟨by first | (simp; done) | (simp; omega), HBF.out⟩
            · have HAy := Lib.hid (HST.out rfl)
              go_wp2_with fail
              go_roundw
              case rel => exact ⟨y, _, k + 1, by omega, rfl, rfl, by go_num, HAy.out, HB13.out⟩
              case measure => simp [intOf]; omega
    · obtain rfl : k = 8 := by omega
      go_wp2_with fail
      go_ret
      exact ⟨by first | (simp; done) | (simp; omega), HBW.out⟩

set_option maxRecDepth 100000 in
theorem law_walk : LawWalk 4 Try.f4.params.toList := by
  intro H enc W base args ds ps hval hA
  rw [Try.params4] at hA hval
  obtain ⟨v0, vs0, d0, ds0, p0, q0, hargs, rfl, rfl, h0, r0⟩ := trodAll_cons hA
  obtain ⟨rfl, rfl, rfl⟩ := trodAll_nil r0
  obtain rfl : args = #[v0] := by cases args; simp_all
  obtain ⟨l0, rd0, ok0⟩ := arg_ByteS (hval 0 _ _ rfl rfl) h0
  exact law_any v0 l0 W rd0 ok0

set_option maxRecDepth 100000 in
theorem lifted (os : Os) (started : os.Started) (H : Type) (enc : TypeId × Value → H) :
    ReturnsInHanded {} Try.checked os 4 .any (Rows.fnPuzzlesSpec.pre6 enc Try.prog Try.f4 Rows.fnPuzzlesRow.domain false) (Rows.fnPuzzlesSpec.post enc Try.prog Try.f4 false true false false) :=
  law_lift started (by kernel_rfl) Try.func4
    (ChangeSpec.witness6 (enc := enc) (C := Try.checked) false ⟨#[], #[.slice none 0 0], []⟩ 8 (by kernel_rfl) (by kernel_rfl) (by kernel_rfl) (by kernel_rfl))
    rfl rfl (readable_all (by kernel_rfl)) (by intro ds h; match ds, h with | [a0], _ => rfl) law_walk

theorem over : Rows.fnPuzzlesRow.holds Try.pinned (OpenSpec.ofChange Rows.fnPuzzlesSpec) :=
  OpenClaim.holds_of_wide 4 Try.f4 rfl rfl rfl rfl rfl rfl rfl ⟨rfl, rfl, rfl, rfl, rfl⟩ rfl rfl rfl rfl rfl (by kernel_rfl) Try.func4 (by kernel_rfl)
    (of_decide_eq_true (by kernel_rfl)) (by unfold Func.isWrapper; first | (rw [if_pos (by decide +kernel)]; kernel_rfl) | (rw [if_neg (by decide +kernel)]; exact ⟨rfl, rfl⟩))
    (fun os started H enc _ => lifted os started H enc)

theorem proved : Rows.FnPuzzlesSaid := over
#print axioms proved
end Go.Proofs.Ytledmebhlmpjaaa.fnPuzzles
