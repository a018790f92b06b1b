/- Who follows the hints reaches the goal, and the first error is where it becomes impossible, for all drawn codes. No condition. -/
import Derived.Test.YtfpofhkggojaoaaDrawQ
import Derived.Test.YtfpofhkggojaoaaHintsA
import Derived.Test.YtfpofhkggojaoaaOpen
import Derived.Deep.RegionWith
import Derived.Deep.DeepCutAuto
import Derived.Deep.Cut
import Derived.IntWalk
set_option linter.unusedVariables false
set_option linter.unusedSimpArgs false
namespace Go.Proofs.Ytfpofhkggojaoaa.fnHints
open Go.ChangeShapes Go.WideShapes Go.ChangeAt Go.RowKit Peg Go.Sort

theorem box3_set (w : World) (g : Nat) (x0 x1 x2 u0 u1 u2 : Value) (h : ∀ j, w.cell? ⟨g, j, none⟩ = #[x0, x1, x2][j]?) (j : Nat) : (((w.setCell ⟨g, 0, none⟩ u0).setCell ⟨g, 1, none⟩ u1).setCell ⟨g, 2, none⟩ u2).cell? ⟨g, j, none⟩ = #[u0, u1, u2][j]? := by
  have k0 := h 0
  have k1 := h 1
  have k2 := h 2
  simp only [List.getElem?_toArray, List.getElem?_cons_succ, List.getElem?_cons_zero] at k0 k1 k2
  match j with
  | 0 | 1 | 2 => simp [go_sem, *]
  | j + 3 =>
    have k := h (j + 3)
    simp [go_sem] at k ⊢
    exact k
set_option maxHeartbeats 40000000 in
set_option maxRecDepth 100000 in
theorem law_any (v : Value) (l : List Int) (w : World) (hv : Rd EBy w v l) (hok : ∀ y ∈ l, ByOk y) :
    Calls Try.prog 5 #[v] w fun e w' => e = .returned (.bool true) ∧ Below w.heap.size w w' := by
  by_cases hl : 1048576 < l.length
  · have HB : Hid (∀ W, Rd EBy W v l → Calls Try.prog 19 #[v] W fun e w' => e = .returned (.bool true) ∧ W = w') := fun W hW => by have h := big_any v l W hW; rwa [decide_eq_true (by omega)] at h
    go_enter Try.func5, Try.ntmps5
    go_wp2_with (go_at_call 19; refine (HB.out _ hv).mono ?_; rintro e w' ⟨rfl, rfl⟩)
    all_goals go_ret
    all_goals exact ⟨by simp, Below.refl _ _⟩
  have HB : Hid (∀ W, Rd EBy W v l → Calls Try.prog 19 #[v] W fun e w' => e = .returned (.bool false) ∧ W = w') := fun W hW => by have h := big_any v l W hW; rwa [decide_eq_false (by omega)] at h
  have HV := Lib.hid hv
  have HO := Lib.hid hok
  clear hv hok
  go_enter Try.func5, Try.ntmps5
  go_wp2_with (go_at_call 19; refine (HB.out _ HV.out).mono ?_; rintro e w' ⟨rfl, rfl⟩)
  refine (DrawPlayed_any v l w HV.out HO.out (by omega)).mono ?_
  rintro e w1 ⟨a, b, o, s, g, h, u, r, L, vL, rfl, hpz, hpl, h60, hown, hb1⟩
  have hz1 := hb1.size
  have hpz' := hpz
  simp only [puzzleOk, Bool.and_eq_true] at hpz'
  obtain ⟨⟨hsm, hps⟩, hpg⟩ := hpz'
  have hs63 := (pos_lt hps).2
  have hg63 := (pos_lt hpg).2
  obtain ⟨aL, cL, rfl, -, hgL⟩ := hown.lineG
  -- the plain facts
  have HSOL : Hid (∀ W, Calls Try.prog 21 #[.agg #[.int .i64 a, .int .i64 b, .int .i64 o, .int .i64 s, .int .i64 g]] W fun e w' => e = .returned (.bool (isSolvable a b o s g)) ∧ Below W.heap.size W w') := fun W => sIsSolvable_any a b o s g (by omega) (by omega) W
  have HCH : Hid (∀ W, Calls Try.prog 22 #[.agg #[.int .i64 a, .int .i64 b, .int .i64 o, .int .i64 s, .int .i64 g]] W fun e w' => e = .returned (.int .i64 (countHints a b o s g)) ∧ Below W.heap.size W w') := fun W => CountHints_any a b o s g (by omega) (by omega) W
  have HFE : Hid (∀ W, Below w1.heap.size w1 W → Calls Try.prog 23 #[.agg #[.int .i64 a, .int .i64 b, .int .i64 o, .int .i64 s, .int .i64 g], .slice aL L.length cL] W fun e w' => e = .returned (.int .i64 (firstErr a b o s g L)) ∧ Below W.heap.size W w') := fun W hb => FirstError_any a b o s g L _ (by omega) (by omega) W (hown.keep hb)
  have HPO : Hid (∀ W, Below w1.heap.size w1 W → Calls Try.prog 25 #[.agg #[.int .i64 a, .int .i64 b, .int .i64 o], .int .i64 s, .slice aL L.length cL] W (RetInts W (posTo s L L.length))) := fun W hb => by
    have h := sPositionsOf_any a b o s L _ (by omega) W (hown.keep hb)
    rwa [positions_of hps h60 hpl] at h
  have HJB : Hid (isSolvable a b o s g = true → ∀ W, Calls Try.prog 24 #[.agg #[.int .i64 a, .int .i64 b, .int .i64 o], .int .i64 s, .int .i64 g] W fun e w' => e = .returned (.int .i64 ((pegs s : Int) - pegs g)) ∧ Below W.heap.size W w') := fun hsol W => sJumpsBetween_ok a b o s g hps hpg (by simp [isSolvable] at hsol; exact hsol.2) W
  have HCR : Hid (∀ n, posOk a b o n = true → ∀ W, Calls Try.prog 26 #[.agg #[.int .i64 a, .int .i64 b, .int .i64 o], .int .i64 n, .int .i64 g] W fun e w' => e = .returned (.bool (reach a b o n g false)) ∧ Below W.heap.size W w') := fun n hn W => sCanReach_any a b o n g (by have := (pos_lt hn).2; omega) (by omega) W
  have HHF : Hid (∀ n, posOk a b o n = true → ∀ W, Calls Try.prog 27 #[.agg #[.int .i64 a, .int .i64 b, .int .i64 o, .int .i64 s, .int .i64 g], .int .i64 n] W fun e w' => e = .returned (.tuple #[.agg #[.int .i64 ((hints a b o s g n).getD 0 Ln0).f, .int .i64 ((hints a b o s g n).getD 0 Ln0).o, .int .i64 ((hints a b o s g n).getD 0 Ln0).t], .bool (reach a b o n g false && !(n == g))]) ∧ Below W.heap.size W w') := fun n hn W => by
    have h := HintFor_any a b o s g n (by omega) (by omega) (by have := (pos_lt hn).2; omega) W
    rw [hintVal, hints_len hpz hn] at h
    exact h
  have HVH : Hid (∀ n, posOk a b o n = true → ∀ W, Calls Try.prog 28 #[.agg #[.int .i64 a, .int .i64 b, .int .i64 o, .int .i64 s, .int .i64 g], .int .i64 n, .agg #[.int .i64 ((hints a b o s g n).getD 0 Ln0).f, .int .i64 ((hints a b o s g n).getD 0 Ln0).o, .int .i64 ((hints a b o s g n).getD 0 Ln0).t]] W fun e w' => e = .returned (.int .i64 (if n = g then 4 else if reach a b o n g false = true then 1 else 3)) ∧ Below W.heap.size W w') := fun n hn W => by
    have h := VerdictOn_any a b o s g n ((hints a b o s g n).getD 0 Ln0) (by omega) (by omega) (by have := (pos_lt hn).2; omega) W
    rwa [show verdict a b o s g n ((hints a b o s g n).getD 0 Ln0) = _ from hintVerdict_of hpz hn] at h
  have HVS : Hid (∀ k, k < L.length → firstErr a b o s g L = k → posAt s L k ≠ g → ∀ W, Calls Try.prog 28 #[.agg #[.int .i64 a, .int .i64 b, .int .i64 o, .int .i64 s, .int .i64 g], .int .i64 (posAt s L k), .agg #[.int .i64 (gD L Ln0 k).f, .int .i64 (gD L Ln0 k).o, .int .i64 (gD L Ln0 k).t]] W fun e w' => e = .returned (.int .i64 2) ∧ Below W.heap.size W w') := fun k hk he hne W => by
    have h := VerdictOn_any a b o s g (posAt s L k) (gD L Ln0 k) (by omega) (by omega) (by have := (pos_lt (posAt_ok hps hpl (k := k) (by omega))).2; omega) W
    rwa [error_spoils hpz hps h60 hpl hk he hne] at h
  have HPK : Hid (∀ k, k ≤ L.length → posOk a b o (posAt s L k) = true) := fun k hk => posAt_ok hps hpl hk
  have HFC : Hid (0 ≤ firstErr a b o s g L → ∀ k, k ≤ L.length → reach a b o (posAt s L k) g false = decide ((k : Int) ≤ firstErr a b o s g L)) := fun he k hk => first_can hps h60 hpl he hk
  have HFN : Hid (isSolvable a b o s g = false → firstErr a b o s g L = -1) := fun h => first_not h
  have HCS : Hid (isSolvable a b o s g = true → countHints a b o s g = (pegs s : Int) - pegs g ∧ 0 ≤ (pegs s : Int) - pegs g) := fun h => count_sol h
  have HCN : Hid (isSolvable a b o s g = false → countHints a b o s g = -1) := fun h => count_not h
  have hfle := first_le (a := a) (b := b) (o := o) (s := s) (g := g) (L := L)
  have hpe1 := pegs_le s
  have hpe2 := pegs_le g
  have HGL := Lib.hid hgL
  have HPL := Lib.hid (posTo_len s L L.length)
  have HPA := Lib.hid (fun k (hk : k ≤ L.length) => posTo_at s L L.length k hk)
  have HB1 := Lib.hid hb1
  clear hpz hpl hown hgL hb1 hsm hps hpg HB HV HO
  obtain ⟨w2, hw2⟩ : ∃ w2 : World, w2 = (w1.alloc (.cells #[.int .i64 a, .int .i64 b, .int .i64 o, .int .i64 s, .int .i64 g, .slice aL L.length cL, .int .i64 h, .int .i64 u] 43)).alloc (.cells #[.int .i64 a, .int .i64 b, .int .i64 o, .int .i64 s, .int .i64 g] 29) := ⟨_, rfl⟩
  have hb2 : Below w1.heap.size w1 w2 := by rw [hw2]; exact ((Below.refl _ _).alloc (Nat.le_refl _) _).alloc (by simp) _
  have hz2 : w1.heap.size + 1 < w2.heap.size := by rw [hw2]; simp
  have hG2 : ∀ j, w2.cell? ⟨w1.heap.size, j, none⟩ = #[Value.int .i64 a, .int .i64 b, .int .i64 o, .int .i64 s, .int .i64 g, .slice aL L.length cL, .int .i64 h, .int .i64 u][j]? := fun j => by rw [hw2]; simp
  have hX2 : ∀ j, w2.cell? ⟨w1.heap.size + 1, j, none⟩ = #[Value.int .i64 a, .int .i64 b, .int .i64 o, .int .i64 s, .int .i64 g][j]? := fun j => by rw [hw2]; simp
  have HB2 := Lib.hid hb2
  clear hb2
  go_upto_region 5 with fail
  rw [← hw2]
  clear hw2
  have HK : Hid (∀ W, Below w2.heap.size w2 W → Hid (Below w1.heap.size w1 W) ∧ w2.heap.size ≤ W.heap.size ∧ (∀ j, W.cell? ⟨w1.heap.size, j, none⟩ = #[Value.int .i64 a, .int .i64 b, .int .i64 o, .int .i64 s, .int .i64 g, .slice aL L.length cL, .int .i64 h, .int .i64 u][j]?) ∧ (∀ j, W.cell? ⟨w1.heap.size + 1, j, none⟩ = #[Value.int .i64 a, .int .i64 b, .int .i64 o, .int .i64 s, .int .i64 g][j]?)) := fun W hb => ⟨HB2.out.trans (hb.mono (by omega)), hb.size, fun j => (hb.cell (show w1.heap.size < w2.heap.size by omega)).trans (hG2 j), fun j => (hb.cell (show w1.heap.size + 1 < w2.heap.size by omega)).trans (hX2 j)⟩
  go_wp2_with fail
  refine (HSOL.out w2).mono ?_
  rintro e w3 ⟨rfl, hb3⟩
  obtain ⟨hb13, hz3, hG3, hX3⟩ := HK.out w3 hb3
  have HB3 := Lib.hid hb3
  clear hb3 hG2 hX2
  go_wp2_with fail
  refine (HCH.out w3).mono ?_
  rintro e w4 ⟨rfl, hb4⟩
  have HB4 := Lib.hid (HB3.out.trans (hb4.mono HB3.out.size))
  obtain ⟨hb14, hz4, hG4, hX4⟩ := HK.out w4 HB4.out
  clear hb4 hG3 hX3 hb13
  go_wp2_with fail
  refine (HFE.out w4 hb14.out).mono ?_
  rintro e w5 ⟨rfl, hb5⟩
  have HB5 := Lib.hid (HB4.out.trans (hb5.mono HB4.out.size))
  obtain ⟨hb15, hz5, hG5, hX5⟩ := HK.out w5 HB5.out
  clear hb5 hG4 hX4 hb14 HSOL HCH HFE
  generalize firstErr a b o s g L = E at *
  generalize countHints a b o s g = N at *
  generalize isSolvable a b o s g = sol at *
  go_upto_region 8 with fail
  go_cut [53] (fun t wx => t = .bool false ∧ Below w2.heap.size w2 wx)
  case first =>
    as_aux_lemma =>
      cases sol
      · have e1 := HCN.out rfl
        have e2 := HFN.out rfl
        subst e1 e2
        go_wp2_with fail
        go_meet
        case rel => exact ⟨rfl, HB5.out⟩
      · obtain ⟨e1, e2⟩ := HCS.out rfl
        have HJ := Lib.hid (HJB.out rfl)
        rw [← e1] at HJ e2
        clear e1 HCN HFN
        go_wp2_with (go_at_call 24; refine (HJ.out _).mono ?_; rintro e w6 ⟨rfl, hb6⟩; have HB6 := Lib.hid (HB5.out.trans (hb6.mono HB5.out.size)); clear hb6)
        all_goals go_meet
        all_goals (case rel => exact ⟨rfl, HB6.out⟩)
  obtain ⟨rfl, hbc⟩ := hcut
  obtain ⟨w6, rfl⟩ : ∃ w6 : World, w6 = wc := ⟨_, rfl⟩
  obtain ⟨hb16, hz6, hG6, hX6⟩ := HK.out w6 hbc
  have HB6 := Lib.hid hbc
  clear hbc hG5 hX5 hb15 HB3 HB4 HB5 HJB HCS HCN HFN
  go_wp2_with fail
  refine (HPO.out w6 hb16.out).mono ?_
  rintro e w7 ⟨vP, rfl, hownP, hb7⟩
  have HB7 := Lib.hid (HB6.out.trans (hb7.mono HB6.out.size))
  obtain ⟨aP, cP, rfl, -, hgP⟩ := hownP.intG
  have HGP := Lib.hid hgP
  rw [HPL.out]
  clear hb7 hownP hgP hG6 hX6 hb16 HB6 HPO
  go_wp2_with fail
  go_loopw [9] (fun i wr => ∃ k : Nat, k ≤ L.length + 1 ∧ i = .int .i64 k ∧ Below w7.heap.size w7 wr) (fun i _ => L.length + 1 - (intOf i).toNat)
  case atStart => exact ⟨0, by omega, rfl, Below.refl _ _⟩
  case round =>
    obtain ⟨k, hk, rfl, hbr⟩ := hrel
    have hzr := hbr.size
    have HBr := Lib.hid hbr
    obtain ⟨hb1r, hzr2, hGr, hXr⟩ := HK.out wr (HB7.out.trans (hbr.mono HB7.out.size))
    have hz7 := HB7.out.size
    clear hbr
    by_cases hlt : k < L.length + 1
    · obtain ⟨bP, rfl, hbP0, hbP1, hcP⟩ := HGP.out k (by rw [HPL.out]; exact hlt)
      rw [HPA.out k (by omega)] at hcP
      have hcP' : w7.cell? ⟨bP, k, none⟩ = some (.int .i64 (posAt s L k)) := hcP
      have hposk := HPK.out k (by omega)
      have HCRk := Lib.hid (HCR.out _ hposk)
      have HHFk := Lib.hid (HHF.out _ hposk)
      have HVHk := Lib.hid (HVH.out _ hposk)
      have HFCk := Lib.hid (fun he => HFC.out he k (by omega))
      have HVSk := Lib.hid (fun hk he hne => HVS.out k hk he hne)
      have HKr : Hid (∀ W, Below wr.heap.size wr W → Hid (Below w7.heap.size w7 W) ∧ wr.heap.size ≤ W.heap.size ∧ W.cell? ⟨bP, k, none⟩ = some (.int .i64 (posAt s L k)) ∧ (∀ j, W.cell? ⟨w1.heap.size, j, none⟩ = #[Value.int .i64 a, .int .i64 b, .int .i64 o, .int .i64 s, .int .i64 g, .slice aL L.length cL, .int .i64 h, .int .i64 u][j]?) ∧ (∀ j, W.cell? ⟨w1.heap.size + 1, j, none⟩ = #[Value.int .i64 a, .int .i64 b, .int .i64 o, .int .i64 s, .int .i64 g][j]?)) := fun W hb => ⟨HBr.out.trans (hb.mono hzr), hb.size, (hb.cell (show bP < wr.heap.size by omega)).trans ((HBr.out.cell (show bP < w7.heap.size by omega)).trans hcP'), fun j => (hb.cell (show w1.heap.size < wr.heap.size by omega)).trans (hGr j), fun j => (hb.cell (show w1.heap.size + 1 < wr.heap.size by omega)).trans (hXr j)⟩
      have hcPr := (HKr.out wr (Below.refl _ _)).2.2.1
      have hbPr : bP < wr.heap.size := by omega
      have gXr : w1.heap.size + 1 < wr.heap.size := by omega
      have gGr : w1.heap.size < wr.heap.size := by omega
      clear hcP hcP' hposk HCR HHF HVH HFC HVS HPK HPA
      generalize reach a b o (posAt s L k) g false = cn at *
      generalize (hints a b o s g (posAt s L k)).getD 0 Ln0 = y at *
      generalize posAt s L k = n at *
      go_upto_region 14 with fail
      (with_reducible refine wp_region_qb ?_ ?_ (fun hq => ?_)); (focus kernel_rfl); (focus kernel_rfl); (repeat (go_big_quiet_step ((go_at_call 26; exact Calls.regrown_of (HCRk.out _))))); refine wpQuiet_nil ?_; intro wq hbq
      obtain ⟨HBq, hzq, hcPq, hGq, hXq⟩ := HKr.out wq hbq
      have hwrq := Lib.hid hbq
      have hbPq : bP < wq.heap.size := by omega
      have gXq : w1.heap.size + 1 < wq.heap.size := by omega
      have gGq : w1.heap.size < wq.heap.size := by omega
      clear hq hbq hcPr
      go_upto_region 15 with fail
      go_cut [102] (fun t wx => t = .bool false ∧ wx = wq)
      case first =>
        as_aux_lemma =>
          cases sol
          · go_wp2_with fail
            all_goals go_meet
            all_goals (case rel => exact ⟨rfl, rfl⟩)
          · by_cases he : 0 ≤ E
            · have hcn := HFCk.out he
              by_cases hke : (k : Int) ≤ E
              · rw [decide_eq_true hke] at hcn
                subst hcn
                have hd : decide (E < (k : Int)) = false := decide_eq_false (by omega)
                go_wp2_with fail
                all_goals go_meet
                all_goals (case rel => exact ⟨rfl, rfl⟩)
              · rw [decide_eq_false hke] at hcn
                subst hcn
                have hd : E < (k : Int) := by omega
                go_wp2_with fail
                all_goals go_meet
                all_goals (case rel => exact ⟨rfl, rfl⟩)
            · have he' : E < 0 := by omega
              cases cn
              all_goals go_wp2_with fail
              all_goals go_meet
              all_goals (case rel => exact ⟨rfl, rfl⟩)
      obtain ⟨rfl, rfl⟩ := hcut
      obtain ⟨w8, rfl⟩ : ∃ w8 : World, w8 = wc := ⟨_, rfl⟩
      have HB8 := Lib.hid HBq.out
      have hgHF : ∃ ok : Bool, ok = (cn && !(n == g)) := ⟨_, rfl⟩
      obtain ⟨ok, hok⟩ := hgHF
      rw [← hok] at HHFk
      have HOK := Lib.hid hok
      clear hok
      have hd8 : Below w8.heap.size w8 w8.drew := (Below.refl _ _).drew
      have HHA : Hid (Calls Try.prog 27 #[.agg #[.int .i64 a, .int .i64 b, .int .i64 o, .int .i64 s, .int .i64 g], .int .i64 n] w8.drew fun e w' => e = .returned (.tuple #[.agg #[.int .i64 y.f, .int .i64 y.o, .int .i64 y.t], .bool ok]) ∧ Hid (Below w8.heap.size w8 w') ∧ w8.heap.size ≤ w'.heap.size) := by
        refine (HHFk.out w8.drew).mono ?_
        rintro e w' ⟨rfl, hb⟩
        have hbw := hd8.trans (hb.mono (by simp))
        exact ⟨rfl, hbw, hbw.size⟩
      have HHB : Hid (Calls Try.prog 27 #[.agg #[.int .i64 a, .int .i64 b, .int .i64 o, .int .i64 s, .int .i64 g], .int .i64 n] (w8.alloc (.cells #[.int .i64 0, .int .i64 0, .int .i64 0] 51)).drew fun e w' => e = .returned (.tuple #[.agg #[.int .i64 y.f, .int .i64 y.o, .int .i64 y.t], .bool ok]) ∧ Hid (Below w8.heap.size w8 w') ∧ w8.heap.size < w'.heap.size ∧ (∀ j, w'.cell? ⟨w8.heap.size, j, none⟩ = #[Value.int .i64 0, .int .i64 0, .int .i64 0][j]?) ∧ ∀ j, w'.frozen? ⟨w8.heap.size, j, none⟩ = false) := by
        refine (HHFk.out _).mono ?_
        rintro e w' ⟨rfl, hb⟩
        have hbw := (((Below.refl w8.heap.size w8).alloc (Nat.le_refl _) (.cells #[.int .i64 0, .int .i64 0, .int .i64 0] 51)).drew).trans (hb.mono (by simp))
        exact ⟨rfl, hbw, by have := hb.size; simp at this; omega, fun j => (hb.cell (by simp)).trans (by simp), fun j => (hb.frozen (by simp)).trans (by simp)⟩
      have HXL : Hid (∀ w9 : World, Below w8.heap.size w8 w9 → (∀ j, w9.cell? ⟨w1.heap.size + 1, j, none⟩ = #[Value.int .i64 a, .int .i64 b, .int .i64 o, .int .i64 s, .int .i64 g][j]?) ∧ w9.cell? ⟨bP, k, none⟩ = some (.int .i64 n)) := fun w9 hb => ⟨fun j => (hb.cell (show w1.heap.size + 1 < w8.heap.size by omega)).trans (hXq j), (hb.cell (show bP < w8.heap.size by omega)).trans hcPq⟩
      go_upto_region 17 with fail
      go_cut [11, 12] (fun p t wx => ∃ B : Nat, p = .pointer (some ⟨B, 0, none⟩) ∧ t = .bool ok ∧ w8.heap.size ≤ B ∧ B < wx.heap.size ∧ Hid (∀ j, wx.cell? ⟨B, j, none⟩ = #[Value.int .i64 y.f, .int .i64 y.o, .int .i64 y.t][j]?) ∧ Hid (Below w8.heap.size w8 wx))
      case first =>
        as_aux_lemma =>
          clear hd8
          go_region_with (first | (go_at_call 27; with_reducible refine HHA.out.mono ?_; rintro e w9 ⟨rfl, HB9, hz9⟩) | (go_at_call 27; with_reducible refine HHB.out.mono ?_; rintro e w9 ⟨rfl, HB9, hz9, hL9, hLF9⟩))
          all_goals (go_wp2_with fail; go_meet; case rel => first | (exact ⟨w9.heap.size, rfl, rfl, hz9, by simp, fun j => by simp, HB9.out.alloc hz9 _⟩) | (exact ⟨w8.heap.size, rfl, rfl, Nat.le_refl _, by simpa using hz9, box3_set w9 w8.heap.size _ _ _ _ _ _ hL9, ((HB9.out.setCell (Nat.le_refl _) _).setCell (Nat.le_refl _) _).setCell (Nat.le_refl _) _⟩))
      obtain ⟨B, rfl, rfl, hB8, hBc, hY, hbc⟩ := hcut
      obtain ⟨w10, rfl⟩ : ∃ w10 : World, w10 = wc := ⟨_, rfl⟩
      clear HHA HHB HXL
      obtain ⟨HB10, hz10, hcP10, hG10, hX10⟩ := HKr.out w10 (hwrq.out.trans (hbc.out.mono hzq))
      have hY10 := hY.out
      have hbP10 : bP < w10.heap.size := by omega
      have gX10 : w1.heap.size + 1 < w10.heap.size := by omega
      have gG10 : w1.heap.size < w10.heap.size := by omega
      have HB10r := Lib.hid (hwrq.out.trans (hbc.out.mono hzq))
      clear hY hbc hcPq hGq hXq HB8 HHFk hwrq HBq
      obtain ⟨vd, hvd⟩ : ∃ vd : Int, vd = (if n = g then 4 else if cn = true then 1 else 3) := ⟨_, rfl⟩
      rw [← hvd] at HVHk
      have HVD := Lib.hid hvd
      clear hvd
      go_upto_region 18 with fail
      (with_reducible refine wp_region_qb ?_ ?_ (fun hq => ?_)); (focus kernel_rfl); (focus kernel_rfl); (repeat (go_big_quiet_step ((go_at_call 28; exact Calls.regrown_of (HVHk.out _))))); refine wpQuiet_nil ?_; intro wq hbq
      obtain ⟨HB11, hz11, hcP11, hG11, hX11⟩ := HKr.out wq (HB10r.out.trans (hbq.mono hz10))
      have HB11r := Lib.hid (HB10r.out.trans (hbq.mono hz10))
      have hbP11 : bP < wq.heap.size := by omega
      have gX11 : w1.heap.size + 1 < wq.heap.size := by omega
      have gG11 : w1.heap.size < wq.heap.size := by omega
      clear hq hbq hcP10 hG10 hX10 HB10 HB10r hY10 HVHk
      go_upto_region 19 with fail
      go_cut [161] (fun t wx => t = .bool false ∧ Below wq.heap.size wq wx)
      case first =>
        as_aux_lemma =>
          by_cases hng : n = g
          · subst hng
            obtain rfl : ok = false := by rw [HOK.out]; simp
            obtain rfl : vd = 4 := by rw [HVD.out]; simp
            cases cn
            all_goals ((with_reducible refine wp_region_qb ?_ ?_ (fun hq => ?_)); (focus kernel_rfl); (focus kernel_rfl); (repeat (go_big_quiet_step (fail))); refine wpQuiet_nil ?_; intro wz hb; go_wp2_with fail; go_meet; (case rel => exact ⟨rfl, hb⟩))
          · have hng1 : (n == g) = false := by simp [hng]
            have hng2 : decide (n = g) = false := by simp [hng]
            have hng3 : (n != g) = true := by simp [hng]
            have hng4 : decide (¬ n = g) = true := by simp [hng]
            have hng5 : (n = g) = False := by simp [hng]
            cases cn
            · obtain rfl : ok = false := by rw [HOK.out]; simp
              obtain rfl : vd = 3 := by rw [HVD.out]; simp [hng]
              ((with_reducible refine wp_region_qb ?_ ?_ (fun hq => ?_)); (focus kernel_rfl); (focus kernel_rfl); (repeat (go_big_quiet_step (fail))); refine wpQuiet_nil ?_; intro wz hb; go_wp2_with fail; go_meet; (case rel => exact ⟨rfl, hb⟩))
            · obtain rfl : ok = true := by rw [HOK.out]; simp [hng]
              obtain rfl : vd = 1 := by rw [HVD.out]; simp [hng]
              ((with_reducible refine wp_region_qb ?_ ?_ (fun hq => ?_)); (focus kernel_rfl); (focus kernel_rfl); (repeat (go_big_quiet_step (fail))); refine wpQuiet_nil ?_; intro wz hb; go_wp2_with fail; go_meet; (case rel => exact ⟨rfl, hb⟩))
      obtain ⟨rfl, hbc⟩ := hcut
      obtain ⟨w12, rfl⟩ : ∃ w12 : World, w12 = wc := ⟨_, rfl⟩
      obtain ⟨HB12, hz12, hcP12, hG12, hX12⟩ := HKr.out w12 (HB11r.out.trans (hbc.mono hz11))
      have HB12r := Lib.hid (HB11r.out.trans (hbc.mono hz11))
      have hbP12 : bP < w12.heap.size := by omega
      have gX12 : w1.heap.size + 1 < w12.heap.size := by omega
      have gG12 : w1.heap.size < w12.heap.size := by omega
      clear hbc hcP11 hG11 hX11 HB11 HB11r HVD HOK
      go_upto_region 21 with fail
      have hb112 := (HK.out w12 (HB7.out.trans (HB12.out.mono hz7))).1
      go_cut [197] (fun t wx => t = .bool false ∧ Below w12.heap.size w12 wx)
      case first =>
        as_aux_lemma =>
          by_cases hkl : k < L.length
          · have hkd : decide ((k : Int) < (L.length : Int)) = true := decide_eq_true (by omega)
            cases sol
            · ((with_reducible refine wp_region_qb ?_ ?_ (fun hq => ?_)); (focus kernel_rfl); (focus kernel_rfl); (repeat (go_big_quiet_step (fail))); refine wpQuiet_nil ?_; intro wz hb; go_wp2_with fail; go_meet; (case rel => exact ⟨rfl, hb⟩))
            · by_cases hE : E = (k : Int)
              · subst hE
                by_cases hng : n = g
                · subst hng
                  ((with_reducible refine wp_region_qb ?_ ?_ (fun hq => ?_)); (focus kernel_rfl); (focus kernel_rfl); (repeat (go_big_quiet_step (fail))); refine wpQuiet_nil ?_; intro wz hb; go_wp2_with fail; go_meet; (case rel => exact ⟨rfl, hb⟩))
                · have hng1 : (n == g) = false := by simp [hng]
                  have hng2 : decide (n = g) = false := by simp [hng]
                  have hng3 : (n != g) = true := by simp [hng]
                  have hng4 : decide (¬ n = g) = true := by simp [hng]
                  have hng5 : (n = g) = False := by simp [hng]
                  have HVV := Lib.hid (HVSk.out hkl rfl hng)
                  obtain ⟨bL, rfl, _, hbL, c0, c1, c2⟩ := HGL.out k hkl
                  have d0 := (hb112.out.cell (p := ⟨bL, k * 3, none⟩) hbL).trans c0
                  have d1 := (hb112.out.cell (p := ⟨bL, k * 3 + 1, none⟩) hbL).trans c1
                  have d2 := (hb112.out.cell (p := ⟨bL, k * 3 + 2, none⟩) hbL).trans c2
                  have hbL12 : bL < w12.heap.size := by omega
                  clear c0 c1 c2 HVSk HFCk HGL HKr HK
                  generalize gD L Ln0 k = z at *
                  ((with_reducible refine wp_region_qb ?_ ?_ (fun hq => ?_)); (focus kernel_rfl); (focus kernel_rfl); (repeat (go_big_quiet_step ((go_at_call 28; exact Calls.regrown_of (HVV.out _))))); refine wpQuiet_nil ?_; intro wz hb; go_wp2_with fail; go_meet; (case rel => exact ⟨rfl, hb⟩))
              · have hE1 : (E == (k : Int)) = false := by simp [hE]
                have hE2 : decide (E = (k : Int)) = false := by simp [hE]
                ((with_reducible refine wp_region_qb ?_ ?_ (fun hq => ?_)); (focus kernel_rfl); (focus kernel_rfl); (repeat (go_big_quiet_step (fail))); refine wpQuiet_nil ?_; intro wz hb; go_wp2_with fail; go_meet; (case rel => exact ⟨rfl, hb⟩))
          · have hkd : decide ((k : Int) < (L.length : Int)) = false := decide_eq_false (by omega)
            ((with_reducible refine wp_region_qb ?_ ?_ (fun hq => ?_)); (focus kernel_rfl); (focus kernel_rfl); (repeat (go_big_quiet_step (fail))); refine wpQuiet_nil ?_; intro wz hb; go_wp2_with fail; go_meet; (case rel => exact ⟨rfl, hb⟩))
      obtain ⟨rfl, hbc⟩ := hcut
      have HBE := Lib.hid (HB12.out.trans (hbc.mono HB12.out.size))
      clear hbc
      go_wp2_with fail
      go_roundw
      case rel => exact ⟨k + 1, by omega, by go_num, HBE.out⟩
      case measure => simp [intOf]; omega
    · obtain rfl : k = L.length + 1 := by omega
      go_wp2_with fail
      go_ret
      exact ⟨by simp, (HB1.out.trans (hb1r.out.mono (by omega)))⟩

set_option maxRecDepth 100000 in
theorem law_walk : LawWalk 5 Try.f5.params.toList := by
  intro H enc W base args ds ps hval hA
  rw [Try.params5] at hA hval
  obtain ⟨v0, vs0, d0, ds0, p0, q0, hargs, rfl, rfl, h0, r0⟩ := trodAll_cons hA
  obtain ⟨rfl, rfl, rfl⟩ := trodAll_nil r0
  obtain rfl : args = #[v0] := by cases args; simp_all
  obtain ⟨l0, rd0, ok0⟩ := arg_ByteS (hval 0 _ _ rfl rfl) h0
  exact law_any v0 l0 W rd0 ok0

set_option maxRecDepth 100000 in
theorem lifted (os : Os) (started : os.Started) (H : Type) (enc : TypeId × Value → H) :
    ReturnsInHanded {} Try.checked os 5 .any (Rows.fnHintsSpec.pre6 enc Try.prog Try.f5 Rows.fnHintsRow.domain false) (Rows.fnHintsSpec.post enc Try.prog Try.f5 false true false false) :=
  law_lift started (by kernel_rfl) Try.func5
    (ChangeSpec.witness6 (enc := enc) (C := Try.checked) false ⟨#[], #[.slice none 0 0], []⟩ 8 (by kernel_rfl) (by kernel_rfl) (by kernel_rfl) (by kernel_rfl))
    rfl rfl (readable_all (by kernel_rfl)) (by intro ds h; match ds, h with | [a0], _ => rfl) law_walk

theorem over : Rows.fnHintsRow.holds Try.pinned (OpenSpec.ofChange Rows.fnHintsSpec) :=
  OpenClaim.holds_of_wide 5 Try.f5 rfl rfl rfl rfl rfl rfl rfl ⟨rfl, rfl, rfl, rfl, rfl⟩ rfl rfl rfl rfl rfl (by kernel_rfl) Try.func5 (by kernel_rfl)
    (of_decide_eq_true (by kernel_rfl)) (by unfold Func.isWrapper; first | (rw [if_pos (by decide +kernel)]; kernel_rfl) | (rw [if_neg (by decide +kernel)]; exact ⟨rfl, rfl⟩))
    (fun os started H enc _ => lifted os started H enc)

theorem proved : Rows.FnHintsSaid := over
#print axioms proved
end Go.Proofs.Ytfpofhkggojaoaa.fnHints
