/- Every puzzle that is made backwards is solvable, and the same seed makes the same one, for all drawn codes. No condition. -/
import Derived.Test.YtfpofhkggojaoaaMade0
import Derived.Test.YtfpofhkggojaoaaRect
import Derived.Test.YtfpofhkggojaoaaPlayAll
import Derived.Test.YtfpofhkggojaoaaReach
import Derived.Test.YtfpofhkggojaoaaPop
import Derived.Test.YtfpofhkggojaoaaCur
import Derived.Test.YtfpofhkggojaoaaOpen
import Derived.Deep.RegionWith
import Derived.Deep.DeepCutAuto
import Derived.IntWalk
set_option linter.unusedVariables false
set_option linter.unusedSimpArgs false
namespace Go.Proofs.Ytfpofhkggojaoaa.fnMade
open Go.ChangeShapes Go.WideShapes Go.ChangeAt Go.RowKit Peg Go.Sort

set_option maxHeartbeats 40000000 in
set_option maxRecDepth 100000 in
theorem law_any (v : Value) (l : List Int) (w : World) (hv : Rd EBy w v l) (hok : ∀ y ∈ l, ByOk y) :
    Calls Try.prog 7 #[v] w fun e w' => e = .returned (.bool true) ∧ Below w.heap.size w w' := by
  by_cases hl : 1048576 < l.length
  · have HB : Hid (∀ W, Rd EBy W v l → Calls Try.prog 19 #[v] W fun e w' => e = .returned (.bool true) ∧ W = w') := fun W hW => by have hol := big_any v l W hW; rwa [decide_eq_true (by omega)] at hol
    go_enter Try.func7, Try.ntmps7
    go_wp2_with (go_at_call 19; refine (HB.out _ hv).mono ?_; rintro e w' ⟨rfl, rfl⟩)
    all_goals go_ret
    all_goals exact ⟨by simp, Below.refl _ _⟩
  have HB : Hid (∀ W, Rd EBy W v l → Calls Try.prog 19 #[v] W fun e w' => e = .returned (.bool false) ∧ W = w') := fun W hW => by have hol := big_any v l W hW; rwa [decide_eq_false (by omega)] at hol
  have HV := Lib.hid hv
  have HO := Lib.hid hok
  clear hv hok
  go_enter Try.func7, Try.ntmps7
  go_wp2_with (go_at_call 19; refine (HB.out _ HV.out).mono ?_; rintro e w' ⟨rfl, rfl⟩)
  refine (at_any v l 0 (by omega) _ HV.out HO.out).mono ?_
  rintro e w' ⟨⟨t0, rfl, hp0, _⟩, rfl⟩
  have hm0 := Int.emod_nonneg t0 (show (2 : Int) ≠ 0 by omega)
  have hm1 := Int.emod_lt_of_pos t0 (show (0 : Int) < 2 by omega)
  go_wp2_with fail
  have h34 : 3 + t0 % 2 = 3 ∨ 3 + t0 % 2 = 4 := by omega
  generalize 3 + t0 % 2 = a at *
  clear hm0 hm1 hp0
  refine (Rectangle_34 a h34 w).mono ?_
  rintro e w1 ⟨rfl, hb1⟩
  have hsm := Lib.hid (recO_small h34)
  have hhole := Lib.hid (fun k h0 h1 => recO_hole h34 (k := k) h0 h1)
  clear h34
  generalize recO a = o at *
  have hz1 := hb1.size
  have HB1 := Lib.hid hb1
  have hV1 := Lib.hid (HV.out.keep (HB1.out.alloc hz1 (.cells #[.int .i64 a, .int .i64 3, .int .i64 o] 27)))
  clear hb1
  go_wp2_with fail
  refine (at_any v l 1 (by omega) _ hV1.out HO.out).mono ?_
  rintro e w' ⟨⟨t1, rfl, c0, c1⟩, rfl⟩
  have hm0 := Int.emod_nonneg t1 (show (9 : Int) ≠ 0 by omega)
  have hm1 := Int.emod_lt_of_pos t1 (show (0 : Int) < 9 by omega)
  go_wp2_with fail
  generalize t1 % 9 = hol at *
  refine (at_any v l 2 (by omega) _ hV1.out HO.out).mono ?_
  rintro e w' ⟨⟨t2, rfl, d0, d1⟩, rfl⟩
  have hn0 := Int.emod_nonneg t2 (show (7 : Int) ≠ 0 by omega)
  have hn1 := Int.emod_lt_of_pos t2 (show (0 : Int) < 7 by omega)
  go_wp2_with fail
  generalize t2 % 7 = n at *
  refine (at_any v l 3 (by omega) _ hV1.out HO.out).mono ?_
  rintro e w' ⟨⟨t3, rfl, e0, e1⟩, rfl⟩
  go_wp2_with fail
  refine (at_any v l 4 (by omega) _ hV1.out HO.out).mono ?_
  rintro e w' ⟨⟨t4, rfl, f0, f1⟩, rfl⟩
  go_wp2_with fail
  have hs0 : 0 ≤ t3 * 250 + t4 := by omega
  have hs1 : t3 * 250 + t4 ≤ 64005 := by omega
  generalize t3 * 250 + t4 = s at *
  clear c0 c1 d0 d1 e0 e1 f0 f1
  have hk := hhole.out hol hm0 hm1
  have hpk := posOk_pw hk
  obtain ⟨g1, g2, g3, g4⟩ := made_plays (n := n) (s := s) hpk (inR_iff.2 (by omega)) (inR_iff.2 (by omega))
  have hMP := Lib.hid (makePuzzle_iff (n := n) (s := s) hsm.out hk (inR_iff.2 (by omega)) (inR_iff.2 (by omega)))
  have hp2 := pw_62 (n := hol) hm0 (by omega)
  have HW2 : Hid (IntKind.i64.wrap (2 ^ hol.toNat) = pw hol) := IntWalk.i64_in _ (by have := pw_pos hol; show -9223372036854775808 ≤ pw hol ∧ pw hol ≤ 9223372036854775807; omega)
  have HG : Hid (∀ W, Calls Try.prog 43 #[.agg #[.int .i64 a, .int .i64 3, .int .i64 o], .int .i64 (pw hol), .int .i64 n, .int .i64 s] W (RetGame W (makeGame a 3 o (pw hol) n s))) := fun W => MakeGame_any a 3 o (pw hol) n s (by omega) W
  generalize makeGame a 3 o (pw hol) n s = G at *
  obtain ⟨L, q⟩ := G
  simp only at g1 g2 g3 g4
  have G1 := Lib.hid g1
  have G3 := Lib.hid g3
  have G4 := Lib.hid (g4.trans (by rw [pegs_pw hm0 (by omega)]))
  clear g1 g3 g4 hpk
  have hmin : min hol.toNat 64 = hol.toNat := by omega
  have hwr2 := HW2.out
  obtain ⟨w2, hw2⟩ : ∃ w2 : World, w2 = w1.alloc (.cells #[.int .i64 a, .int .i64 3, .int .i64 o] 27) := ⟨_, rfl⟩
  have hbox2 : ∀ j, w2.cell? ⟨w1.heap.size, j, none⟩ = #[Value.int .i64 a, .int .i64 3, .int .i64 o][j]? := fun j => by rw [hw2]; simp
  have hz2 : w2.heap.size = w1.heap.size + 1 := by rw [hw2]; simp
  rw [← hw2]
  have HW12 := Lib.hid hw2
  clear hw2
  have HZ2 := Lib.hid hz2
  have hs2 : w1.heap.size < w2.heap.size := by omega
  clear hz2
  have hPw : pw hol = pw hol := rfl
  generalize hP0 : pw hol = P at *
  have HPw := Lib.hid hP0
  clear hP0 hPw
  have HG1 := Lib.hid G1
  go_cut [7, 8] (fun u x wx => (∃ aL cL, u = .slice aL L.length cL ∧ Own ELine wx w2.heap.size (.slice aL L.length cL) L) ∧ x = .int .i64 q ∧ Below w2.heap.size w2 wx)
  case first =>
    go_region_with (go_at_call 43; (with_reducible refine (HG.out _).mono ?_); rintro e w' ⟨v7, rfl, own7, hb⟩; obtain ⟨aL, cL, rfl, _, _⟩ := own7.lineG)
    all_goals (go_wp2_with fail; go_meet; case rel => exact ⟨⟨aL, cL, rfl, own7.mono (by simp)⟩, rfl, by (repeat' first | (with_reducible exact Below.refl _ _) | (with_reducible refine Below.alloc ?_ ?_ _) | (with_reducible refine Below.drew ?_) | (with_reducible refine Below.setCell ?_ ?_ _) | (with_reducible refine below_via (by assumption) ?_ ?_) | go_size)⟩)
  obtain ⟨⟨aL, cL, rfl, ownL⟩, rfl, hb2⟩ := hcut
  obtain ⟨w3, rfl⟩ : ∃ w3 : World, w3 = wc := ⟨_, rfl⟩
  have hbox3 : ∀ j, w3.cell? ⟨w1.heap.size, j, none⟩ = #[Value.int .i64 a, .int .i64 3, .int .i64 o][j]? := fun j => (hb2.cell hs2).trans (hbox2 j)
  have hs3 : w1.heap.size < w3.heap.size := Nat.lt_of_lt_of_le hs2 hb2.size
  have HB3 := Lib.hid hb2
  have HIS : Hid (∀ W, Below w3.heap.size w3 W → Calls Try.prog 45 #[.agg #[.int .i64 a, .int .i64 3, .int .i64 o], .int .i64 q, .int .i64 P, .slice aL L.length cL] W fun e w' => e = .returned (.bool true) ∧ Below W.heap.size W w') := fun W hW => by
    rw [← G1.out]
    exact sIsSolution_any a 3 o q P L _ (by have := pos_lt G3.out; omega) W (ownL.keep hW)
  clear hb2 hbox2 hs2 ownL
  have HBw3 : Hid (Below w.heap.size w w3) := by
    show Below w.heap.size w w3
    have h1 := HB1.out
    have h2 := HB3.out
    rw [HW12.out] at h2
    exact ((h1.alloc hz1 _)).trans (h2.mono (by simp; omega))
  have hsv0 : 0 ≤ nextSeed s ∧ nextSeed s ≤ 65536 := by rw [nextSeed, if_pos (inR_iff.2 (by omega))]; omega
  have hsv1 := nextSeed_ne hs0 (by omega)
  have HNS : Hid (∀ W, Calls Try.prog 46 #[.int .i64 s] W fun e w' => e = .returned (.int .i64 (nextSeed s)) ∧ Below W.heap.size W w') := fun W => NextSeed_any s W
  generalize nextSeed s = sv at *
  have HPz : Hid (∀ W, Calls Try.prog 44 #[.agg #[.int .i64 a, .int .i64 3, .int .i64 o], .int .i64 hol, .int .i64 n, .int .i64 s] W fun e w' => e = .returned (optPz a 3 o hol (makePuzzle a 3 o hol n s)) ∧ Below W.heap.size W w') := fun W => MakePuzzle_any a 3 o hol n s (by omega) W
  rw [hMP.out] at HPz
  simp only at HPz
  by_cases hLn : (L.length : Int) = n
  · rw [if_pos hLn] at HPz
    simp only [optPz, HPw.out] at HPz
    have hle1 : ((L.length : Int) == n) = true := by simpa using hLn
    have hle2 : decide (n < (L.length : Int)) = false := by simp; omega
    have HLn := Lib.hid hLn
    clear hLn
    go_wp2_with fail
    refine (HPz.out _).mono ?_
    rintro e wA ⟨rfl, hbA⟩
    have gA := hbA.size
    have gB : w1.heap.size < wA.heap.size := by omega
    have hboxA : ∀ j, wA.cell? ⟨w1.heap.size, j, none⟩ = #[Value.int .i64 a, .int .i64 3, .int .i64 o][j]? := fun j => (hbA.cell hs3).trans (hbox3 j)
    have HBA := Lib.hid (show Below w3.heap.size w3 (wA.alloc (.cells #[.int .i64 a, .int .i64 3, .int .i64 o, .int .i64 q, .int .i64 P] 29)) from hbA.alloc gA _)
    clear hbA hbox3
    go_wp2_with fail
    refine (HPz.out _).mono ?_
    rintro e wB ⟨rfl, hbB⟩
    have gC := hbB.size
    simp only [World.size_alloc] at gC
    have hboxB : ∀ j, wB.cell? ⟨w1.heap.size, j, none⟩ = #[Value.int .i64 a, .int .i64 3, .int .i64 o][j]? := fun j => (hbB.cell (by simp; omega)).trans (by simp [go_sem, *])
    have hxB : ∀ j, wB.cell? ⟨wA.heap.size, j, none⟩ = #[Value.int .i64 a, .int .i64 3, .int .i64 o, .int .i64 q, .int .i64 P][j]? := fun j => (hbB.cell (by simp)).trans (by simp)
    have HBB := Lib.hid (show Below w3.heap.size w3 (wB.alloc (.cells #[.int .i64 a, .int .i64 3, .int .i64 o, .int .i64 q, .int .i64 P] 29)) from (HBA.out.trans (hbB.mono (by simp; omega))).alloc (by omega) _)
    clear hbB hboxA HBA
    go_wp2_with fail
    obtain ⟨w5, hw5⟩ : ∃ w5 : World, w5 = wB.alloc (.cells #[.int .i64 a, .int .i64 3, .int .i64 o, .int .i64 q, .int .i64 P] 29) := ⟨_, rfl⟩
    have hB5 : ∀ j, w5.cell? ⟨w1.heap.size, j, none⟩ = #[Value.int .i64 a, .int .i64 3, .int .i64 o][j]? := fun j => by rw [hw5]; exact (((Below.refl wB.heap.size wB).alloc (Nat.le_refl _) _).cell (p := ⟨w1.heap.size, j, none⟩) (show w1.heap.size < wB.heap.size by omega)).trans (hboxB j)
    have hX5 : ∀ j, w5.cell? ⟨wA.heap.size, j, none⟩ = #[Value.int .i64 a, .int .i64 3, .int .i64 o, .int .i64 q, .int .i64 P][j]? := fun j => by rw [hw5]; exact (((Below.refl wB.heap.size wB).alloc (Nat.le_refl _) _).cell (p := ⟨wA.heap.size, j, none⟩) (show wA.heap.size < wB.heap.size by omega)).trans (hxB j)
    have hY5 : ∀ j, w5.cell? ⟨wB.heap.size, j, none⟩ = #[Value.int .i64 a, .int .i64 3, .int .i64 o, .int .i64 q, .int .i64 P][j]? := fun j => by rw [hw5]; simp
    have z1 : w1.heap.size < w5.heap.size := by rw [hw5]; simp; omega
    have z2 : wA.heap.size < w5.heap.size := by rw [hw5]; simp; omega
    have z3 : wB.heap.size < w5.heap.size := by rw [hw5]; simp
    rw [← hw5] at HBB
    rw [← hw5]
    clear hw5 hboxB hxB
    go_wp2_with ((with_reducible refine wp_region_qb ?_ ?_ (fun hq => ?_)); (focus kernel_rfl); (focus kernel_rfl); (repeat (go_big_quiet_step ((go_at_call 45; exact Calls.regrown_of (HIS.out _ (HBB.out.trans ((below_regrown _ _ _).mono (by have := HBB.out.size; omega)))))))); refine wpQuiet_nil ?_; intro wq hb; obtain ⟨hc, hf, hz, hy⟩ := bcell hb; clear hq hy; (try simp only [World.size_alloc, World.size_setCell, World.size_drew] at hz); (try have gQ0 : w.heap.size < wq.heap.size := by omega); (try have gQ1 : w.heap.size + 1 < wq.heap.size := by omega); (try have gQ2 : w.heap.size + 1 + 1 < wq.heap.size := by omega); (try have gQ3 : w.heap.size + 1 + 1 + 1 < wq.heap.size := by omega); (try have gQ4 : w.heap.size + 1 + 1 + 1 + 1 < wq.heap.size := by omega); (try have gQ5 : w.heap.size + 1 + 1 + 1 + 1 + 1 < wq.heap.size := by omega); (try have dQ0 : _ < wq.heap.size := Nat.lt_of_lt_of_le dQ0 (by omega)); (try have dQ1 : _ < wq.heap.size := Nat.lt_of_lt_of_le dQ1 (by omega)); (try have dQ2 : _ < wq.heap.size := Nat.lt_of_lt_of_le dQ2 (by omega)); (try have dQ3 : _ < wq.heap.size := Nat.lt_of_lt_of_le dQ3 (by omega)); (try have dQ4 : _ < wq.heap.size := Nat.lt_of_lt_of_le dQ4 (by omega)); (try have dQ5 : _ < wq.heap.size := Nat.lt_of_lt_of_le dQ5 (by omega)); (try (have hnQ := Nat.lt_of_succ_le hz; first | (have _x := dQ0; first | (have _x := dQ1; first | (have _x := dQ2; first | (have _x := dQ3; first | (have _x := dQ4; have dQ5 := hnQ) | have dQ4 := hnQ) | have dQ3 := hnQ) | have dQ2 := hnQ) | have dQ1 := hnQ) | have dQ0 := hnQ)); (try (have hmQ := Nat.lt_of_succ_lt (Nat.lt_of_succ_le hz); first | (have _x := dQ0; first | (have _x := dQ1; first | (have _x := dQ2; first | (have _x := dQ3; first | (have _x := dQ4; have dQ5 := hmQ) | have dQ4 := hmQ) | have dQ3 := hmQ) | have dQ2 := hmQ) | have dQ1 := hmQ) | have dQ0 := hmQ)))
    have HB5 := Lib.hid (show Below w.heap.size w w5 from HBw3.out.trans (HBB.out.mono HBw3.out.size))
    have HBq := Lib.hid (show Below w.heap.size w wq from HB5.out.trans (hb.mono HB5.out.size))
    have hBq : ∀ j, wq.cell? ⟨w1.heap.size, j, none⟩ = #[Value.int .i64 a, .int .i64 3, .int .i64 o][j]? := fun j => (hb.cell z1).trans (hB5 j)
    have hXq : ∀ j, wq.cell? ⟨wA.heap.size, j, none⟩ = #[Value.int .i64 a, .int .i64 3, .int .i64 o, .int .i64 q, .int .i64 P][j]? := fun j => (hb.cell z2).trans (hX5 j)
    have y1 : w1.heap.size < wq.heap.size := by have := hb.size; omega
    have y2 : wA.heap.size < wq.heap.size := by have := hb.size; omega
    clear hb hc hf hB5 hX5 hY5
    refine (HNS.out _).mono ?_
    rintro e wN ⟨rfl, hbN⟩
    have HBn := Lib.hid (HBq.out.trans (hbN.mono HBq.out.size))
    have hBn : ∀ j, wN.cell? ⟨w1.heap.size, j, none⟩ = #[Value.int .i64 a, .int .i64 3, .int .i64 o][j]? := fun j => (hbN.cell y1).trans (hBq j)
    have hXn : ∀ j, wN.cell? ⟨wA.heap.size, j, none⟩ = #[Value.int .i64 a, .int .i64 3, .int .i64 o, .int .i64 q, .int .i64 P][j]? := fun j => (hbN.cell y2).trans (hXq j)
    have x1 : w1.heap.size < wN.heap.size := by have := hbN.size; omega
    have x2 : wA.heap.size < wN.heap.size := by have := hbN.size; omega
    clear hbN hBq hXq
    have HIV : Hid (∀ W, Calls Try.prog 21 #[.agg #[.int .i64 a, .int .i64 3, .int .i64 o, .int .i64 q, .int .i64 P]] W fun e w' => e = .returned (.bool true) ∧ Below W.heap.size W w') := fun W => by
      have hm := (makePuzzle_ok (hMP.out.trans (if_pos HLn.out))).1
      rw [HPw.out] at hm
      rw [← hm]
      exact sIsSolvable_any a 3 o q P (by have := pos_lt G3.out; omega) (by omega) W
    have HCP : Hid (∀ W, Calls Try.prog 37 #[.agg #[.int .i64 a, .int .i64 3, .int .i64 o], .int .i64 q] W fun e w' => e = .returned (.int .i64 (n + 1)) ∧ Below W.heap.size W w') := fun W => by
      have h1 := sCountPegs_any a 3 o q (by have := pos_lt G3.out; omega) W
      rw [if_pos G3.out, G4.out] at h1
      rwa [show ((1 + L.length : Nat) : Int) = n + 1 by have := HLn.out; omega] at h1
    have hwn : IntKind.i64.wrap (n + 1) = n + 1 := IntWalk.i64_in _ (by omega)
    go_wp2_with ((with_reducible refine wp_region_qb ?_ ?_ (fun hq => ?_)); (focus kernel_rfl); (focus kernel_rfl); (repeat (go_big_quiet_step ((first | (go_at_call 21; exact Calls.regrown_of (HIV.out _)) | (go_at_call 37; exact Calls.regrown_of (HCP.out _)))))); refine wpQuiet_nil ?_; intro wq hb; obtain ⟨hc, hf, hz, hy⟩ := bcell hb; clear hq hy; (try simp only [World.size_alloc, World.size_setCell, World.size_drew] at hz); (try have gQ0 : w.heap.size < wq.heap.size := by omega); (try have gQ1 : w.heap.size + 1 < wq.heap.size := by omega); (try have gQ2 : w.heap.size + 1 + 1 < wq.heap.size := by omega); (try have gQ3 : w.heap.size + 1 + 1 + 1 < wq.heap.size := by omega); (try have gQ4 : w.heap.size + 1 + 1 + 1 + 1 < wq.heap.size := by omega); (try have gQ5 : w.heap.size + 1 + 1 + 1 + 1 + 1 < wq.heap.size := by omega); (try have dQ0 : _ < wq.heap.size := Nat.lt_of_lt_of_le dQ0 (by omega)); (try have dQ1 : _ < wq.heap.size := Nat.lt_of_lt_of_le dQ1 (by omega)); (try have dQ2 : _ < wq.heap.size := Nat.lt_of_lt_of_le dQ2 (by omega)); (try have dQ3 : _ < wq.heap.size := Nat.lt_of_lt_of_le dQ3 (by omega)); (try have dQ4 : _ < wq.heap.size := Nat.lt_of_lt_of_le dQ4 (by omega)); (try have dQ5 : _ < wq.heap.size := Nat.lt_of_lt_of_le dQ5 (by omega)); (try (have hnQ := Nat.lt_of_succ_le hz; first | (have _x := dQ0; first | (have _x := dQ1; first | (have _x := dQ2; first | (have _x := dQ3; first | (have _x := dQ4; have dQ5 := hnQ) | have dQ4 := hnQ) | have dQ3 := hnQ) | have dQ2 := hnQ) | have dQ1 := hnQ) | have dQ0 := hnQ)); (try (have hmQ := Nat.lt_of_succ_lt (Nat.lt_of_succ_le hz); first | (have _x := dQ0; first | (have _x := dQ1; first | (have _x := dQ2; first | (have _x := dQ3; first | (have _x := dQ4; have dQ5 := hmQ) | have dQ4 := hmQ) | have dQ3 := hmQ) | have dQ2 := hmQ) | have dQ1 := hmQ) | have dQ0 := hmQ)))
    have HBZ := Lib.hid (HBn.out.trans (hb.mono HBn.out.size))
    clear hb hc hf hBn hXn HBn
    (try clear hwn)
    clear hwr2 hmin
    have hbd := bestSeed_bd (a := 3) (b := 3) (o := 511) (h := hol) (n := 3) 4 (by omega)
    have HBS : Hid (∀ W, Calls Try.prog 47 #[.agg #[.int .i64 3, .int .i64 3, .int .i64 511], .int .i64 hol, .int .i64 3, .int .i64 4] W fun e w' => e = .returned (.int .i64 (bestSeed 3 3 511 hol 3 (4 : Nat))) ∧ Below W.heap.size W w') := fun W => BestSeed_any 3 3 511 hol 3 4 (by omega) W
    generalize bestSeed 3 3 511 hol 3 (4 : Nat) = bs at *
    obtain ⟨bs0, bs1, bs2⟩ := hbd
    have BS2 := Lib.hid bs2
    have hsa := hsv0.1
    have hsb := hsv0.2
    have hsc : (sv != s) = true := by simpa using hsv1
    clear bs2 hsv0 hsv1
    have HN0 : Hid (∀ W, Calls Try.prog 46 #[.int .i64 0] W fun e w' => e = .returned (.int .i64 74) ∧ Below W.heap.size W w') := fun W => NextSeed_any 0 W
    refine (Rectangle_3 _).mono ?_
    rintro e wR ⟨rfl, hbR⟩
    have HBR := Lib.hid (HBZ.out.trans (hbR.mono HBZ.out.size))
    clear hbR
    go_wp2_with fail
    refine (HBS.out _).mono ?_
    rintro e wS ⟨rfl, hbS⟩
    have HBs := Lib.hid (HBR.out.trans (hbS.mono HBR.out.size))
    clear hbS
    go_wp2_with fail
    refine (Rectangle_3 _).mono ?_
    rintro e wT ⟨rfl, hbT⟩
    have HBT := Lib.hid (HBs.out.trans (hbT.mono HBs.out.size))
    clear hbT
    rcases (by omega : 0 < bs ∨ bs = 0 ∨ bs < 0) with hbn | rfl | hbn
    · obtain ⟨p2, hp2'⟩ := Option.isSome_iff_exists.1 (BS2.out (by omega))
      obtain ⟨hz1', hz2', hz3', _, _⟩ := makePuzzle_ok hp2'
      have HM2 : Hid (∀ W, Calls Try.prog 48 #[.agg #[.int .i64 3, .int .i64 3, .int .i64 511], .int .i64 hol, .int .i64 3, .int .i64 bs] W fun e w' => e = .returned (.tuple #[.agg #[.int .i64 3, .int .i64 3, .int .i64 511, .int .i64 p2, .int .i64 (pw hol)], .bool true]) ∧ Below W.heap.size W w') := fun W => by
        have := sMakePuzzle_any 3 3 511 hol 3 bs (by omega) W
        rwa [hp2'] at this
      have HI2 : Hid (∀ W, Calls Try.prog 21 #[.agg #[.int .i64 3, .int .i64 3, .int .i64 511, .int .i64 p2, .int .i64 (pw hol)]] W fun e w' => e = .returned (.bool true) ∧ Below W.heap.size W w') := fun W => by
        rw [← hz1']
        exact sIsSolvable_any 3 3 511 p2 (pw hol) (by have := pos_lt hz2'; omega) (by have := pos_lt hz3'; omega) W
      clear hp2' hz1' hz2' hz3'
      generalize pw hol = P2 at *
      go_wp2_with fail
      refine (HM2.out _).mono ?_
      rintro e wM ⟨rfl, hbM⟩
      have HBM := Lib.hid (HBT.out.trans (hbM.mono HBT.out.size))
      have gM := hbM.size
      clear hbM
      go_wp2_with (first | (go_at_call 21; (with_reducible refine (HI2.out _).mono ?_); rintro e w' ⟨rfl, hb⟩; have gN := hb.size; (try simp only [World.size_alloc] at gN)) | (go_at_call 46; (with_reducible refine (HN0.out _).mono ?_); rintro e w' ⟨rfl, hb⟩; have gN2 := hb.size; (try simp only [World.size_alloc] at gN2)))
      all_goals have hbf := HBM.out
      all_goals have gF := hbf.size
      all_goals go_ret
      all_goals exact ⟨rfl, by (repeat' first | (with_reducible exact Below.refl _ _) | (with_reducible refine Below.alloc ?_ ?_ _) | (with_reducible refine Below.drew ?_) | (with_reducible refine Below.setCell ?_ ?_ _) | (with_reducible refine below_via (by assumption) ?_ ?_) | (with_reducible assumption) | ((try simp only [World.size_alloc, World.size_setCell, World.size_drew] at *); omega) | go_size)⟩
    · obtain ⟨p2, hp2'⟩ := Option.isSome_iff_exists.1 (BS2.out (by omega))
      obtain ⟨hz1', hz2', hz3', _, _⟩ := makePuzzle_ok hp2'
      have HM2 : Hid (∀ W, Calls Try.prog 48 #[.agg #[.int .i64 3, .int .i64 3, .int .i64 511], .int .i64 hol, .int .i64 3, .int .i64 0] W fun e w' => e = .returned (.tuple #[.agg #[.int .i64 3, .int .i64 3, .int .i64 511, .int .i64 p2, .int .i64 (pw hol)], .bool true]) ∧ Below W.heap.size W w') := fun W => by
        have := sMakePuzzle_any 3 3 511 hol 3 0 (by omega) W
        rwa [hp2'] at this
      have HI2 : Hid (∀ W, Calls Try.prog 21 #[.agg #[.int .i64 3, .int .i64 3, .int .i64 511, .int .i64 p2, .int .i64 (pw hol)]] W fun e w' => e = .returned (.bool true) ∧ Below W.heap.size W w') := fun W => by
        rw [← hz1']
        exact sIsSolvable_any 3 3 511 p2 (pw hol) (by have := pos_lt hz2'; omega) (by have := pos_lt hz3'; omega) W
      clear hp2' hz1' hz2' hz3'
      generalize pw hol = P2 at *
      go_wp2_with fail
      refine (HM2.out _).mono ?_
      rintro e wM ⟨rfl, hbM⟩
      have HBM := Lib.hid (HBT.out.trans (hbM.mono HBT.out.size))
      have gM := hbM.size
      clear hbM
      go_wp2_with (first | (go_at_call 21; (with_reducible refine (HI2.out _).mono ?_); rintro e w' ⟨rfl, hb⟩; have gN := hb.size; (try simp only [World.size_alloc] at gN)) | (go_at_call 46; (with_reducible refine (HN0.out _).mono ?_); rintro e w' ⟨rfl, hb⟩; have gN2 := hb.size; (try simp only [World.size_alloc] at gN2)))
      all_goals have hbf := HBM.out
      all_goals have gF := hbf.size
      all_goals go_ret
      all_goals exact ⟨rfl, by (repeat' first | (with_reducible exact Below.refl _ _) | (with_reducible refine Below.alloc ?_ ?_ _) | (with_reducible refine Below.drew ?_) | (with_reducible refine Below.setCell ?_ ?_ _) | (with_reducible refine below_via (by assumption) ?_ ?_) | (with_reducible assumption) | ((try simp only [World.size_alloc, World.size_setCell, World.size_drew] at *); omega) | go_size)⟩
    · have HM2 : Hid (∀ W, Calls Try.prog 48 #[.agg #[.int .i64 3, .int .i64 3, .int .i64 511], .int .i64 hol, .int .i64 3, .int .i64 0] W fun e w' => e = .returned (optPz 3 3 511 hol (makePuzzle 3 3 511 hol 3 0)) ∧ Below W.heap.size W w') := fun W => sMakePuzzle_any 3 3 511 hol 3 0 (by omega) W
      generalize makePuzzle 3 3 511 hol 3 0 = M2 at *
      cases M2
      · simp only [optPz] at HM2
        go_wp2_with fail
        refine (HM2.out _).mono ?_
        rintro e wM ⟨rfl, hbM⟩
        have HBM := Lib.hid (HBT.out.trans (hbM.mono HBT.out.size))
        have gM := hbM.size
        clear hbM
        go_wp2_with (first | (go_at_call 46; (with_reducible refine (HN0.out _).mono ?_); rintro e w' ⟨rfl, hb⟩; have gN2 := hb.size; (try simp only [World.size_alloc] at gN2)))
        all_goals have hbf := HBM.out
        all_goals have gF := hbf.size
        all_goals go_ret
        all_goals exact ⟨rfl, by (repeat' first | (with_reducible exact Below.refl _ _) | (with_reducible refine Below.alloc ?_ ?_ _) | (with_reducible refine Below.drew ?_) | (with_reducible refine Below.setCell ?_ ?_ _) | (with_reducible refine below_via (by assumption) ?_ ?_) | (with_reducible assumption) | ((try simp only [World.size_alloc, World.size_setCell, World.size_drew] at *); omega) | go_size)⟩
      · simp only [optPz] at HM2
        go_wp2_with fail
        refine (HM2.out _).mono ?_
        rintro e wM ⟨rfl, hbM⟩
        have HBM := Lib.hid (HBT.out.trans (hbM.mono HBT.out.size))
        have gM := hbM.size
        clear hbM
        go_wp2_with (first | (go_at_call 46; (with_reducible refine (HN0.out _).mono ?_); rintro e w' ⟨rfl, hb⟩; have gN2 := hb.size; (try simp only [World.size_alloc] at gN2)))
        all_goals have hbf := HBM.out
        all_goals have gF := hbf.size
        all_goals go_ret
        all_goals exact ⟨rfl, by (repeat' first | (with_reducible exact Below.refl _ _) | (with_reducible refine Below.alloc ?_ ?_ _) | (with_reducible refine Below.drew ?_) | (with_reducible refine Below.setCell ?_ ?_ _) | (with_reducible refine below_via (by assumption) ?_ ?_) | (with_reducible assumption) | ((try simp only [World.size_alloc, World.size_setCell, World.size_drew] at *); omega) | go_size)⟩
  · rw [if_neg hLn] at HPz
    simp only [optPz] at HPz
    have hle1 : ((L.length : Int) == n) = false := by simpa using hLn
    have hle2 : decide (n < (L.length : Int)) = false := by simp; omega
    have HLn := Lib.hid hLn
    clear hLn
    go_wp2_with fail
    refine (HPz.out _).mono ?_
    rintro e wA ⟨rfl, hbA⟩
    have gA := hbA.size
    have gB : w1.heap.size < wA.heap.size := by omega
    have hboxA : ∀ j, wA.cell? ⟨w1.heap.size, j, none⟩ = #[Value.int .i64 a, .int .i64 3, .int .i64 o][j]? := fun j => (hbA.cell hs3).trans (hbox3 j)
    have HBA := Lib.hid (show Below w3.heap.size w3 (wA.alloc (.cells #[.int .i64 0, .int .i64 0, .int .i64 0, .int .i64 0, .int .i64 0] 29)) from hbA.alloc gA _)
    clear hbA hbox3
    go_wp2_with fail
    refine (HPz.out _).mono ?_
    rintro e wB ⟨rfl, hbB⟩
    have gC := hbB.size
    simp only [World.size_alloc] at gC
    have hboxB : ∀ j, wB.cell? ⟨w1.heap.size, j, none⟩ = #[Value.int .i64 a, .int .i64 3, .int .i64 o][j]? := fun j => (hbB.cell (by simp; omega)).trans (by simp [go_sem, *])
    have hxB : ∀ j, wB.cell? ⟨wA.heap.size, j, none⟩ = #[Value.int .i64 0, .int .i64 0, .int .i64 0, .int .i64 0, .int .i64 0][j]? := fun j => (hbB.cell (by simp)).trans (by simp)
    have HBB := Lib.hid (show Below w3.heap.size w3 (wB.alloc (.cells #[.int .i64 0, .int .i64 0, .int .i64 0, .int .i64 0, .int .i64 0] 29)) from (HBA.out.trans (hbB.mono (by simp; omega))).alloc (by omega) _)
    clear hbB hboxA HBA
    go_wp2_with fail
    obtain ⟨w5, hw5⟩ : ∃ w5 : World, w5 = wB.alloc (.cells #[.int .i64 0, .int .i64 0, .int .i64 0, .int .i64 0, .int .i64 0] 29) := ⟨_, rfl⟩
    have hB5 : ∀ j, w5.cell? ⟨w1.heap.size, j, none⟩ = #[Value.int .i64 a, .int .i64 3, .int .i64 o][j]? := fun j => by rw [hw5]; exact (((Below.refl wB.heap.size wB).alloc (Nat.le_refl _) _).cell (p := ⟨w1.heap.size, j, none⟩) (show w1.heap.size < wB.heap.size by omega)).trans (hboxB j)
    have hX5 : ∀ j, w5.cell? ⟨wA.heap.size, j, none⟩ = #[Value.int .i64 0, .int .i64 0, .int .i64 0, .int .i64 0, .int .i64 0][j]? := fun j => by rw [hw5]; exact (((Below.refl wB.heap.size wB).alloc (Nat.le_refl _) _).cell (p := ⟨wA.heap.size, j, none⟩) (show wA.heap.size < wB.heap.size by omega)).trans (hxB j)
    have hY5 : ∀ j, w5.cell? ⟨wB.heap.size, j, none⟩ = #[Value.int .i64 0, .int .i64 0, .int .i64 0, .int .i64 0, .int .i64 0][j]? := fun j => by rw [hw5]; simp
    have z1 : w1.heap.size < w5.heap.size := by rw [hw5]; simp; omega
    have z2 : wA.heap.size < w5.heap.size := by rw [hw5]; simp; omega
    have z3 : wB.heap.size < w5.heap.size := by rw [hw5]; simp
    rw [← hw5] at HBB
    rw [← hw5]
    clear hw5 hboxB hxB
    go_wp2_with ((with_reducible refine wp_region_qb ?_ ?_ (fun hq => ?_)); (focus kernel_rfl); (focus kernel_rfl); (repeat (go_big_quiet_step ((go_at_call 45; exact Calls.regrown_of (HIS.out _ (HBB.out.trans ((below_regrown _ _ _).mono (by have := HBB.out.size; omega)))))))); refine wpQuiet_nil ?_; intro wq hb; obtain ⟨hc, hf, hz, hy⟩ := bcell hb; clear hq hy; (try simp only [World.size_alloc, World.size_setCell, World.size_drew] at hz); (try have gQ0 : w.heap.size < wq.heap.size := by omega); (try have gQ1 : w.heap.size + 1 < wq.heap.size := by omega); (try have gQ2 : w.heap.size + 1 + 1 < wq.heap.size := by omega); (try have gQ3 : w.heap.size + 1 + 1 + 1 < wq.heap.size := by omega); (try have gQ4 : w.heap.size + 1 + 1 + 1 + 1 < wq.heap.size := by omega); (try have gQ5 : w.heap.size + 1 + 1 + 1 + 1 + 1 < wq.heap.size := by omega); (try have dQ0 : _ < wq.heap.size := Nat.lt_of_lt_of_le dQ0 (by omega)); (try have dQ1 : _ < wq.heap.size := Nat.lt_of_lt_of_le dQ1 (by omega)); (try have dQ2 : _ < wq.heap.size := Nat.lt_of_lt_of_le dQ2 (by omega)); (try have dQ3 : _ < wq.heap.size := Nat.lt_of_lt_of_le dQ3 (by omega)); (try have dQ4 : _ < wq.heap.size := Nat.lt_of_lt_of_le dQ4 (by omega)); (try have dQ5 : _ < wq.heap.size := Nat.lt_of_lt_of_le dQ5 (by omega)); (try (have hnQ := Nat.lt_of_succ_le hz; first | (have _x := dQ0; first | (have _x := dQ1; first | (have _x := dQ2; first | (have _x := dQ3; first | (have _x := dQ4; have dQ5 := hnQ) | have dQ4 := hnQ) | have dQ3 := hnQ) | have dQ2 := hnQ) | have dQ1 := hnQ) | have dQ0 := hnQ)); (try (have hmQ := Nat.lt_of_succ_lt (Nat.lt_of_succ_le hz); first | (have _x := dQ0; first | (have _x := dQ1; first | (have _x := dQ2; first | (have _x := dQ3; first | (have _x := dQ4; have dQ5 := hmQ) | have dQ4 := hmQ) | have dQ3 := hmQ) | have dQ2 := hmQ) | have dQ1 := hmQ) | have dQ0 := hmQ)))
    have HB5 := Lib.hid (show Below w.heap.size w w5 from HBw3.out.trans (HBB.out.mono HBw3.out.size))
    have HBq := Lib.hid (show Below w.heap.size w wq from HB5.out.trans (hb.mono HB5.out.size))
    have hBq : ∀ j, wq.cell? ⟨w1.heap.size, j, none⟩ = #[Value.int .i64 a, .int .i64 3, .int .i64 o][j]? := fun j => (hb.cell z1).trans (hB5 j)
    have hXq : ∀ j, wq.cell? ⟨wA.heap.size, j, none⟩ = #[Value.int .i64 0, .int .i64 0, .int .i64 0, .int .i64 0, .int .i64 0][j]? := fun j => (hb.cell z2).trans (hX5 j)
    have y1 : w1.heap.size < wq.heap.size := by have := hb.size; omega
    have y2 : wA.heap.size < wq.heap.size := by have := hb.size; omega
    clear hb hc hf hB5 hX5 hY5
    refine (HNS.out _).mono ?_
    rintro e wN ⟨rfl, hbN⟩
    have HBn := Lib.hid (HBq.out.trans (hbN.mono HBq.out.size))
    have hBn : ∀ j, wN.cell? ⟨w1.heap.size, j, none⟩ = #[Value.int .i64 a, .int .i64 3, .int .i64 o][j]? := fun j => (hbN.cell y1).trans (hBq j)
    have hXn : ∀ j, wN.cell? ⟨wA.heap.size, j, none⟩ = #[Value.int .i64 0, .int .i64 0, .int .i64 0, .int .i64 0, .int .i64 0][j]? := fun j => (hbN.cell y2).trans (hXq j)
    have x1 : w1.heap.size < wN.heap.size := by have := hbN.size; omega
    have x2 : wA.heap.size < wN.heap.size := by have := hbN.size; omega
    clear hbN hBq hXq
    go_wp2_with ((with_reducible refine wp_region_qb ?_ ?_ (fun hq => ?_)); (focus kernel_rfl); (focus kernel_rfl); (repeat (go_big_quiet_step (fail))); refine wpQuiet_nil ?_; intro wq hb; obtain ⟨hc, hf, hz, hy⟩ := bcell hb; clear hq hy; (try simp only [World.size_alloc, World.size_setCell, World.size_drew] at hz); (try have gQ0 : w.heap.size < wq.heap.size := by omega); (try have gQ1 : w.heap.size + 1 < wq.heap.size := by omega); (try have gQ2 : w.heap.size + 1 + 1 < wq.heap.size := by omega); (try have gQ3 : w.heap.size + 1 + 1 + 1 < wq.heap.size := by omega); (try have gQ4 : w.heap.size + 1 + 1 + 1 + 1 < wq.heap.size := by omega); (try have gQ5 : w.heap.size + 1 + 1 + 1 + 1 + 1 < wq.heap.size := by omega); (try have dQ0 : _ < wq.heap.size := Nat.lt_of_lt_of_le dQ0 (by omega)); (try have dQ1 : _ < wq.heap.size := Nat.lt_of_lt_of_le dQ1 (by omega)); (try have dQ2 : _ < wq.heap.size := Nat.lt_of_lt_of_le dQ2 (by omega)); (try have dQ3 : _ < wq.heap.size := Nat.lt_of_lt_of_le dQ3 (by omega)); (try have dQ4 : _ < wq.heap.size := Nat.lt_of_lt_of_le dQ4 (by omega)); (try have dQ5 : _ < wq.heap.size := Nat.lt_of_lt_of_le dQ5 (by omega)); (try (have hnQ := Nat.lt_of_succ_le hz; first | (have _x := dQ0; first | (have _x := dQ1; first | (have _x := dQ2; first | (have _x := dQ3; first | (have _x := dQ4; have dQ5 := hnQ) | have dQ4 := hnQ) | have dQ3 := hnQ) | have dQ2 := hnQ) | have dQ1 := hnQ) | have dQ0 := hnQ)); (try (have hmQ := Nat.lt_of_succ_lt (Nat.lt_of_succ_le hz); first | (have _x := dQ0; first | (have _x := dQ1; first | (have _x := dQ2; first | (have _x := dQ3; first | (have _x := dQ4; have dQ5 := hmQ) | have dQ4 := hmQ) | have dQ3 := hmQ) | have dQ2 := hmQ) | have dQ1 := hmQ) | have dQ0 := hmQ)))
    have HBZ := Lib.hid (HBn.out.trans (hb.mono HBn.out.size))
    clear hb hc hf hBn hXn HBn
    clear hwr2 hmin
    have hbd := bestSeed_bd (a := 3) (b := 3) (o := 511) (h := hol) (n := 3) 4 (by omega)
    have HBS : Hid (∀ W, Calls Try.prog 47 #[.agg #[.int .i64 3, .int .i64 3, .int .i64 511], .int .i64 hol, .int .i64 3, .int .i64 4] W fun e w' => e = .returned (.int .i64 (bestSeed 3 3 511 hol 3 (4 : Nat))) ∧ Below W.heap.size W w') := fun W => BestSeed_any 3 3 511 hol 3 4 (by omega) W
    generalize bestSeed 3 3 511 hol 3 (4 : Nat) = bs at *
    obtain ⟨bs0, bs1, bs2⟩ := hbd
    have BS2 := Lib.hid bs2
    have hsa := hsv0.1
    have hsb := hsv0.2
    have hsc : (sv != s) = true := by simpa using hsv1
    clear bs2 hsv0 hsv1
    have HN0 : Hid (∀ W, Calls Try.prog 46 #[.int .i64 0] W fun e w' => e = .returned (.int .i64 74) ∧ Below W.heap.size W w') := fun W => NextSeed_any 0 W
    refine (Rectangle_3 _).mono ?_
    rintro e wR ⟨rfl, hbR⟩
    have HBR := Lib.hid (HBZ.out.trans (hbR.mono HBZ.out.size))
    clear hbR
    go_wp2_with fail
    refine (HBS.out _).mono ?_
    rintro e wS ⟨rfl, hbS⟩
    have HBs := Lib.hid (HBR.out.trans (hbS.mono HBR.out.size))
    clear hbS
    go_wp2_with fail
    refine (Rectangle_3 _).mono ?_
    rintro e wT ⟨rfl, hbT⟩
    have HBT := Lib.hid (HBs.out.trans (hbT.mono HBs.out.size))
    clear hbT
    rcases (by omega : 0 < bs ∨ bs = 0 ∨ bs < 0) with hbn | rfl | hbn
    · obtain ⟨p2, hp2'⟩ := Option.isSome_iff_exists.1 (BS2.out (by omega))
      obtain ⟨hz1', hz2', hz3', _, _⟩ := makePuzzle_ok hp2'
      have HM2 : Hid (∀ W, Calls Try.prog 48 #[.agg #[.int .i64 3, .int .i64 3, .int .i64 511], .int .i64 hol, .int .i64 3, .int .i64 bs] W fun e w' => e = .returned (.tuple #[.agg #[.int .i64 3, .int .i64 3, .int .i64 511, .int .i64 p2, .int .i64 (pw hol)], .bool true]) ∧ Below W.heap.size W w') := fun W => by
        have := sMakePuzzle_any 3 3 511 hol 3 bs (by omega) W
        rwa [hp2'] at this
      have HI2 : Hid (∀ W, Calls Try.prog 21 #[.agg #[.int .i64 3, .int .i64 3, .int .i64 511, .int .i64 p2, .int .i64 (pw hol)]] W fun e w' => e = .returned (.bool true) ∧ Below W.heap.size W w') := fun W => by
        rw [← hz1']
        exact sIsSolvable_any 3 3 511 p2 (pw hol) (by have := pos_lt hz2'; omega) (by have := pos_lt hz3'; omega) W
      clear hp2' hz1' hz2' hz3'
      generalize pw hol = P2 at *
      go_wp2_with fail
      refine (HM2.out _).mono ?_
      rintro e wM ⟨rfl, hbM⟩
      have HBM := Lib.hid (HBT.out.trans (hbM.mono HBT.out.size))
      have gM := hbM.size
      clear hbM
      go_wp2_with (first | (go_at_call 21; (with_reducible refine (HI2.out _).mono ?_); rintro e w' ⟨rfl, hb⟩; have gN := hb.size; (try simp only [World.size_alloc] at gN)) | (go_at_call 46; (with_reducible refine (HN0.out _).mono ?_); rintro e w' ⟨rfl, hb⟩; have gN2 := hb.size; (try simp only [World.size_alloc] at gN2)))
      all_goals have hbf := HBM.out
      all_goals have gF := hbf.size
      all_goals go_ret
      all_goals exact ⟨rfl, by (repeat' first | (with_reducible exact Below.refl _ _) | (with_reducible refine Below.alloc ?_ ?_ _) | (with_reducible refine Below.drew ?_) | (with_reducible refine Below.setCell ?_ ?_ _) | (with_reducible refine below_via (by assumption) ?_ ?_) | (with_reducible assumption) | ((try simp only [World.size_alloc, World.size_setCell, World.size_drew] at *); omega) | go_size)⟩
    · obtain ⟨p2, hp2'⟩ := Option.isSome_iff_exists.1 (BS2.out (by omega))
      obtain ⟨hz1', hz2', hz3', _, _⟩ := makePuzzle_ok hp2'
      have HM2 : Hid (∀ W, Calls Try.prog 48 #[.agg #[.int .i64 3, .int .i64 3, .int .i64 511], .int .i64 hol, .int .i64 3, .int .i64 0] W fun e w' => e = .returned (.tuple #[.agg #[.int .i64 3, .int .i64 3, .int .i64 511, .int .i64 p2, .int .i64 (pw hol)], .bool true]) ∧ Below W.heap.size W w') := fun W => by
        have := sMakePuzzle_any 3 3 511 hol 3 0 (by omega) W
        rwa [hp2'] at this
      have HI2 : Hid (∀ W, Calls Try.prog 21 #[.agg #[.int .i64 3, .int .i64 3, .int .i64 511, .int .i64 p2, .int .i64 (pw hol)]] W fun e w' => e = .returned (.bool true) ∧ Below W.heap.size W w') := fun W => by
        rw [← hz1']
        exact sIsSolvable_any 3 3 511 p2 (pw hol) (by have := pos_lt hz2'; omega) (by have := pos_lt hz3'; omega) W
      clear hp2' hz1' hz2' hz3'
      generalize pw hol = P2 at *
      go_wp2_with fail
      refine (HM2.out _).mono ?_
      rintro e wM ⟨rfl, hbM⟩
      have HBM := Lib.hid (HBT.out.trans (hbM.mono HBT.out.size))
      have gM := hbM.size
      clear hbM
      go_wp2_with (first | (go_at_call 21; (with_reducible refine (HI2.out _).mono ?_); rintro e w' ⟨rfl, hb⟩; have gN := hb.size; (try simp only [World.size_alloc] at gN)) | (go_at_call 46; (with_reducible refine (HN0.out _).mono ?_); rintro e w' ⟨rfl, hb⟩; have gN2 := hb.size; (try simp only [World.size_alloc] at gN2)))
      all_goals have hbf := HBM.out
      all_goals have gF := hbf.size
      all_goals go_ret
      all_goals exact ⟨rfl, by (repeat' first | (with_reducible exact Below.refl _ _) | (with_reducible refine Below.alloc ?_ ?_ _) | (with_reducible refine Below.drew ?_) | (with_reducible refine Below.setCell ?_ ?_ _) | (with_reducible refine below_via (by assumption) ?_ ?_) | (with_reducible assumption) | ((try simp only [World.size_alloc, World.size_setCell, World.size_drew] at *); omega) | go_size)⟩
    · have HM2 : Hid (∀ W, Calls Try.prog 48 #[.agg #[.int .i64 3, .int .i64 3, .int .i64 511], .int .i64 hol, .int .i64 3, .int .i64 0] W fun e w' => e = .returned (optPz 3 3 511 hol (makePuzzle 3 3 511 hol 3 0)) ∧ Below W.heap.size W w') := fun W => sMakePuzzle_any 3 3 511 hol 3 0 (by omega) W
      generalize makePuzzle 3 3 511 hol 3 0 = M2 at *
      cases M2
      · simp only [optPz] at HM2
        go_wp2_with fail
        refine (HM2.out _).mono ?_
        rintro e wM ⟨rfl, hbM⟩
        have HBM := Lib.hid (HBT.out.trans (hbM.mono HBT.out.size))
        have gM := hbM.size
        clear hbM
        go_wp2_with (first | (go_at_call 46; (with_reducible refine (HN0.out _).mono ?_); rintro e w' ⟨rfl, hb⟩; have gN2 := hb.size; (try simp only [World.size_alloc] at gN2)))
        all_goals have hbf := HBM.out
        all_goals have gF := hbf.size
        all_goals go_ret
        all_goals exact ⟨rfl, by (repeat' first | (with_reducible exact Below.refl _ _) | (with_reducible refine Below.alloc ?_ ?_ _) | (with_reducible refine Below.drew ?_) | (with_reducible refine Below.setCell ?_ ?_ _) | (with_reducible refine below_via (by assumption) ?_ ?_) | (with_reducible assumption) | ((try simp only [World.size_alloc, World.size_setCell, World.size_drew] at *); omega) | go_size)⟩
      · simp only [optPz] at HM2
        go_wp2_with fail
        refine (HM2.out _).mono ?_
        rintro e wM ⟨rfl, hbM⟩
        have HBM := Lib.hid (HBT.out.trans (hbM.mono HBT.out.size))
        have gM := hbM.size
        clear hbM
        go_wp2_with (first | (go_at_call 46; (with_reducible refine (HN0.out _).mono ?_); rintro e w' ⟨rfl, hb⟩; have gN2 := hb.size; (try simp only [World.size_alloc] at gN2)))
        all_goals have hbf := HBM.out
        all_goals have gF := hbf.size
        all_goals go_ret
        all_goals exact ⟨rfl, by (repeat' first | (with_reducible exact Below.refl _ _) | (with_reducible refine Below.alloc ?_ ?_ _) | (with_reducible refine Below.drew ?_) | (with_reducible refine Below.setCell ?_ ?_ _) | (with_reducible refine below_via (by assumption) ?_ ?_) | (with_reducible assumption) | ((try simp only [World.size_alloc, World.size_setCell, World.size_drew] at *); omega) | go_size)⟩

set_option maxRecDepth 100000 in
theorem law_walk : LawWalk 7 Try.f7.params.toList := by
  intro H enc W base args ds ps hval hA
  rw [Try.params7] at hA hval
  obtain ⟨v0, vs0, d0, ds0, p0, q0, hargs, rfl, rfl, h0, r0⟩ := trodAll_cons hA
  obtain ⟨rfl, rfl, rfl⟩ := trodAll_nil r0
  obtain rfl : args = #[v0] := by cases args; simp_all
  obtain ⟨l0, rd0, ok0⟩ := arg_ByteS (hval 0 _ _ rfl rfl) h0
  exact law_any v0 l0 W rd0 ok0

set_option maxRecDepth 100000 in
theorem lifted (os : Os) (started : os.Started) (H : Type) (enc : TypeId × Value → H) :
    ReturnsInHanded {} Try.checked os 7 .any (Rows.fnMadeSpec.pre6 enc Try.prog Try.f7 Rows.fnMadeRow.domain false) (Rows.fnMadeSpec.post enc Try.prog Try.f7 false true false false) :=
  law_lift started (by kernel_rfl) Try.func7
    (ChangeSpec.witness6 (enc := enc) (C := Try.checked) false ⟨#[], #[.slice none 0 0], []⟩ 8 (by kernel_rfl) (by kernel_rfl) (by kernel_rfl) (by kernel_rfl))
    rfl rfl (readable_all (by kernel_rfl)) (by intro ds h; match ds, h with | [a0], _ => rfl) law_walk

theorem over : Rows.fnMadeRow.holds Try.pinned (OpenSpec.ofChange Rows.fnMadeSpec) :=
  OpenClaim.holds_of_wide 7 Try.f7 rfl rfl rfl rfl rfl rfl rfl ⟨rfl, rfl, rfl, rfl, rfl⟩ rfl rfl rfl rfl rfl (by kernel_rfl) Try.func7 (by kernel_rfl)
    (of_decide_eq_true (by kernel_rfl)) (by unfold Func.isWrapper; first | (rw [if_pos (by decide +kernel)]; kernel_rfl) | (rw [if_neg (by decide +kernel)]; exact ⟨rfl, rfl⟩))
    (fun os started H enc _ => lifted os started H enc)

theorem proved : Rows.FnMadeSaid := over
#print axioms proved
end Go.Proofs.Ytfpofhkggojaoaa.fnMade
