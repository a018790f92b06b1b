/- Of three results, the better of the better is the better one, for all drawn codes. No condition. -/
import Derived.Test.YtfpofhkggojaoaaScores0
import Derived.Test.YtfpofhkggojaoaaDrawS
import Derived.Test.YtfpofhkggojaoaaDrawG4
import Derived.Test.YtfpofhkggojaoaaPlayAll
import Derived.Test.YtfpofhkggojaoaaOpen
import Derived.Deep.DeepCutAuto
import Derived.Deep.Cut
set_option linter.unusedVariables false
set_option linter.unusedSimpArgs false
namespace Go.Proofs.Ytfpofhkggojaoaa.fnScores
open Go.ChangeShapes Go.WideShapes Go.ChangeAt Go.RowKit Peg Go.Sort
/-- what is kept through the calls: two results, a board, a game of the calls' own -/
structure Bag (A X base : Nat) (a1 : Int) (a2 : Bool) (a3 a4 b1 : Int) (b2 : Bool) (b3 b4 a b o : Int) (vL : Value) (L : List Ln) (w W : World) : Prop where
  ra : ∀ j, W.cell? ⟨A, j, none⟩ = #[Value.int .i64 a1, .bool a2, .int .i64 a3, .int .i64 a4][j]?
  rb : ∀ j, W.cell? ⟨A + 1, j, none⟩ = #[Value.int .i64 b1, .bool b2, .int .i64 b3, .int .i64 b4][j]?
  rx : ∀ j, W.cell? ⟨X, j, none⟩ = #[Value.int .i64 a, .int .i64 b, .int .i64 o][j]?
  own : Own ELine W base vL L
  bel : Below w.heap.size w W
  za : A + 1 < W.heap.size
  zx : X < W.heap.size
theorem Bag.keep {A X base : Nat} {a1 : Int} {a2 : Bool} {a3 a4 b1 : Int} {b2 : Bool} {b3 b4 a b o : Int} {vL : Value} {L : List Ln} {w W W' : World} (h : Bag A X base a1 a2 a3 a4 b1 b2 b3 b4 a b o vL L w W) (hb : Below W.heap.size W W') : Bag A X base a1 a2 a3 a4 b1 b2 b3 b4 a b o vL L w W' :=
  ⟨fun j => (hb.cell (p := ⟨A, j, none⟩) (Nat.lt_of_succ_lt h.za)).trans (h.ra j), fun j => (hb.cell (p := ⟨A + 1, j, none⟩) h.za).trans (h.rb j), fun j => (hb.cell (p := ⟨X, j, none⟩) h.zx).trans (h.rx j), h.own.keep hb, h.bel.trans (hb.mono h.bel.size), Nat.lt_of_lt_of_le h.za hb.size, Nat.lt_of_lt_of_le h.zx hb.size⟩
set_option maxHeartbeats 40000000 in
set_option maxRecDepth 100000 in
theorem law_any (v : Value) (l : List Int) (w : World) (hv : Rd EBy w v l) (hok : ∀ y ∈ l, ByOk y) :
    Calls Try.prog 6 #[v] w fun e w' => e = .returned (.bool true) ∧ Below w.heap.size w w' := by
  by_cases hl : 1048576 < l.length
  · have HB : Hid (∀ W, Rd EBy W v l → Calls Try.prog 19 #[v] W fun e w' => e = .returned (.bool true) ∧ W = w') := fun W hW => by have h := big_any v l W hW; rwa [decide_eq_true (by omega)] at h
    go_enter Try.func6, Try.ntmps6
    go_wp2_with (go_at_call 19; refine (HB.out _ hv).mono ?_; rintro e w' ⟨rfl, rfl⟩)
    all_goals go_ret
    all_goals exact ⟨by simp, Below.refl _ _⟩
  have HB : Hid (∀ W, Rd EBy W v l → Calls Try.prog 19 #[v] W fun e w' => e = .returned (.bool false) ∧ W = w') := fun W hW => by have h := big_any v l W hW; rwa [decide_eq_false (by omega)] at h
  have HV := Lib.hid hv
  have HO := Lib.hid hok
  clear hv hok
  go_enter Try.func6, Try.ntmps6
  go_wp2_with (go_at_call 19; refine (HB.out _ HV.out).mono ?_; rintro e w' ⟨rfl, rfl⟩)
  refine (DrawResults_any v l w HV.out HO.out (by omega)).mono ?_
  rintro e w0 ⟨⟨a1, a2, a3, a4⟩, ⟨b1, b2, b3, b4⟩, ⟨c1, c2, c3, c4⟩, rfl, ha, hb, hc, hb0⟩
  have HB0 := Lib.hid hb0
  have hA := ha.ok
  have hBo := hb.ok
  have hC := hc.ok
  have HT1 := Lib.hid (tieR_eq hA hBo)
  have HAS1 := Lib.hid (fun h => bet_asym hA hBo h)
  have HTR := Lib.hid (fun h h2 => bet_trans hA hBo hC h h2)
  have HTT := Lib.hid (fun h h2 => tie_trans hA hBo hC h h2)
  have HPT := Lib.hid (fun h => bet_pts hA hBo h)
  have HOKa : Hid (∀ W, Calls Try.prog 38 #[.agg #[.int .i64 a1, .bool a2, .int .i64 a3, .int .i64 a4]] W fun e w' => e = .returned (.bool true) ∧ Below W.heap.size W w') := fun W => by rw [← hA]; exact ResultOk_any a1 a2 a3 a4 W
  have HAB := Lib.hid (fun W => IsBetter_any a1 a2 a3 a4 b1 b2 b3 b4 W)
  have HBA := Lib.hid (fun W => IsBetter_any b1 b2 b3 b4 a1 a2 a3 a4 W)
  have HBC := Lib.hid (fun W => IsBetter_any b1 b2 b3 b4 c1 c2 c3 c4 W)
  have HAC := Lib.hid (fun W => IsBetter_any a1 a2 a3 a4 c1 c2 c3 c4 W)
  have TAB := Lib.hid (fun W => AreTied_any a1 a2 a3 a4 b1 b2 b3 b4 W)
  have TBC := Lib.hid (fun W => AreTied_any b1 b2 b3 b4 c1 c2 c3 c4 W)
  have TAC := Lib.hid (fun W => AreTied_any a1 a2 a3 a4 c1 c2 c3 c4 W)
  have PA := Lib.hid (fun W => PointsOf_any a1 a2 a3 a4 W)
  have PB := Lib.hid (fun W => PointsOf_any b1 b2 b3 b4 W)
  simp only [betR, tieR, ptsR] at HT1 HAS1 HTR HTT HPT
  clear hb0 ha hb hc hA hBo hC
  generalize isBetter a1 a2 a3 a4 b1 b2 b3 b4 = ab at *
  generalize isBetter b1 b2 b3 b4 a1 a2 a3 a4 = ba at *
  generalize isBetter b1 b2 b3 b4 c1 c2 c3 c4 = bc' at *
  generalize isBetter a1 a2 a3 a4 c1 c2 c3 c4 = ac' at *
  generalize areTied a1 a2 a3 a4 b1 b2 b3 b4 = tab at *
  generalize areTied b1 b2 b3 b4 c1 c2 c3 c4 = tbc at *
  generalize areTied a1 a2 a3 a4 c1 c2 c3 c4 = tac at *
  generalize pointsOf a1 a2 a3 a4 = pa at *
  generalize pointsOf b1 b2 b3 b4 = pb at *
  have hz0 := HB0.out.size
  go_upto_region 4 with fail
  obtain ⟨w1, hw1⟩ : ∃ w1 : World, w1 = ((w0.alloc (.cells #[.int .i64 a1, .bool a2, .int .i64 a3, .int .i64 a4] 56)).alloc (.cells #[.int .i64 b1, .bool b2, .int .i64 b3, .int .i64 b4] 56)).alloc (.cells #[.int .i64 c1, .bool c2, .int .i64 c3, .int .i64 c4] 56) := ⟨_, rfl⟩
  have hA1 : ∀ j, w1.cell? ⟨w0.heap.size, j, none⟩ = #[Value.int .i64 a1, .bool a2, .int .i64 a3, .int .i64 a4][j]? := fun j => by rw [hw1]; simp [go_sem]
  have hB1 : ∀ j, w1.cell? ⟨w0.heap.size + 1, j, none⟩ = #[Value.int .i64 b1, .bool b2, .int .i64 b3, .int .i64 b4][j]? := fun j => by rw [hw1]; simp [go_sem]
  have hC1 : ∀ j, w1.cell? ⟨w0.heap.size + 1 + 1, j, none⟩ = #[Value.int .i64 c1, .bool c2, .int .i64 c3, .int .i64 c4][j]? := fun j => by rw [hw1]; simp [go_sem]
  have hz1 : w0.heap.size + 1 + 1 < w1.heap.size := by rw [hw1]; simp
  have hz11 : w0.heap.size + 1 < w1.heap.size := by omega
  have hz12 : w0.heap.size < w1.heap.size := by omega
  have HB1 : Hid (Below w.heap.size w w1) := by
    show Below w.heap.size w w1
    rw [hw1]
    have := HB0.out
    (repeat' first | (with_reducible exact Below.refl _ _) | (with_reducible refine Below.alloc ?_ ?_ _) | (with_reducible refine Below.drew ?_) | (with_reducible refine Below.setCell ?_ ?_ _) | (with_reducible refine below_via (by assumption) ?_ ?_) | (with_reducible assumption) | ((try simp only [World.size_alloc, World.size_setCell, World.size_drew] at *); omega) | go_size)
  rw [← hw1]
  clear hw1
  go_cut [77] (fun u wx => u = .bool false ∧ Below w1.heap.size w1 wx)
  case first =>
    cases ab
    · cases ba
      · obtain rfl : tab = true := HT1.out
        cases tbc
        · (with_reducible refine wp_region_qb ?_ ?_ (fun hq => ?_)); (focus kernel_rfl); (focus kernel_rfl); (repeat (go_big_quiet_step ((first | (go_at_call 30; first | (with_reducible exact Calls.regrown_of (HAB.out _)) | (with_reducible exact Calls.regrown_of (HBA.out _)) | (with_reducible exact Calls.regrown_of (HBC.out _)) | (with_reducible exact Calls.regrown_of (HAC.out _))) | (go_at_call 31; first | (with_reducible exact Calls.regrown_of (TAB.out _)) | (with_reducible exact Calls.regrown_of (TBC.out _)) | (with_reducible exact Calls.regrown_of (TAC.out _))))))); refine wpQuiet_nil ?_; intro wq hb; go_wp2_with fail; go_meet; (case rel => exact ⟨rfl, hb⟩)
        · obtain rfl : tac = true := HTT.out rfl rfl
          (with_reducible refine wp_region_qb ?_ ?_ (fun hq => ?_)); (focus kernel_rfl); (focus kernel_rfl); (repeat (go_big_quiet_step ((first | (go_at_call 30; first | (with_reducible exact Calls.regrown_of (HAB.out _)) | (with_reducible exact Calls.regrown_of (HBA.out _)) | (with_reducible exact Calls.regrown_of (HBC.out _)) | (with_reducible exact Calls.regrown_of (HAC.out _))) | (go_at_call 31; first | (with_reducible exact Calls.regrown_of (TAB.out _)) | (with_reducible exact Calls.regrown_of (TBC.out _)) | (with_reducible exact Calls.regrown_of (TAC.out _))))))); refine wpQuiet_nil ?_; intro wq hb; go_wp2_with fail; go_meet; (case rel => exact ⟨rfl, hb⟩)
      · obtain rfl : tab = false := HT1.out
        (with_reducible refine wp_region_qb ?_ ?_ (fun hq => ?_)); (focus kernel_rfl); (focus kernel_rfl); (repeat (go_big_quiet_step ((first | (go_at_call 30; first | (with_reducible exact Calls.regrown_of (HAB.out _)) | (with_reducible exact Calls.regrown_of (HBA.out _)) | (with_reducible exact Calls.regrown_of (HBC.out _)) | (with_reducible exact Calls.regrown_of (HAC.out _))) | (go_at_call 31; first | (with_reducible exact Calls.regrown_of (TAB.out _)) | (with_reducible exact Calls.regrown_of (TBC.out _)) | (with_reducible exact Calls.regrown_of (TAC.out _))))))); refine wpQuiet_nil ?_; intro wq hb; go_wp2_with fail; go_meet; (case rel => exact ⟨rfl, hb⟩)
    · obtain rfl : ba = false := HAS1.out rfl
      obtain rfl : tab = false := HT1.out
      cases bc'
      · (with_reducible refine wp_region_qb ?_ ?_ (fun hq => ?_)); (focus kernel_rfl); (focus kernel_rfl); (repeat (go_big_quiet_step ((first | (go_at_call 30; first | (with_reducible exact Calls.regrown_of (HAB.out _)) | (with_reducible exact Calls.regrown_of (HBA.out _)) | (with_reducible exact Calls.regrown_of (HBC.out _)) | (with_reducible exact Calls.regrown_of (HAC.out _))) | (go_at_call 31; first | (with_reducible exact Calls.regrown_of (TAB.out _)) | (with_reducible exact Calls.regrown_of (TBC.out _)) | (with_reducible exact Calls.regrown_of (TAC.out _))))))); refine wpQuiet_nil ?_; intro wq hb; go_wp2_with fail; go_meet; (case rel => exact ⟨rfl, hb⟩)
      · obtain rfl : ac' = true := HTR.out rfl rfl
        (with_reducible refine wp_region_qb ?_ ?_ (fun hq => ?_)); (focus kernel_rfl); (focus kernel_rfl); (repeat (go_big_quiet_step ((first | (go_at_call 30; first | (with_reducible exact Calls.regrown_of (HAB.out _)) | (with_reducible exact Calls.regrown_of (HBA.out _)) | (with_reducible exact Calls.regrown_of (HBC.out _)) | (with_reducible exact Calls.regrown_of (HAC.out _))) | (go_at_call 31; first | (with_reducible exact Calls.regrown_of (TAB.out _)) | (with_reducible exact Calls.regrown_of (TBC.out _)) | (with_reducible exact Calls.regrown_of (TAC.out _))))))); refine wpQuiet_nil ?_; intro wq hb; go_wp2_with fail; go_meet; (case rel => exact ⟨rfl, hb⟩)
  obtain ⟨rfl, hb2⟩ := hcut
  obtain ⟨w2, rfl⟩ : ∃ w2 : World, w2 = wc := ⟨_, rfl⟩
  have HB2 := Lib.hid (HB1.out.trans (hb2.mono HB1.out.size))
  have HA2 := Lib.hid (fun j => (hb2.cell (p := ⟨w0.heap.size, j, none⟩) hz12).trans (hA1 j))
  have HBb2 := Lib.hid (fun j => (hb2.cell (p := ⟨w0.heap.size + 1, j, none⟩) hz11).trans (hB1 j))
  have hz2 : w0.heap.size + 1 < w2.heap.size := Nat.lt_of_lt_of_le hz11 hb2.size
  clear hb2 hA1 hB1 hC1 HT1 HAS1 HTR HTT HBA HBC HAC TAB TBC TAC
  go_wp2_with fail
  refine (DrawGame_any v l w2 (HV.out.keep HB2.out) HO.out (by omega)).mono ?_
  rintro e w3 ⟨a, b, o, p, q, L, vL, rfl, hsm, hp, hpt, hq, hL, hown, hb3⟩
  have hz3 := hb3.size
  have HP := Lib.hid hp
  have HQ := Lib.hid hq
  have hboard := Lib.hid (isSmall_iff.1 hsm).1
  have HPA : Hid (playAll a b o p L = some q) := by show _ = _; rw [playAll, if_pos hp, if_pos (by omega), hpt]
  have HRO := Lib.hid (fun c hc => resultOf_played (c := c) hp hL hpt hc)
  have hpl := pos_lt hp
  have hql := pos_lt hq
  have HBG : Hid (Bag w0.heap.size w3.heap.size w2.heap.size a1 a2 a3 a4 b1 b2 b3 b4 a b o vL L w (w3.alloc (.cells #[.int .i64 a, .int .i64 b, .int .i64 o] 27))) :=
    ⟨fun j => (((Below.refl w3.heap.size w3).alloc (Nat.le_refl _) _).cell (p := ⟨w0.heap.size, j, none⟩) (show w0.heap.size < w3.heap.size by omega)).trans ((hb3.cell (p := ⟨w0.heap.size, j, none⟩) (show w0.heap.size < w2.heap.size by omega)).trans (HA2.out j)),
     fun j => (((Below.refl w3.heap.size w3).alloc (Nat.le_refl _) _).cell (p := ⟨w0.heap.size + 1, j, none⟩) (show w0.heap.size + 1 < w3.heap.size by omega)).trans ((hb3.cell (p := ⟨w0.heap.size + 1, j, none⟩) (show w0.heap.size + 1 < w2.heap.size by omega)).trans (HBb2.out j)),
     fun j => by simp, hown.alloc _, (HB2.out.trans (hb3.mono HB2.out.size)).alloc (by have := HB2.out.size; omega) _, by simp; omega, by simp⟩
  clear hsm hp hq hpt hown hb3 HA2 HBb2
  go_wp2_with fail
  have hX4 := HBG.out.rx
  have HPL := Lib.hid (sPlayAll_any a b o p L vL (by omega) _ HBG.out.own)
  rw [HPA.out] at HPL
  simp only [optInt] at HPL
  refine HPL.out.mono ?_
  rintro e w5 ⟨rfl, hb5⟩
  have HG5 := Lib.hid (HBG.out.keep hb5)
  clear hb5 hX4
  have hX5 := HG5.out.rx
  go_wp2_with fail
  refine (sHolesOf_any a b o w5).mono ?_
  rintro e w6 ⟨vH, rfl, hownH, hb6⟩
  have HG6 := Lib.hid (HG5.out.keep hb6)
  have HPOS := Lib.hid (holes_some hboard.out)
  have HHO := Lib.hid (fun x hx => (holesOf_mem (a := a) (b := b) (o := o) (x := x) hx).1)
  obtain ⟨aH, cH, rfl, _, hgH⟩ := hownH.intG
  have HGH := Lib.hid hgH
  have hle := holesOf_length a b o
  clear hb6 hX5 hownH hgH
  generalize holesOf a b o = H at *
  have hpos := HPOS.out
  go_wp2_with fail
  refine (at_any v l 0 (by omega) _ (HV.out.keep HG6.out.bel) HO.out).mono ?_
  rintro e w' ⟨⟨t, rfl, t0, t1⟩, rfl⟩
  have hH0 : (H.length : Int) ≠ 0 := by omega
  obtain ⟨k, hk⟩ : ∃ k : Nat, t % (H.length : Int) = k := ⟨(t % (H.length : Int)).toNat, by have := Int.emod_nonneg t hH0; omega⟩
  have hkl : k < H.length := by have := Int.emod_lt_of_pos t (show (0 : Int) < (H.length : Int) by omega); omega
  obtain ⟨bH, rfl, hbH0, hbH1, hcH⟩ := HGH.out k hkl
  have HK := Lib.hid (HHO.out _ (gD_mem H 0 k hkl))
  have HKM := Lib.hid hk
  have htm : t.tmod (H.length : Int) = k := by rw [← hk]; exact Int.tmod_eq_emod_of_nonneg t0
  clear hH0
  have hX6 := HG6.out.rx
  have hxz6 := HG6.out.zx
  have HRO2 := Lib.hid (HRO.out _ HK.out)
  have HHP := Lib.hid (fun W => sHasPeg_any a b o q (gD H 0 k) (by omega) HQ.out HK.out W)
  have HCP : Hid (∀ W, Calls Try.prog 37 #[.agg #[.int .i64 a, .int .i64 b, .int .i64 o], .int .i64 q] W fun e w' => e = .returned (.int .i64 (pegs q : Nat)) ∧ Below W.heap.size W w') := fun W => by have := sCountPegs_any a b o q (by omega) W; simpa [HQ.out] using this
  have P1 : Hid (∀ W, Calls Try.prog 39 #[.agg #[.int .i64 1, .bool true, .int .i64 0, .int .i64 0]] W fun e w' => e = .returned (.int .i64 125) ∧ Below W.heap.size W w') := fun W => PointsOf_any 1 true 0 0 W
  have HRS : Hid (∀ W, Own ELine W w2.heap.size vL L → Calls Try.prog 36 #[.agg #[.int .i64 a, .int .i64 b, .int .i64 o], .int .i64 p, vL, .int .i64 (gD H 0 k), .int .i64 50] W fun e w' => e = .returned (optRs (resultOf a b o p L (gD H 0 k) 50)) ∧ Below W.heap.size W w') := fun W hW => ResultOf_any a b o p L (gD H 0 k) 50 vL (by omega) W hW
  rw [HRO2.out] at HRS
  simp only [resultAt] at HRS
  clear HRO HRO2
  generalize gD H 0 k = y at *
  generalize tb q y = tq at *
  generalize pegs q = np at *
  by_cases hn : 1 ≤ np
  · rw [if_pos hn] at HRS
    simp only [optRs] at HRS
    have hn1 : decide ((1 : Int) ≤ (np : Nat)) = true := by simp; omega
    go_wp2_with fail
    refine (HRS.out _ HG6.out.own).mono ?_
    rintro e w7 ⟨rfl, hb7⟩
    have hb7a : Below w6.heap.size w6 (w7.alloc (.cells #[.int .i64 (np : Nat), .bool tq, .int .i64 (sweeps L : Nat), .int .i64 50] 56)) := hb7.alloc hb7.size _
    have HG7 := Lib.hid (HG6.out.keep hb7a)
    have hR7 : ∀ j, (w7.alloc (.cells #[.int .i64 (np : Nat), .bool tq, .int .i64 (sweeps L : Nat), .int .i64 50] 56)).cell? ⟨w7.heap.size, j, none⟩ = #[Value.int .i64 (np : Nat), .bool tq, .int .i64 (sweeps L : Nat), .int .i64 50][j]? := fun j => by simp
    have hz7 : w7.heap.size < (w7.alloc (.cells #[.int .i64 (np : Nat), .bool tq, .int .i64 (sweeps L : Nat), .int .i64 50] 56)).heap.size := by simp
    clear hb7 hb7a hX6
    have hX7 := HG7.out.rx
    have hxz7 := HG7.out.zx
    go_wp2_with fail
    refine (HCP.out _).mono ?_
    rintro e w8 ⟨rfl, hb8⟩
    have HG8 := Lib.hid (HG7.out.keep hb8)
    have hR8 : ∀ j, w8.cell? ⟨w7.heap.size, j, none⟩ = #[Value.int .i64 (np : Nat), .bool tq, .int .i64 (sweeps L : Nat), .int .i64 50][j]? := fun j => (hb8.cell hz7).trans (hR7 j)
    have hz8 : w7.heap.size < w8.heap.size := Nat.lt_of_lt_of_le hz7 hb8.size
    clear hb8 hX7 hR7 hz7 hxz7
    have hX8 := HG8.out.rx
    have hA8 := HG8.out.ra
    have hB8 := HG8.out.rb
    have y0 := HG8.out.zx
    have y1 := HG8.out.za
    have y2 : w0.heap.size < w8.heap.size := Nat.lt_of_succ_lt y1
    have HSW : Hid (∀ W, Below w8.heap.size w8 W → Calls Try.prog 41 #[vL] W fun e w' => e = .returned (.int .i64 (sweeps L : Nat)) ∧ Below W.heap.size W w') := fun W hW => sCountSweeps_any L vL W (HG8.out.own.keep hW)
    generalize sweeps L = sw at *
    cases ab
    · go_wp2_with ((with_reducible refine wp_region_qb ?_ ?_ (fun hq => ?_)); (focus kernel_rfl); (focus kernel_rfl); (repeat (go_big_quiet_step ((first | (go_at_call 38; exact Calls.regrown_of (HOKa.out _)) | (go_at_call 30; exact Calls.regrown_of (HAB.out _)) | (go_at_call 39; first | (with_reducible exact Calls.regrown_of (PA.out _)) | (with_reducible exact Calls.regrown_of (PB.out _)) | (with_reducible exact Calls.regrown_of (P1.out _))) | (go_at_call 40; exact Calls.regrown_of (HHP.out _)) | (go_at_call 41; exact Calls.regrown_of (HSW.out _ (below_regrown _ _ _))))))); refine wpQuiet_nil ?_; intro wq hb)
      all_goals have hbel := HG8.out.bel
      all_goals go_ret
      all_goals exact ⟨rfl, hbel.trans (hb.mono hbel.size)⟩
    · have hpp : decide (pb ≤ pa) = true := decide_eq_true (HPT.out rfl)
      go_wp2_with ((with_reducible refine wp_region_qb ?_ ?_ (fun hq => ?_)); (focus kernel_rfl); (focus kernel_rfl); (repeat (go_big_quiet_step ((first | (go_at_call 38; exact Calls.regrown_of (HOKa.out _)) | (go_at_call 30; exact Calls.regrown_of (HAB.out _)) | (go_at_call 39; first | (with_reducible exact Calls.regrown_of (PA.out _)) | (with_reducible exact Calls.regrown_of (PB.out _)) | (with_reducible exact Calls.regrown_of (P1.out _))) | (go_at_call 40; exact Calls.regrown_of (HHP.out _)) | (go_at_call 41; exact Calls.regrown_of (HSW.out _ (below_regrown _ _ _))))))); refine wpQuiet_nil ?_; intro wq hb)
      all_goals have hbel := HG8.out.bel
      all_goals go_ret
      all_goals exact ⟨rfl, hbel.trans (hb.mono hbel.size)⟩
  · rw [if_neg hn] at HRS
    simp only [optRs] at HRS
    have hn1 : decide ((1 : Int) ≤ (np : Nat)) = false := by simp; omega
    go_wp2_with fail
    refine (HRS.out _ HG6.out.own).mono ?_
    rintro e w7 ⟨rfl, hb7⟩
    have hb7a : Below w6.heap.size w6 (w7.alloc (.cells #[.int .i64 0, .bool false, .int .i64 0, .int .i64 0] 56)) := hb7.alloc hb7.size _
    have HG7 := Lib.hid (HG6.out.keep hb7a)
    have hR7 : ∀ j, (w7.alloc (.cells #[.int .i64 0, .bool false, .int .i64 0, .int .i64 0] 56)).cell? ⟨w7.heap.size, j, none⟩ = #[Value.int .i64 0, .bool false, .int .i64 0, .int .i64 0][j]? := fun j => by simp
    have hz7 : w7.heap.size < (w7.alloc (.cells #[.int .i64 0, .bool false, .int .i64 0, .int .i64 0] 56)).heap.size := by simp
    clear hb7 hb7a hX6
    have hX7 := HG7.out.rx
    have hxz7 := HG7.out.zx
    go_wp2_with fail
    refine (HCP.out _).mono ?_
    rintro e w8 ⟨rfl, hb8⟩
    have HG8 := Lib.hid (HG7.out.keep hb8)
    have hR8 : ∀ j, w8.cell? ⟨w7.heap.size, j, none⟩ = #[Value.int .i64 0, .bool false, .int .i64 0, .int .i64 0][j]? := fun j => (hb8.cell hz7).trans (hR7 j)
    have hz8 : w7.heap.size < w8.heap.size := Nat.lt_of_lt_of_le hz7 hb8.size
    clear hb8 hX7 hR7 hz7 hxz7
    have hX8 := HG8.out.rx
    have hA8 := HG8.out.ra
    have hB8 := HG8.out.rb
    have y0 := HG8.out.zx
    have y1 := HG8.out.za
    have y2 : w0.heap.size < w8.heap.size := Nat.lt_of_succ_lt y1
    have HSW : Hid (∀ W, Below w8.heap.size w8 W → Calls Try.prog 41 #[vL] W fun e w' => e = .returned (.int .i64 (sweeps L : Nat)) ∧ Below W.heap.size W w') := fun W hW => sCountSweeps_any L vL W (HG8.out.own.keep hW)
    generalize sweeps L = sw at *
    cases ab
    · go_wp2_with ((with_reducible refine wp_region_qb ?_ ?_ (fun hq => ?_)); (focus kernel_rfl); (focus kernel_rfl); (repeat (go_big_quiet_step ((first | (go_at_call 38; exact Calls.regrown_of (HOKa.out _)) | (go_at_call 30; exact Calls.regrown_of (HAB.out _)) | (go_at_call 39; first | (with_reducible exact Calls.regrown_of (PA.out _)) | (with_reducible exact Calls.regrown_of (PB.out _)) | (with_reducible exact Calls.regrown_of (P1.out _))) | (go_at_call 40; exact Calls.regrown_of (HHP.out _)) | (go_at_call 41; exact Calls.regrown_of (HSW.out _ (below_regrown _ _ _))))))); refine wpQuiet_nil ?_; intro wq hb)
      all_goals have hbel := HG8.out.bel
      all_goals go_ret
      all_goals exact ⟨rfl, hbel.trans (hb.mono hbel.size)⟩
    · have hpp : decide (pb ≤ pa) = true := decide_eq_true (HPT.out rfl)
      go_wp2_with ((with_reducible refine wp_region_qb ?_ ?_ (fun hq => ?_)); (focus kernel_rfl); (focus kernel_rfl); (repeat (go_big_quiet_step ((first | (go_at_call 38; exact Calls.regrown_of (HOKa.out _)) | (go_at_call 30; exact Calls.regrown_of (HAB.out _)) | (go_at_call 39; first | (with_reducible exact Calls.regrown_of (PA.out _)) | (with_reducible exact Calls.regrown_of (PB.out _)) | (with_reducible exact Calls.regrown_of (P1.out _))) | (go_at_call 40; exact Calls.regrown_of (HHP.out _)) | (go_at_call 41; exact Calls.regrown_of (HSW.out _ (below_regrown _ _ _))))))); refine wpQuiet_nil ?_; intro wq hb)
      all_goals have hbel := HG8.out.bel
      all_goals go_ret
      all_goals exact ⟨rfl, hbel.trans (hb.mono hbel.size)⟩

set_option maxRecDepth 100000 in
theorem law_walk : LawWalk 6 Try.f6.params.toList := by
  intro H enc W base args ds ps hval hA
  rw [Try.params6] at hA hval
  obtain ⟨v0, vs0, d0, ds0, p0, q0, hargs, rfl, rfl, h0, r0⟩ := trodAll_cons hA
  obtain ⟨rfl, rfl, rfl⟩ := trodAll_nil r0
  obtain rfl : args = #[v0] := by cases args; simp_all
  obtain ⟨l0, rd0, ok0⟩ := arg_ByteS (hval 0 _ _ rfl rfl) h0
  exact law_any v0 l0 W rd0 ok0

set_option maxRecDepth 100000 in
theorem lifted (os : Os) (started : os.Started) (H : Type) (enc : TypeId × Value → H) :
    ReturnsInHanded {} Try.checked os 6 .any (Rows.fnScoresSpec.pre6 enc Try.prog Try.f6 Rows.fnScoresRow.domain false) (Rows.fnScoresSpec.post enc Try.prog Try.f6 false true false false) :=
  law_lift started (by kernel_rfl) Try.func6
    (ChangeSpec.witness6 (enc := enc) (C := Try.checked) false ⟨#[], #[.slice none 0 0], []⟩ 8 (by kernel_rfl) (by kernel_rfl) (by kernel_rfl) (by kernel_rfl))
    rfl rfl (readable_all (by kernel_rfl)) (by intro ds h; match ds, h with | [a0], _ => rfl) law_walk

theorem over : Rows.fnScoresRow.holds Try.pinned (OpenSpec.ofChange Rows.fnScoresSpec) :=
  OpenClaim.holds_of_wide 6 Try.f6 rfl rfl rfl rfl rfl rfl rfl ⟨rfl, rfl, rfl, rfl, rfl⟩ rfl rfl rfl rfl rfl (by kernel_rfl) Try.func6 (by kernel_rfl)
    (of_decide_eq_true (by kernel_rfl)) (by unfold Func.isWrapper; first | (rw [if_pos (by decide +kernel)]; kernel_rfl) | (rw [if_neg (by decide +kernel)]; exact ⟨rfl, rfl⟩))
    (fun os started H enc _ => lifted os started H enc)

theorem proved : Rows.FnScoresSaid := over
#print axioms proved
end Go.Proofs.Ytfpofhkggojaoaa.fnScores
