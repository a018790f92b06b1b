/- Prizes are divided without more than there is, and nobody is ranked below a worse one, for all drawn codes. No condition. -/
import Derived.Test.YtfpofhkggojaoaaCont0
import Derived.Test.YtfpofhkggojaoaaDrawE
import Derived.Test.YtfpofhkggojaoaaRank2
import Derived.Test.YtfpofhkggojaoaaEnt
import Derived.Test.YtfpofhkggojaoaaOpen
import Derived.Test.YtfpofhkggojaoaaCur
import Derived.Deep.Cut
import Derived.IntWalk
set_option linter.unusedVariables false
set_option linter.unusedSimpArgs false
namespace Go.Proofs.Ytfpofhkggojaoaa.fnContests
open Go.ChangeShapes Go.WideShapes Go.ChangeAt Go.RowKit Peg Go.Sort
theorem lit4c (a b c d : Int) (w : World) (base : Nat) (hb : base ≤ w.heap.size) : Own EInt (w.alloc (.cells #[.int .i64 a, .int .i64 b, .int .i64 c, .int .i64 d] 3)) base (.slice (some ⟨w.heap.size, 0, none⟩) 4 4) [a, b, c, d] := by
  right
  exact ⟨by rfl, .inr ⟨w.heap.size, 4, #[.int .i64 a, .int .i64 b, .int .i64 c, .int .i64 d], by simp, hb, heap_alloc_new w _, by simp, by decide, by rfl, by simp [EInt]⟩⟩
theorem or_pw {a k : Nat} (ha : a < 562949953421312) (hk : k < 12) : bits BinOp.or IntKind.i64 (a : Int) (pw (k : Int)) = ((a ||| 2 ^ k : Nat) : Int) := by
  have h1 := pw_pos (k : Int)
  have h2 := pw_62 (n := (k : Int)) (by omega) (by omega)
  rw [bits_or (a := (a : Int)) (b := pw (k : Int)) (by omega) (by omega) (by omega) (by omega), bor, show pw (k : Int) = ((2 ^ k : Nat) : Int) by unfold pw; simp]
  rfl
set_option maxHeartbeats 40000000 in
set_option maxRecDepth 100000 in
theorem law_any (v : Value) (l : List Int) (w : World) (hv : Rd EBy w v l) (hok : ∀ y ∈ l, ByOk y) :
    Calls Try.prog 8 #[v] w fun e w' => e = .returned (.bool true) ∧ Below w.heap.size w w' := by
  by_cases hl : 1048576 < l.length
  · have HB : Hid (∀ W, Rd EBy W v l → Calls Try.prog 19 #[v] W fun e w' => e = .returned (.bool true) ∧ W = w') := fun W hW => by have h := big_any v l W hW; rwa [decide_eq_true (by omega)] at h
    go_enter Try.func8, Try.ntmps8
    go_wp2_with (go_at_call 19; refine (HB.out _ hv).mono ?_; rintro e w' ⟨rfl, rfl⟩)
    all_goals go_ret
    all_goals exact ⟨by simp, Below.refl _ _⟩
  have HB : Hid (∀ W, Rd EBy W v l → Calls Try.prog 19 #[v] W fun e w' => e = .returned (.bool false) ∧ W = w') := fun W hW => by have h := big_any v l W hW; rwa [decide_eq_false (by omega)] at h
  have HV := Lib.hid hv
  have HO := Lib.hid hok
  clear hv hok
  go_enter Try.func8, Try.ntmps8
  go_wp2_with (go_at_call 19; refine (HB.out _ HV.out).mono ?_; rintro e w' ⟨rfl, rfl⟩)
  refine (DrawEntrants_any v l w HV.out HO.out (by omega)).mono ?_
  rintro e w1 ⟨⟨es, vE, rfl, hoE, hent, h5⟩, hb1⟩
  have HB1 := Lib.hid hb1
  have hOE := Lib.hid hoE
  have HEN := Lib.hid hent
  have hn1 : 1 ≤ es.length := (entsOk_bd hent).1.1
  have HRL := Lib.hid (ranking_len hent)
  have HPL := Lib.hid (places_len hent)
  obtain ⟨q1, q2, q3, q4⟩ := prizes_facts hent h5
  have HML := Lib.hid q1
  have HM3 := Lib.hid q3
  have HM4 := Lib.hid q4
  have HMB := Lib.hid (sumTo_bd q1 q3)
  have HMS := Lib.hid (fun k (h : k < es.length) => sumTo_succ (M := prizesOf es przL) (k := k) (by omega))
  have HRK := Lib.hid (ranking_gD hent)
  have HRlt := Lib.hid (fun k h => rank_lt (es := es) (k := k) h)
  have HRT := Lib.hid (fun i j h1 h2 => rank_tot hent (i := i) (j := j) h1 h2)
  have HRP := Lib.hid (fun k h => rank_place hent (k := k) h)
  have HPle := Lib.hid (fun i k h1 h2 h3 => places_le hent (i := i) (k := k) h1 h2 h3)
  have HPlt := Lib.hid (fun i k h1 h2 => places_lt hent (i := i) (k := k) h1 h2)
  have HOs := Lib.hid (fun k (h : k < es.length) => orTo_succ (L := rankTo es es.length) (k := k) (by rw [rankTo_length]; exact h))
  have HOl := Lib.hid (fun k => orTo_lt (L := rankTo es es.length) (n := es.length) (fun i hi => rankTo_mem hi) k)
  have HOe : Hid (orTo (rankTo es es.length) es.length = 2 ^ es.length - 1) := by
    show _ = _
    have := orTo_perm (rankTo_perm es es.length)
    rwa [rankTo_length] at this
  have HBX := Lib.hid (fun k (h : k < es.length) => bestR_ix hent h)
  have HALL : Hid (∀ k, k < es.length → (gD es Ent0 k).rs.all okR = true) := fun k hk => by
    simp only [entsOk, Bool.and_eq_true] at hent
    have h1 := List.all_eq_true.1 hent.2 k (List.mem_range.2 hk)
    simp only [entAt, entOk1, Bool.and_eq_true] at h1
    exact h1.1.2
  have HEO : Hid (∀ W, Below w1.heap.size w1 W → Calls Try.prog 54 #[vE] W fun e w' => e = .returned (.bool true) ∧ Below W.heap.size W w') := fun W hW => by rw [← hent]; exact EntrantsOk_any vE es W (hoE.keep hW)
  have HSO : Hid (∀ W, Below w1.heap.size w1 W → Calls Try.prog 53 #[vE] W fun e w' => e = .returned (.bool true) ∧ Below W.heap.size W w') := fun W hW => by rw [← hent]; exact sEntrantsOk_any vE es W (hoE.keep hW)
  have HC1 := Lib.hid (RankingOf_any vE es w1 hoE)
  have HC2 : Hid (∀ W, Below w1.heap.size w1 W → Calls Try.prog 51 #[vE] W (RetInts W (places es))) := fun W hW => PlacesOf_any vE es W (hoE.keep hW)
  have HC3 : Hid (∀ W B vp, Below w1.heap.size w1 W → Own EInt W B vp przL → Calls Try.prog 52 #[vE, vp] W (RetInts W (prizesOf es przL))) := fun W B vp hW hp => PrizesOf_any vE vp es przL W (hoE.keep hW) hp
  obtain ⟨aE, cE, rfl, _, hcE, hgE⟩ := hoE.get
  obtain ⟨bE, _, _, rfl, hbE, -⟩ := hgE 0 (by omega)
  have HGE := Lib.hid hgE
  have HSS := Lib.hid q2
  clear hb1 hoE hent q1 q2 q3 q4 hgE
  go_wp2_with fail
  refine HC1.out.mono ?_
  rintro e w2 ⟨vR, rfl, hoR, hb2⟩
  have HB2 := Lib.hid hb2
  obtain ⟨aR, cR, rfl, _, hgR⟩ := hoR.intG
  have HGR := Lib.hid hgR
  rw [HRL.out] at HGR
  simp only [HRL.out]
  clear hb2 hoR hgR
  go_wp2_with fail
  refine (HC2.out w2 HB2.out).mono ?_
  rintro e w3 ⟨vP, rfl, hoP, hb3⟩
  have HB3 := Lib.hid (HB2.out.trans (hb3.mono HB2.out.size))
  obtain ⟨aP, cP, rfl, _, hgP⟩ := hoP.intG
  have HGP := Lib.hid hgP
  have HR3 : Hid (∀ k, k < es.length → ∃ b, aR = some ⟨b, 0, none⟩ ∧ b < w3.heap.size ∧ w3.cell? ⟨b, k, none⟩ = some (.int .i64 (gD (ranking es) 0 k))) := fun k hk => by
    obtain ⟨b, h1, _, h2, h3⟩ := HGR.out k hk
    exact ⟨b, h1, Nat.lt_of_lt_of_le h2 hb3.size, (hb3.cell (p := ⟨b, k, none⟩) h2).trans h3⟩
  rw [HPL.out] at HGP
  simp only [HPL.out]
  clear hb3 hoP hgP HGR HC1 HC2
  go_wp2_with fail
  have hal : Below w3.heap.size w3 (w3.alloc (.cells #[.int .i64 100, .int .i64 60, .int .i64 30, .int .i64 7] 3)) := (Below.refl _ _).alloc (Nat.le_refl _) _
  refine (HC3.out _ _ _ (HB3.out.trans (hal.mono HB3.out.size)) (lit4c 100 60 30 7 w3 w3.heap.size (Nat.le_refl _))).mono ?_
  rintro e w4 ⟨vM, rfl, hoM, hb4⟩
  have hb34 : Below w3.heap.size w3 w4 := hal.trans (hb4.mono hal.size)
  have HB4 := Lib.hid (HB3.out.trans (hb34.mono HB3.out.size))
  obtain ⟨aM, cM, rfl, _, hgM⟩ := hoM.intG
  have HGM := Lib.hid hgM
  have HR4 : Hid (∀ k, k < es.length → ∃ b, aR = some ⟨b, 0, none⟩ ∧ b < w4.heap.size ∧ w4.cell? ⟨b, k, none⟩ = some (.int .i64 (gD (ranking es) 0 k))) := fun k hk => by
    obtain ⟨b, h1, h2, h3⟩ := HR3.out k hk
    exact ⟨b, h1, Nat.lt_of_lt_of_le h2 hb34.size, (hb34.cell (p := ⟨b, k, none⟩) h2).trans h3⟩
  have HP4 : Hid (∀ k, k < es.length → ∃ b, aP = some ⟨b, 0, none⟩ ∧ b < w4.heap.size ∧ w4.cell? ⟨b, k, none⟩ = some (.int .i64 (gD (places es) 0 k))) := fun k hk => by
    obtain ⟨b, h1, _, h2, h3⟩ := HGP.out k hk
    exact ⟨b, h1, Nat.lt_of_lt_of_le h2 hb34.size, (hb34.cell (p := ⟨b, k, none⟩) h2).trans h3⟩
  rw [HML.out] at HGM
  simp only [HML.out]
  clear hb4 hb34 hal hoM hgM HR3 HGP HC3
  go_wp2_with fail
  refine (HSO.out w4 HB4.out).mono ?_
  rintro e w5 ⟨rfl, hb5⟩
  have HB5 := Lib.hid (HB4.out.trans (hb5.mono HB4.out.size))
  have hnn : ((es.length : Int) != (es.length : Int)) = false := by simp
  have HH5 := Lib.hid hb5
  clear hb5
  go_wp2_with fail
  refine (HEO.out w5 HB5.out).mono ?_
  rintro e w6 ⟨rfl, hb6⟩
  have HB6 := Lib.hid (HB5.out.trans (hb6.mono HB5.out.size))
  have hb46 : Below w4.heap.size w4 w6 := HH5.out.trans (hb6.mono HH5.out.size)
  obtain ⟨bR, rfl, -⟩ := HR4.out 0 (by omega)
  obtain ⟨bP, rfl, -⟩ := HP4.out 0 (by omega)
  obtain ⟨bM, rfl, -⟩ := HGM.out 0 (by omega)
  have HR6 : Hid (∀ k, k < es.length → bR < w6.heap.size ∧ w6.cell? ⟨bR, k, none⟩ = some (.int .i64 (gD (rankTo es es.length) 0 k : Nat))) := fun k hk => by
    obtain ⟨b, h1, h2, h3⟩ := HR4.out k hk
    obtain rfl : bR = b := by simpa using h1
    rw [← HRK.out k hk]
    exact ⟨Nat.lt_of_lt_of_le h2 hb46.size, (hb46.cell (p := ⟨bR, k, none⟩) h2).trans h3⟩
  have HP6 : Hid (∀ k, k < es.length → bP < w6.heap.size ∧ w6.cell? ⟨bP, k, none⟩ = some (.int .i64 (gD (places es) 0 k))) := fun k hk => by
    obtain ⟨b, h1, h2, h3⟩ := HP4.out k hk
    obtain rfl : bP = b := by simpa using h1
    exact ⟨Nat.lt_of_lt_of_le h2 hb46.size, (hb46.cell (p := ⟨bP, k, none⟩) h2).trans h3⟩
  have HM6 : Hid (∀ k, k < es.length → bM < w6.heap.size ∧ w6.cell? ⟨bM, k, none⟩ = some (.int .i64 (gD (prizesOf es przL) 0 k))) := fun k hk => by
    obtain ⟨b, h1, _, h2, h3⟩ := HGM.out k hk
    obtain rfl : bM = b := by simpa using h1
    exact ⟨Nat.lt_of_lt_of_le h2 hb46.size, (hb46.cell (p := ⟨bM, k, none⟩) h2).trans h3⟩
  have HE6 : Hid (∀ i, i < es.length → ∃ a' c', bE < w6.heap.size ∧ w6.cell? ⟨bE, i * 2, none⟩ = some (.int .i64 (gD es Ent0 i).n) ∧ w6.cell? ⟨bE, i * 2 + 1, none⟩ = some (.slice a' (gD es Ent0 i).rs.length c') ∧ Own EResult w6 w.heap.size (.slice a' (gD es Ent0 i).rs.length c') (gD es Ent0 i).rs) := fun i hi => by
    obtain ⟨b, a', c', h1, h2, h3, h4, h5⟩ := HGE.out i hi
    obtain rfl : bE = b := by simpa using h1
    exact ⟨a', c', Nat.lt_of_lt_of_le h2 HB6.out.size, (HB6.out.cell (p := ⟨bE, i * 2, none⟩) h2).trans h3, (HB6.out.cell (p := ⟨bE, i * 2 + 1, none⟩) h2).trans h4, h5.keep HB6.out⟩
  have HBW := Lib.hid (HB1.out.trans (HB6.out.mono HB1.out.size))
  clear hb6 hb46 hbE hcE HR4 HP4 HGM HGE HH5
  generalize rankTo es es.length = R at *
  generalize places es = P at *
  generalize prizesOf es przL = M at *
  go_wp2_with fail
  go_loopw [8, 9, 10] (fun sm sn k wr => ∃ j : Nat, j ≤ es.length ∧ k = .int .i64 j ∧ sm = .int .i64 (sumTo M j) ∧ sn = .int .i64 (orTo R j : Nat) ∧ Below w6.heap.size w6 wr) (fun _ _ k _ => es.length - (intOf k).toNat)
  case atStart => exact ⟨0, by omega, rfl, by simp [sumTo], by simp [orTo], Below.refl _ _⟩
  case round =>
    obtain ⟨j, hj, rfl, rfl, rfl, hbj⟩ := hrel
    have HBj := Lib.hid hbj
    have hzj := hbj.size
    by_cases hlt : j < es.length
    rotate_left
    · obtain rfl : j = es.length := by omega
      have hsum : sumTo M es.length ≤ 197 := HSS.out
      rw [HOe.out]
      have hpwn : ((2 ^ es.length - 1 : Nat) : Int) = pw (es.length : Int) - 1 := by
        have h1 : 1 ≤ 2 ^ es.length := Nat.one_le_two_pow
        have h2 : pw (es.length : Int) = ((2 ^ es.length : Nat) : Int) := by unfold pw; simp
        omega
      rw [hpwn]
      have hwr := pw_wrap (n := (es.length : Int)) (by omega) (by omega)
      have hwr2 := hwr
      rw [Int.toNat_natCast] at hwr2
      have hw1 := pw_wrap1 (n := (es.length : Int)) (by omega) (by omega)
      have hmin : min es.length 64 = es.length := by omega
      clear hpwn
      have hsd : decide (sumTo M es.length ≤ 197) = true := decide_eq_true hsum
      generalize sumTo M es.length = sm at *
      go_wp2_with fail
      all_goals go_ret
      all_goals exact ⟨by simp [*], HBW.out.trans (hbj.mono HBW.out.size)⟩
    · obtain ⟨r0, r1⟩ := HR6.out j hlt
      obtain ⟨m0, m1⟩ := HM6.out j hlt
      have hrk := HRlt.out j hlt
      obtain ⟨p0, p1⟩ := HP6.out _ hrk
      have hcR : wr.cell? ⟨bR, j, none⟩ = some (.int .i64 (gD R 0 j : Nat)) := (hbj.cell (p := ⟨bR, j, none⟩) r0).trans r1
      have hcM : wr.cell? ⟨bM, j, none⟩ = some (.int .i64 (gD M 0 j)) := (hbj.cell (p := ⟨bM, j, none⟩) m0).trans m1
      have hcP : wr.cell? ⟨bP, gD R 0 j, none⟩ = some (.int .i64 (gD P 0 (gD R 0 j))) := (hbj.cell (p := ⟨bP, gD R 0 j, none⟩) p0).trans p1
      obtain ⟨aT, cT, e0, e1, e2, e3⟩ := HE6.out _ hrk
      have hcE1 : wr.cell? ⟨bE, gD R 0 j * 2, none⟩ = some (.int .i64 (gD es Ent0 (gD R 0 j)).n) := (hbj.cell (p := ⟨bE, gD R 0 j * 2, none⟩) e0).trans e1
      have hcE2 : wr.cell? ⟨bE, gD R 0 j * 2 + 1, none⟩ = some (.slice aT (gD es Ent0 (gD R 0 j)).rs.length cT) := (hbj.cell (p := ⟨bE, gD R 0 j * 2 + 1, none⟩) e0).trans e2
      have hl5 := (HBX.out _ hrk).2.2
      have HTa : Hid (∀ W, Below wr.heap.size wr W → Calls Try.prog 55 #[.agg #[.int .i64 (gD es Ent0 (gD R 0 j)).n, .slice aT (gD es Ent0 (gD R 0 j)).rs.length cT]] W fun e w' => e = .returned (.int .i64 (tot es (gD R 0 j))) ∧ Below W.heap.size W w') := fun W hW => TotalOf_any _ _ _ (by omega) W ((e3.keep hbj).keep hW)
      have hpk := HRP.out j hlt
      have HSM := Lib.hid (HMS.out j hlt)
      have HOR := Lib.hid (HOs.out j hlt)
      have hob := HOl.out j
      have hmb := HM3.out j hlt
      have hsb := HMB.out j hj
      have hrl : decide (es.length ≤ gD R 0 j) = false := by simp; omega
      have hor := or_pw (a := orTo R j) (k := gD R 0 j) (by have : 2 ^ es.length ≤ 2 ^ 5 := Nat.pow_le_pow_right (by omega) h5; omega) (by omega)
      rw [← HOR.out] at hor
      have hwr := pw_wrap (n := ((gD R 0 j : Nat) : Int)) (by omega) (by omega)
      rw [Int.toNat_natCast] at hwr
      have hmin : min (gD R 0 j) 64 = gD R 0 j := by omega
      have g1 : bR < wr.heap.size := by omega
      have g2 : bM < wr.heap.size := by omega
      have g3 : bP < wr.heap.size := by omega
      have g4 : bE < wr.heap.size := by omega
      have hpd : decide (((j : Nat) : Int) + 1 < gD P 0 (gD R 0 j)) = false := by simp; omega
      have HPK := Lib.hid hpk
      have HRKl := Lib.hid hrk
      clear r1 m1 p1 e1 e2 e3 hob hpk
      generalize hrkG : gD R 0 j = rk at *
      have HRG := Lib.hid hrkG
      clear hrkG
      generalize gD M 0 j = mj at *
      generalize hpkG : gD P 0 rk = pk at *
      generalize hTkG : tot es rk = Tk at *
      have HPG := Lib.hid hpkG
      have HTG := Lib.hid hTkG
      clear hpkG hTkG
      generalize (gD es Ent0 rk).n = nk at *
      generalize (gD es Ent0 rk).rs = rsk at *
      go_upto_region 21 with fail
      have hj1 : IntKind.i64.wrap ((j : Int) + 1) = (j : Int) + 1 := IntWalk.i64_in _ (by omega)
      have hP2 := HPK.out
      go_cut [158] (fun u wx => u = .bool false ∧ Below wr.heap.size wr wx)
      case first =>
        clear hor hwr hmin
        rcases Nat.eq_zero_or_pos j with hz | hz
        · subst hz
          have HTb := HTa
          have hpd1 : decide ((1 : Int) < pk) = false := by simp; omega
          have hw1 : IntKind.i64.wrap 1 = 1 := by rfl
          (with_reducible refine wp_region_qb ?_ ?_ (fun hq => ?_)); (focus kernel_rfl); (focus kernel_rfl); (repeat (go_big_quiet_step ((go_at_call 55; first | (with_reducible exact Calls.regrown_of (HTa.out _ ((below_regrown _ _ _)))) | (with_reducible exact Calls.regrown_of (HTb.out _ ((below_regrown _ _ _)))))))); refine wpQuiet_nil ?_; intro wq hb; go_wp2_with fail; go_meet; (case rel => exact ⟨rfl, hb⟩)
        · obtain ⟨i, rfl⟩ : ∃ i, j = i + 1 := ⟨j - 1, by omega⟩
          obtain ⟨_, s1⟩ := HR6.out i (by omega)
          have hsk := HRlt.out i (by omega)
          obtain ⟨_, t1⟩ := HP6.out _ hsk
          obtain ⟨aU, cU, _, f1, f2, f3⟩ := HE6.out _ hsk
          have hcS : wr.cell? ⟨bR, i, none⟩ = some (.int .i64 (gD R 0 i : Nat)) := (hbj.cell (p := ⟨bR, i, none⟩) r0).trans s1
          have hcQ : wr.cell? ⟨bP, gD R 0 i, none⟩ = some (.int .i64 (gD P 0 (gD R 0 i))) := (hbj.cell (p := ⟨bP, gD R 0 i, none⟩) p0).trans t1
          have hcF1 : wr.cell? ⟨bE, gD R 0 i * 2, none⟩ = some (.int .i64 (gD es Ent0 (gD R 0 i)).n) := (hbj.cell (p := ⟨bE, gD R 0 i * 2, none⟩) e0).trans f1
          have hcF2 : wr.cell? ⟨bE, gD R 0 i * 2 + 1, none⟩ = some (.slice aU (gD es Ent0 (gD R 0 i)).rs.length cU) := (hbj.cell (p := ⟨bE, gD R 0 i * 2 + 1, none⟩) e0).trans f2
          have hl6 := (HBX.out _ hsk).2.2
          have HTb : Hid (∀ W, Below wr.heap.size wr W → Calls Try.prog 55 #[.agg #[.int .i64 (gD es Ent0 (gD R 0 i)).n, .slice aU (gD es Ent0 (gD R 0 i)).rs.length cU]] W fun e w' => e = .returned (.int .i64 (tot es (gD R 0 i))) ∧ Below W.heap.size W w') := fun W hW => TotalOf_any _ _ _ (by omega) W ((f3.keep hbj).keep hW)
          have hTT := HRT.out i (i + 1) (by omega) hlt
          rw [HRG.out] at hTT
          have hPP := HPle.out (gD R 0 i) rk hsk hrk hTT
          rw [HPG.out] at hPP
          rw [HTG.out] at hTT
          have hd1 : decide (tot es (gD R 0 i) < Tk) = false := decide_eq_false (by omega)
          have hd2 : decide (pk < gD P 0 (gD R 0 i)) = false := decide_eq_false (by omega)
          have hlt1 : IntKind.i64.wrap ((i : Int) + 1 - 1) = (i : Int) := by rw [show (i : Int) + 1 - 1 = i by omega]; exact IntWalk.i64_in _ (by omega)
          have hlt2 : IntKind.i64.wrap ((i : Int)) = (i : Int) := IntWalk.i64_in _ (by omega)
          have hj2 : IntKind.i64.wrap ((i : Int) + 1 + 1) = (i : Int) + 1 + 1 := IntWalk.i64_in _ (by omega)
          have hpd2 : decide ((i : Int) + 1 + 1 < pk) = false := decide_eq_false (by omega)
          have hpos : decide ((0 : Int) < (i : Int) + 1) = true := decide_eq_true (by omega)
          have hie : i < es.length := by omega
          clear s1 t1 f1 f2 f3 hTT hPP
          generalize gD R 0 i = rj at *
          generalize gD P 0 rj = pj at *
          generalize tot es rj = Tj at *
          generalize (gD es Ent0 rj).n = nj at *
          generalize (gD es Ent0 rj).rs = rsj at *
          (with_reducible refine wp_region_qb ?_ ?_ (fun hq => ?_)); (focus kernel_rfl); (focus kernel_rfl); (repeat (go_big_quiet_step ((go_at_call 55; first | (with_reducible exact Calls.regrown_of (HTa.out _ ((below_regrown _ _ _)))) | (with_reducible exact Calls.regrown_of (HTb.out _ ((below_regrown _ _ _)))))))); refine wpQuiet_nil ?_; intro wq hb; go_wp2_with fail; go_meet; (case rel => exact ⟨rfl, hb⟩)
      obtain ⟨rfl, hb2⟩ := hcut
      clear hor hwr hmin hj1 hrl hpd hcR hcM hcP hcE1 hcE2
      obtain ⟨w7, rfl⟩ : ∃ w7 : World, w7 = wc := ⟨_, rfl⟩
      have HB7 := Lib.hid (HBj.out.trans (hb2.mono HBj.out.size))
      obtain ⟨aK, cK, _, f1, f2, f3⟩ := HE6.out j hlt
      have HKo := Lib.hid f3
      obtain ⟨x0, x1, x2⟩ := HBX.out j hlt
      have HBN := Lib.hid (fun i hi => best_none (HALL.out j hlt) (i := i) hi)
      have HK1 := Lib.hid f1
      have HK2 := Lib.hid f2
      clear hb2 hbj f1 f2 f3
      have HTJ : Hid (∀ W, Below w6.heap.size w6 W → Calls Try.prog 55 #[.agg #[.int .i64 (gD es Ent0 j).n, .slice aK (gD es Ent0 j).rs.length cK]] W fun e w' => e = .returned (.int .i64 (tot es j)) ∧ Below W.heap.size W w') := fun W hW => TotalOf_any _ _ _ (by omega) W (HKo.out.keep hW)
      have HBT : Hid (∀ W, Below w6.heap.size w6 W → Calls Try.prog 56 #[.agg #[.int .i64 (gD es Ent0 j).n, .slice aK (gD es Ent0 j).rs.length cK]] W fun e w' => e = .returned (.int .i64 (bestOf (gD es Ent0 j).rs)) ∧ Below W.heap.size W w') := fun W hW => BestResult_any _ _ _ (by omega) W (HKo.out.keep hW)
      generalize (gD es Ent0 j).n = nj at *
      generalize (gD es Ent0 j).rs = rsj at *
      obtain ⟨m, hm⟩ : ∃ m : Nat, bestOf rsj = m := ⟨(bestOf rsj).toNat, by omega⟩
      rw [hm] at HBT HBN x0 x1
      rw [Int.toNat_natCast] at HBN
      have hml : m < rsj.length := by omega
      clear hm x0 x1
      have hcE1 : w7.cell? ⟨bE, j * 2, none⟩ = some (.int .i64 nj) := (HB7.out.cell (p := ⟨bE, j * 2, none⟩) e0).trans HK1.out
      have hcE2 : w7.cell? ⟨bE, j * 2 + 1, none⟩ = some (.slice aK rsj.length cK) := (HB7.out.cell (p := ⟨bE, j * 2 + 1, none⟩) e0).trans HK2.out
      have g4' : bE < w7.heap.size := by have := HB7.out.size; omega
      go_wp2_with fail
      refine (HBT.out _ HB7.out).mono ?_
      rintro e w8 ⟨rfl, hb8⟩
      have HB8 := Lib.hid (HB7.out.trans (hb8.mono HB7.out.size))
      clear hb8 hcE1 hcE2
      have hcE1 : w8.cell? ⟨bE, j * 2, none⟩ = some (.int .i64 nj) := (HB8.out.cell (p := ⟨bE, j * 2, none⟩) e0).trans HK1.out
      have hcE2 : w8.cell? ⟨bE, j * 2 + 1, none⟩ = some (.slice aK rsj.length cK) := (HB8.out.cell (p := ⟨bE, j * 2 + 1, none⟩) e0).trans HK2.out
      have g5 : bE < w8.heap.size := by have := HB8.out.size; omega
      have hlm : decide (rsj.length ≤ m) = false := by simp; omega
      go_wp2_with fail
      go_loopw [12] (fun k wr => ∃ i : Nat, i ≤ rsj.length ∧ k = .int .i64 i ∧ Below w8.heap.size w8 wr) (fun k _ => rsj.length - (intOf k).toNat)
      case atStart => exact ⟨0, by omega, rfl, Below.refl _ _⟩
      case round =>
        obtain ⟨i, hi, rfl, hbi⟩ := hrel
        have HBi := Lib.hid (HB8.out.trans (hbi.mono HB8.out.size))
        have HBi8 := Lib.hid hbi
        have hzi := hbi.size
        clear hbi
        have hcI1 : wr.cell? ⟨bE, j * 2, none⟩ = some (.int .i64 nj) := (HBi.out.cell (p := ⟨bE, j * 2, none⟩) e0).trans HK1.out
        have hcI2 : wr.cell? ⟨bE, j * 2 + 1, none⟩ = some (.slice aK rsj.length cK) := (HBi.out.cell (p := ⟨bE, j * 2 + 1, none⟩) e0).trans HK2.out
        have g6 : bE < wr.heap.size := by omega
        by_cases hil : i < rsj.length
        · obtain ⟨_, _, hvv, _, hgk⟩ := HKo.out.resultG
          simp only [Value.slice.injEq] at hvv
          obtain ⟨bK, hbK, _, hbK2, v0, v1, v2, v3⟩ := hgk i hil
          obtain ⟨bK', hbK', _, _, y0, y1, y2, y3⟩ := hgk m hml
          rw [← hvv.1] at hbK hbK'
          subst hbK
          obtain rfl : bK = bK' := by simpa using hbK'
          have z0 := (HBi.out.cell (p := ⟨bK, i * 4, none⟩) hbK2).trans v0
          have z1 := (HBi.out.cell (p := ⟨bK, i * 4 + 1, none⟩) hbK2).trans v1
          have z2 := (HBi.out.cell (p := ⟨bK, i * 4 + 2, none⟩) hbK2).trans v2
          have z3 := (HBi.out.cell (p := ⟨bK, i * 4 + 3, none⟩) hbK2).trans v3
          have t0 := (HBi.out.cell (p := ⟨bK, m * 4, none⟩) hbK2).trans y0
          have t1 := (HBi.out.cell (p := ⟨bK, m * 4 + 1, none⟩) hbK2).trans y1
          have t2 := (HBi.out.cell (p := ⟨bK, m * 4 + 2, none⟩) hbK2).trans y2
          have t3 := (HBi.out.cell (p := ⟨bK, m * 4 + 3, none⟩) hbK2).trans y3
          have gK : bK < wr.heap.size := by have := HBi.out.size; omega
          have hbn := HBN.out i hil
          have HSB : Hid (∀ W, Calls Try.prog 57 #[.agg #[.int .i64 (gD rsj Rs0 i).l, .bool (gD rsj Rs0 i).c, .int .i64 (gD rsj Rs0 i).s, .int .i64 (gD rsj Rs0 i).t], .agg #[.int .i64 (gD rsj Rs0 m).l, .bool (gD rsj Rs0 m).c, .int .i64 (gD rsj Rs0 m).s, .int .i64 (gD rsj Rs0 m).t]] W fun e w' => e = .returned (.bool false) ∧ Below W.heap.size W w') := fun W => by rw [← hbn]; exact sIsBetter_any _ _ _ _ _ _ _ _ W
          clear hvv hgk hbK' v0 v1 v2 v3 y0 y1 y2 y3 hbn
          generalize gD rsj Rs0 i = ra at *
          generalize gD rsj Rs0 m = rb at *
          go_wp2_with ((with_reducible refine wp_region_qb ?_ ?_ (fun hq => ?_)); (focus kernel_rfl); (focus kernel_rfl); (repeat (go_big_quiet_step ((go_at_call 57; exact Calls.regrown_of (HSB.out _))))); refine wpQuiet_nil ?_; intro wq hbq; have HBQ := Lib.hid hbq; clear hq hbq)
          go_roundw
          case rel => exact ⟨i + 1, by omega, by go_num, HBi8.out.trans (HBQ.out.mono hzi)⟩
          case measure => simp [intOf]; omega
        · obtain rfl : i = rsj.length := by omega
          clear hcE1 hcE2 hlm
          obtain ⟨w9, rfl⟩ : ∃ w9 : World, w9 = wr := ⟨_, rfl⟩
          go_wp2_with fail
          go_loopw [13] (fun k wr => ∃ i : Nat, i ≤ es.length ∧ k = .int .i64 i ∧ Below w9.heap.size w9 wr) (fun k _ => es.length - (intOf k).toNat)
          case atStart => exact ⟨0, by omega, rfl, Below.refl _ _⟩
          case round =>
            obtain ⟨i, hi, rfl, hbi⟩ := hrel
            have HBk := Lib.hid (HBi.out.trans (hbi.mono HBi.out.size))
            have HBk9 := Lib.hid hbi
            have hzk := hbi.size
            clear hbi
            by_cases hil : i < es.length
            · obtain ⟨_, p1⟩ := HP6.out i hil
              obtain ⟨_, p2⟩ := HP6.out j hlt
              obtain ⟨_, m1⟩ := HM6.out i hil
              obtain ⟨_, m2⟩ := HM6.out j hlt
              obtain ⟨aI, cI, _, f1, f2, f3⟩ := HE6.out i hil
              have k1 := (HBk.out.cell (p := ⟨bP, i, none⟩) p0).trans p1
              have k2 := (HBk.out.cell (p := ⟨bP, j, none⟩) p0).trans p2
              have k3 := (HBk.out.cell (p := ⟨bM, i, none⟩) m0).trans m1
              have k4 := (HBk.out.cell (p := ⟨bM, j, none⟩) m0).trans m2
              have k5 := (HBk.out.cell (p := ⟨bE, i * 2, none⟩) e0).trans f1
              have k6 := (HBk.out.cell (p := ⟨bE, i * 2 + 1, none⟩) e0).trans f2
              have k7 := (HBk.out.cell (p := ⟨bE, j * 2, none⟩) e0).trans HK1.out
              have k8 := (HBk.out.cell (p := ⟨bE, j * 2 + 1, none⟩) e0).trans HK2.out
              have hl7 := (HBX.out _ hil).2.2
              have HTi : Hid (∀ W, Below wr.heap.size wr W → Calls Try.prog 55 #[.agg #[.int .i64 (gD es Ent0 i).n, .slice aI (gD es Ent0 i).rs.length cI]] W fun e w' => e = .returned (.int .i64 (tot es i)) ∧ Below W.heap.size W w') := fun W hW => TotalOf_any _ _ _ (by omega) W ((f3.keep HBk.out).keep hW)
              have HTj : Hid (∀ W, Below wr.heap.size wr W → Calls Try.prog 55 #[.agg #[.int .i64 nj, .slice aK rsj.length cK]] W fun e w' => e = .returned (.int .i64 (tot es j)) ∧ Below W.heap.size W w') := fun W hW => HTJ.out W (HBk.out.trans (hW.mono HBk.out.size))
              have hpt := HPlt.out i j hil hlt
              have hpm := HM4.out i j hil hlt
              have g1 : bP < wr.heap.size := by have := HBk.out.size; omega
              have g2 : bM < wr.heap.size := by have := HBk.out.size; omega
              have g3 : bE < wr.heap.size := by have := HBk.out.size; omega
              clear p1 p2 m1 m2 f1 f2 f3
              generalize gD P 0 i = pi at *
              generalize gD P 0 j = pj at *
              generalize gD M 0 i = mi at *
              generalize gD M 0 j = mj' at *
              generalize tot es i = Ti at *
              generalize tot es j = Tj at *
              generalize (gD es Ent0 i).n = ni at *
              generalize (gD es Ent0 i).rs = rsi at *
              by_cases hp : pi < pj
              · have d1 : decide (pi < pj) = true := decide_eq_true hp
                have d2 : decide (Tj < Ti) = true := decide_eq_true (hpt.1 hp)
                have d3 : decide (mi < mj') = false := decide_eq_false (by have := hpm hp; omega)
                clear hpt hpm hp
                go_wp2_with ((with_reducible refine wp_region_qb ?_ ?_ (fun hq => ?_)); (focus kernel_rfl); (focus kernel_rfl); (repeat (go_big_quiet_step ((go_at_call 55; first | (with_reducible exact Calls.regrown_of (HTi.out _ ((below_regrown _ _ _)))) | (with_reducible exact Calls.regrown_of (HTj.out _ ((below_regrown _ _ _)))))))); refine wpQuiet_nil ?_; intro wq hbq; have HBQ := Lib.hid hbq; clear hq hbq)
                go_roundw
                case rel => exact ⟨i + 1, by omega, by go_num, HBk9.out.trans (HBQ.out.mono hzk)⟩
                case measure => simp [intOf]; omega
              · have d1 : decide (pi < pj) = false := decide_eq_false hp
                have d2 : decide (Tj < Ti) = false := decide_eq_false (fun h => hp (hpt.2 h))
                clear hpt hpm hp
                go_wp2_with ((with_reducible refine wp_region_qb ?_ ?_ (fun hq => ?_)); (focus kernel_rfl); (focus kernel_rfl); (repeat (go_big_quiet_step ((go_at_call 55; first | (with_reducible exact Calls.regrown_of (HTi.out _ ((below_regrown _ _ _)))) | (with_reducible exact Calls.regrown_of (HTj.out _ ((below_regrown _ _ _)))))))); refine wpQuiet_nil ?_; intro wq hbq; have HBQ := Lib.hid hbq; clear hq hbq)
                go_roundw
                case rel => exact ⟨i + 1, by omega, by go_num, HBk9.out.trans (HBQ.out.mono hzk)⟩
                case measure => simp [intOf]; omega
            · obtain rfl : i = es.length := by omega
              go_wp2_with fail
              go_roundw
              case rel => exact ⟨j + 1, by omega, by go_num, by rw [HSM.out], rfl, HBk.out⟩
              case measure => simp [intOf]; omega

set_option maxRecDepth 100000 in
theorem law_walk : LawWalk 8 Try.f8.params.toList := by
  intro H enc W base args ds ps hval hA
  rw [Try.params8] at hA hval
  obtain ⟨v0, vs0, d0, ds0, p0, q0, hargs, rfl, rfl, h0, r0⟩ := trodAll_cons hA
  obtain ⟨rfl, rfl, rfl⟩ := trodAll_nil r0
  obtain rfl : args = #[v0] := by cases args; simp_all
  obtain ⟨l0, rd0, ok0⟩ := arg_ByteS (hval 0 _ _ rfl rfl) h0
  exact law_any v0 l0 W rd0 ok0

set_option maxRecDepth 100000 in
theorem lifted (os : Os) (started : os.Started) (H : Type) (enc : TypeId × Value → H) :
    ReturnsInHanded {} Try.checked os 8 .any (Rows.fnContestsSpec.pre6 enc Try.prog Try.f8 Rows.fnContestsRow.domain false) (Rows.fnContestsSpec.post enc Try.prog Try.f8 false true false false) :=
  law_lift started (by kernel_rfl) Try.func8
    (ChangeSpec.witness6 (enc := enc) (C := Try.checked) false ⟨#[], #[.slice none 0 0], []⟩ 8 (by kernel_rfl) (by kernel_rfl) (by kernel_rfl) (by kernel_rfl))
    rfl rfl (readable_all (by kernel_rfl)) (by intro ds h; match ds, h with | [a0], _ => rfl) law_walk

theorem over : Rows.fnContestsRow.holds Try.pinned (OpenSpec.ofChange Rows.fnContestsSpec) :=
  OpenClaim.holds_of_wide 8 Try.f8 rfl rfl rfl rfl rfl rfl rfl ⟨rfl, rfl, rfl, rfl, rfl⟩ rfl rfl rfl rfl rfl (by kernel_rfl) Try.func8 (by kernel_rfl)
    (of_decide_eq_true (by kernel_rfl)) (by unfold Func.isWrapper; first | (rw [if_pos (by decide +kernel)]; kernel_rfl) | (rw [if_neg (by decide +kernel)]; exact ⟨rfl, rfl⟩))
    (fun os started H enc _ => lifted os started H enc)

theorem proved : Rows.FnContestsSaid := over
#print axioms proved
end Go.Proofs.Ytfpofhkggojaoaa.fnContests
