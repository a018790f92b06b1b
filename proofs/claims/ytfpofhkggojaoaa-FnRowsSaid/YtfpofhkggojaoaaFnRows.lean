/- A row and its mirror image leave as many pegs, and more empty holes never harm, for all drawn codes. No condition. -/
import Derived.Test.YtfpofhkggojaoaaDrawR
import Derived.Test.YtfpofhkggojaoaaOpen
set_option linter.unusedVariables false
set_option linter.unusedSimpArgs false
namespace Go.Proofs.Ytfpofhkggojaoaa.fnRows
open Go.ChangeShapes Go.WideShapes Go.ChangeAt Go.RowKit Peg Go.Sort
theorem rl_any (x : ByteArray) (r : Int) (hx : x.size ≤ 1048576) (hr : rowLeast x = r) (W : World) : Calls Try.prog 59 #[.string x] W fun e w' => e = .returned (.int .i64 r) ∧ Below W.heap.size W w' := by
  have h := RowLeast_any x hx W
  rwa [show LeastIs x W = fun e w' => e = .returned (.int .i64 r) ∧ Below W.heap.size W w' from by funext e w'; simp [LeastIs, hr]] at h
theorem srl_any (x : ByteArray) (r : Int) (hx : x.size ≤ 1048576) (hr : rowLeast x = r) (W : World) : Calls Try.prog 63 #[.string x] W fun e w' => e = .returned (.int .i64 r) ∧ Below W.heap.size W w' := by
  have h := sRowLeast_any x hx W
  rwa [show LeastIs x W = fun e w' => e = .returned (.int .i64 r) ∧ Below W.heap.size W w' from by funext e w'; simp [LeastIs, hr]] at h
set_option maxHeartbeats 40000000 in
set_option maxRecDepth 100000 in
theorem law_any (v : Value) (l : List Int) (w : World) (hv : Rd EBy w v l) (hok : ∀ y ∈ l, ByOk y) :
    Calls Try.prog 9 #[v] w fun e w' => e = .returned (.bool true) ∧ Below w.heap.size w w' := by
  by_cases hl : 1048576 < l.length
  · have HB : Hid (∀ W, Rd EBy W v l → Calls Try.prog 19 #[v] W fun e w' => e = .returned (.bool true) ∧ W = w') := fun W hW => by have h := big_any v l W hW; rwa [decide_eq_true (by omega)] at h
    go_enter Try.func9, Try.ntmps9
    go_wp2_with (go_at_call 19; refine (HB.out _ hv).mono ?_; rintro e w' ⟨rfl, rfl⟩)
    all_goals go_ret
    all_goals exact ⟨by simp, Below.refl _ _⟩
  have HB : Hid (∀ W, Rd EBy W v l → Calls Try.prog 19 #[v] W fun e w' => e = .returned (.bool false) ∧ W = w') := fun W hW => by have h := big_any v l W hW; rwa [decide_eq_false (by omega)] at h
  have HV := Lib.hid hv
  have HO := Lib.hid hok
  clear hv hok
  go_enter Try.func9, Try.ntmps9
  go_wp2_with (go_at_call 19; refine (HB.out _ HV.out).mono ?_; rintro e w' ⟨rfl, rfl⟩)
  refine (DrawPegRow_any v l w HV.out HO.out (by omega)).mono ?_
  rintro e w1 ⟨s, rfl, hs, hs12, hb1⟩
  have HB1 := Lib.hid hb1
  clear hb1 HV HO HB
  have HS := Lib.hid hs
  have hs14 := (rowsAt_len14 hs).2
  have HJok := Lib.hid (fun x (hx : x ∈ rowJumps s) => (rowJumps_ok hx).2.1)
  have HJle := Lib.hid (fun x (hx : x ∈ rowJumps s) => rowLeast_jump hx)
  have HLA := Lib.hid (leastTo_all hs)
  have HLS := Lib.hid (fun k (hk : k < (rowJumps s).length) => leastTo_succ (s := s) hk)
  have HL0 := Lib.hid (leastTo_zero s)
  obtain ⟨N, hN, hNi⟩ := rowLeast_ex hs
  have hN14 : N ≤ 14 := by have := hNi.2 0 s (by simp [rowsAt]); omega
  have HTs : Hid (turnRow s = turned s) := by show _ = _; simp [turnRow, hs]
  have HTT : Hid (turnRow (turned s) = s) := by show _ = _; simp [turnRow, turned_ok, hs, turned_turned]
  have hTsz := turned_size s
  have HTL : Hid (rowLeast (turned s) = N) := by show _ = _; rw [rowLeast_turned hs, hN]
  have HJT := Lib.hid (rowJumps_turned_len hs)
  obtain ⟨M, hM, _⟩ := rowLeast_ex (longer_ok hs (by omega))
  have hMN : (M : Int) ≤ N := by have := rowLeast_longer hs (by omega); omega
  have HM := Lib.hid hM
  have HN := Lib.hid hN
  have hJl := rowJumps_len s
  have HC3 : Hid (∀ W, Calls Try.prog 66 #[.int .i64 3] W fun e w' => e = .returned (.int .i64 5) ∧ Below W.heap.size W w') := fun W => by have h := CountSingleRows_any 3 W; rwa [countRows_3] at h
  have HC1 : Hid (∀ W, Calls Try.prog 66 #[.int .i64 1] W fun e w' => e = .returned (.int .i64 1) ∧ Below W.heap.size W w') := fun W => by have h := CountSingleRows_any 1 W; rwa [countRows_1] at h
  have HOK : Hid (∀ W, Calls Try.prog 64 #[.string s] W fun e w' => e = .returned (.bool true) ∧ W = w') := fun W => by rw [← hs]; exact RowOk_any s (by unfold maxLen; omega) W
  have HIS : Hid (∀ W, Calls Try.prog 65 #[.string s] W fun e w' => e = .returned (.bool ((N : Int) == 1)) ∧ Below W.heap.size W w') := fun W => by rw [← hN]; exact IsSingleRow_any s (by omega) W
  have HJs := Lib.hid (fun W => RowJumps_any s (by omega) W)
  have HJTs := Lib.hid (fun W => RowJumps_any (turned s) (by omega) W)
  have HRT : Hid (∀ W, Calls Try.prog 60 #[.string s] W fun e w' => e = .returned (.string (turned s)) ∧ Below W.heap.size W w') := fun W => by rw [← HTs.out]; exact TurnRow_any s (by omega) W
  have HRTT : Hid (∀ W, Calls Try.prog 60 #[.string (turned s)] W fun e w' => e = .returned (.string s) ∧ Below W.heap.size W w') := fun W => by
    have h := TurnRow_any (turned s) (by omega) W
    rwa [HTT.out] at h
  have HLT := Lib.hid (fun W => rl_any (turned s) N (by omega) HTL.out W)
  have HLS2 := Lib.hid (fun W => rl_any s N (by omega) HN.out W)
  have HLG : Hid (∀ W, Calls Try.prog 59 #[.string (s ++ ⟨#[46]⟩)] W fun e w' => e = .returned (.int .i64 M) ∧ Below W.heap.size W w') := fun W => rl_any (longer s) M (by rw [longer_size]; omega) HM.out W
  have HPg := Lib.hid (fun k (hk : k < s.size) => pgTo_succ hk)
  have HPa := Lib.hid (pgTo_all s)
  have HPl := Lib.hid (fun k => pgTo_le s k)
  have HTl : Hid ((rowJumps (turned s)).length ≤ 14) := rowJumps_len (turned s)
  clear hs hNi hN hM
  generalize turned s = T at *
  generalize rowJumps T = JT at *
  go_wp2_with fail
  refine (HLS2.out _).mono ?_
  rintro e w2 ⟨rfl, hb2⟩
  have HB2 := Lib.hid (HB1.out.trans (hb2.mono HB1.out.size))
  clear hb2
  go_wp2_with fail
  refine (HRT.out _).mono ?_
  rintro e w3 ⟨rfl, hb3⟩
  have HB3 := Lib.hid (HB2.out.trans (hb3.mono HB2.out.size))
  clear hb3
  go_wp2_with fail
  refine (HJs.out _).mono ?_
  rintro e w4 ⟨vJ, rfl, hJo, hb4⟩
  have HB4 := Lib.hid (HB3.out.trans (hb4.mono HB3.out.size))
  clear hb4
  obtain ⟨aJ, cJ, rfl, _, hgJ⟩ := hJo.strG
  have HGJ := Lib.hid hgJ
  clear hgJ hJo
  go_wp2_with fail
  go_loopw [7, 8] (fun p k wr => ∃ j : Nat, j ≤ s.size ∧ k = .int .i64 j ∧ p = .int .i64 (pgTo s j : Nat) ∧ Below w4.heap.size w4 wr) (fun _ k _ => s.size - (intOf k).toNat)
  case atStart => exact ⟨0, by omega, rfl, rfl, Below.refl _ _⟩
  case round =>
    obtain ⟨j, hj, rfl, rfl, hbj⟩ := hrel
    have HBj := Lib.hid hbj
    have hzj := hbj.size
    clear hbj
    by_cases hlt : j < s.size
    · have HPs := Lib.hid (HPg.out j hlt)
      have hpl := HPl.out j
      by_cases h111 : s[j] = 111
      · have hi1 : ((s[j].toNat : Int) == 111) = true := by rw [h111]; rfl
        have hi2 : s[j].toNat = 111 := by rw [h111]; rfl
        have HE := Lib.hid (HPs.out.trans (by rw [if_pos h111]))
        clear h111
        go_wp2_with (go_at_call 62; refine (btoi_any _ _).mono ?_; rintro e w' ⟨rfl, rfl⟩)
        all_goals go_roundw
        case rel => exact ⟨j + 1, by omega, by go_num, by rw [HE.out]; go_num, HBj.out⟩
        case measure => simp [intOf]; omega
      · have hne : ¬ s[j].toNat = 111 := fun e => h111 (UInt8.toNat_inj.1 (by rw [e]; rfl))
        have hi1 : ((s[j].toNat : Int) == 111) = false := by rw [beq_eq_false_iff_ne]; omega
        have HE := Lib.hid (HPs.out.trans (by rw [if_neg h111]))
        clear h111
        go_wp2_with (go_at_call 62; refine (btoi_any _ _).mono ?_; rintro e w' ⟨rfl, rfl⟩)
        all_goals go_roundw
        case rel => exact ⟨j + 1, by omega, by go_num, by rw [HE.out]; go_num, HBj.out⟩
        case measure => simp [intOf]; omega
    · obtain rfl : j = s.size := by omega
      have hpa : (pgTo s s.size : Int) = leastTo s 0 := by rw [HPa.out, HL0.out]
      rw [hpa]
      clear hpa hlt
      have hJ14 : (rowJumps s).length ≤ 14 := rowJumps_len s
      generalize rowJumps s = J at *
      go_wp2_with fail
      go_loopw [9, 10] (fun m k wr => ∃ i : Nat, i ≤ J.length ∧ k = .int .i64 i ∧ m = .int .i64 (leastTo s i) ∧ Below w4.heap.size w4 wr) (fun _ k _ => J.length - (intOf k).toNat)
      case atStart => exact ⟨0, by omega, rfl, rfl, HBj.out⟩
      case round =>
        obtain ⟨i, hi, rfl, rfl, hbi⟩ := hrel
        have hzi := hbi.size
        by_cases hilt : i < J.length
        · obtain ⟨bJ, rfl, hbJ0, hbJ1, hcJ⟩ := HGJ.out i hilt
          have hmem := gD_mem J B0 i hilt
          have hsz := HJok.out _ hmem
          have hle := HJle.out _ hmem
          have HSc : Hid (leastTo s (i + 1) = min (leastTo s i) (rowLeast (gD J B0 i))) := by show _ = _; rw [gD_lt _ _ _ hilt]; exact HLS.out i hilt
          have hci : wr.cell? ⟨bJ, i, none⟩ = some (.string (gD J B0 i)) := (hbi.cell (p := ⟨bJ, i, none⟩) hbJ1).trans hcJ
          have HSL := Lib.hid (fun W => srl_any (gD J B0 i) _ (by omega) rfl W)
          have hlt2 : decide (rowLeast (gD J B0 i) < N) = false := by have := HN.out; simp; omega
          have hne2 : (((gD J B0 i).size : Int) != (s.size : Int)) = false := by rw [hsz]; simp
          clear hcJ hmem hle
          generalize rowLeast (gD J B0 i) = ml at *
          generalize gD J B0 i = x at *
          generalize leastTo s i = lt at *
          have hbJ2 : bJ < wr.heap.size := by omega
          go_wp2_with (go_at_call 63; refine (HSL.out _).mono ?_; rintro e w' ⟨rfl, hb⟩; obtain ⟨hc, hf, hz, hy⟩ := bcell hb; clear hy; (try simp only [World.size_alloc, World.size_setCell, World.size_drew] at hz); (try have gQ0 : w.heap.size < w'.heap.size := by omega); (try have gQ1 : w.heap.size + 1 < w'.heap.size := by omega); (try have gQ2 : w.heap.size + 1 + 1 < w'.heap.size := by omega); (try have gQ3 : w.heap.size + 1 + 1 + 1 < w'.heap.size := by omega); (try have gQ4 : w.heap.size + 1 + 1 + 1 + 1 < w'.heap.size := by omega); (try have gQ5 : w.heap.size + 1 + 1 + 1 + 1 + 1 < w'.heap.size := by omega); (try have dQ0 : _ < w'.heap.size := Nat.lt_of_lt_of_le dQ0 (by omega)); (try have dQ1 : _ < w'.heap.size := Nat.lt_of_lt_of_le dQ1 (by omega)); (try have dQ2 : _ < w'.heap.size := Nat.lt_of_lt_of_le dQ2 (by omega)); (try have dQ3 : _ < w'.heap.size := Nat.lt_of_lt_of_le dQ3 (by omega)); (try have dQ4 : _ < w'.heap.size := Nat.lt_of_lt_of_le dQ4 (by omega)); (try have dQ5 : _ < w'.heap.size := Nat.lt_of_lt_of_le dQ5 (by omega)); (try (have hnQ := Nat.lt_of_succ_le hz; first | (have _x := dQ0; first | (have _x := dQ1; first | (have _x := dQ2; first | (have _x := dQ3; first | (have _x := dQ4; have dQ5 := hnQ) | have dQ4 := hnQ) | have dQ3 := hnQ) | have dQ2 := hnQ) | have dQ1 := hnQ) | have dQ0 := hnQ)); (try (have hmQ := Nat.lt_of_succ_lt (Nat.lt_of_succ_le hz); first | (have _x := dQ0; first | (have _x := dQ1; first | (have _x := dQ2; first | (have _x := dQ3; first | (have _x := dQ4; have dQ5 := hmQ) | have dQ4 := hmQ) | have dQ3 := hmQ) | have dQ2 := hmQ) | have dQ1 := hmQ) | have dQ0 := hmQ)))
          all_goals go_roundw
          case rel => exact ⟨i + 1, by omega, by go_num, by rw [HSc.out], below_via hb hbi hzi⟩
          case measure => simp [intOf]; omega
        · obtain rfl : i = J.length := by omega
          have hla : leastTo s J.length = N := by rw [HLA.out, HN.out]
          rw [hla]
          clear hla hilt
          have HBi := Lib.hid hbi
          have hm1 : decide ((M : Int) ≤ N) = true := by simpa using hMN
          have hj1 : ((JT.length : Int) == (J.length : Int)) = true := by have := HJT.out; simp; omega
          have HB5 := Lib.hid (HB4.out.trans (hbi.mono HB4.out.size))
          have hw5 := HB5.out.size
          clear hbi
          go_wp2_with (first | (go_at_call 64; (with_reducible refine (HOK.out _).mono ?_); rintro e w' ⟨rfl, rfl⟩) | (go_at_call 59; (first | (with_reducible refine (HLT.out _).mono ?_) | (with_reducible refine (HLG.out _).mono ?_)); rintro e w' ⟨rfl, hb⟩; have hzz := hb.size) | (go_at_call 60; (with_reducible refine (HRTT.out _).mono ?_); rintro e w' ⟨rfl, hb⟩; have hzz := hb.size) | (go_at_call 65; (with_reducible refine (HIS.out _).mono ?_); rintro e w' ⟨rfl, hb⟩; have hzz := hb.size) | (go_at_call 61; (with_reducible refine (HJTs.out _).mono ?_); rintro e w' ⟨vT, rfl, own, hb⟩; obtain ⟨aT, cT, rfl, _, _⟩ := own.strG; clear own; have hzz := hb.size) | (go_at_call 66; (first | (with_reducible refine (HC3.out _).mono ?_) | (with_reducible refine (HC1.out _).mono ?_)); rintro e w' ⟨rfl, hb⟩; have hzz := hb.size))
          have hb5 := HB5.out
          all_goals go_ret
          all_goals exact ⟨rfl, by (repeat' first | (with_reducible exact Below.refl _ _) | (with_reducible refine Below.alloc ?_ ?_ _) | (with_reducible refine Below.drew ?_) | (with_reducible refine Below.setCell ?_ ?_ _) | (with_reducible refine below_via (by assumption) ?_ ?_) | (with_reducible assumption) | ((try simp only [World.size_alloc, World.size_setCell, World.size_drew] at *); omega) | go_size)⟩

set_option maxRecDepth 100000 in
theorem law_walk : LawWalk 9 Try.f9.params.toList := by
  intro H enc W base args ds ps hval hA
  rw [Try.params9] at hA hval
  obtain ⟨v0, vs0, d0, ds0, p0, q0, hargs, rfl, rfl, h0, r0⟩ := trodAll_cons hA
  obtain ⟨rfl, rfl, rfl⟩ := trodAll_nil r0
  obtain rfl : args = #[v0] := by cases args; simp_all
  obtain ⟨l0, rd0, ok0⟩ := arg_ByteS (hval 0 _ _ rfl rfl) h0
  exact law_any v0 l0 W rd0 ok0

set_option maxRecDepth 100000 in
theorem lifted (os : Os) (started : os.Started) (H : Type) (enc : TypeId × Value → H) :
    ReturnsInHanded {} Try.checked os 9 .any (Rows.fnRowsSpec.pre6 enc Try.prog Try.f9 Rows.fnRowsRow.domain false) (Rows.fnRowsSpec.post enc Try.prog Try.f9 false true false false) :=
  law_lift started (by kernel_rfl) Try.func9
    (ChangeSpec.witness6 (enc := enc) (C := Try.checked) false ⟨#[], #[.slice none 0 0], []⟩ 8 (by kernel_rfl) (by kernel_rfl) (by kernel_rfl) (by kernel_rfl))
    rfl rfl (readable_all (by kernel_rfl)) (by intro ds h; match ds, h with | [a0], _ => rfl) law_walk

theorem over : Rows.fnRowsRow.holds Try.pinned (OpenSpec.ofChange Rows.fnRowsSpec) :=
  OpenClaim.holds_of_wide 9 Try.f9 rfl rfl rfl rfl rfl rfl rfl ⟨rfl, rfl, rfl, rfl, rfl⟩ rfl rfl rfl rfl rfl (by kernel_rfl) Try.func9 (by kernel_rfl)
    (of_decide_eq_true (by kernel_rfl)) (by unfold Func.isWrapper; first | (rw [if_pos (by decide +kernel)]; kernel_rfl) | (rw [if_neg (by decide +kernel)]; exact ⟨rfl, rfl⟩))
    (fun os started H enc _ => lifted os started H enc)

theorem proved : Rows.FnRowsSaid := over
#print axioms proved
end Go.Proofs.Ytfpofhkggojaoaa.fnRows
