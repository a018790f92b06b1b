/- DrawP2: contracts of the reference's drawn puzzles, further. Conditions: the cursor's form. -/
import Derived.Test.YtledmebhlmpjaaaDrawP
set_option linter.unusedVariables false
set_option linter.unusedSimpArgs false
namespace Go.Proofs.Ytledmebhlmpjaaa
open Go.ChangeShapes Go.WideShapes Go.ChangeAt Go.RowKit Peg Go.Sort
set_option maxHeartbeats 8000000 in
set_option maxRecDepth 100000 in
theorem l21Start_any (c : Nat) (v : Value) (l : List Int) (w0 w : World) (hv : Rd EBy w0 v l) (hok : ∀ y ∈ l, ByOk y) (h0 : w0.heap.size ≤ c) (hbel : Below w0.heap.size w0 w) (hcur : CurAt w c v l.length) :
    Calls Try.prog 82 #[.pointer (some ⟨c, 0, none⟩)] w fun e w' => (∃ a b o p q : Int, e = .returned (.tuple #[.agg #[.int .i64 a, .int .i64 b, .int .i64 o], .int .i64 p, .int .i64 q]) ∧ isSmall a b o = true ∧ posOk a b o p = true ∧ posOk a b o q = true) ∧ CurAt w' c v l.length ∧ w.grownBy w' (some c) := by
  have HV := Lib.hid hv
  have HO := Lib.hid hok
  have HL := Lib.hid hbel
  have hcw := hcur.1
  have HC := Lib.hid hcur
  clear hv hok hbel hcur
  go_enter Try.func82, Try.ntmps82
  have hb0 : Below w.heap.size w (w.alloc (.cells #[.int .i64 0, .int .i64 0, .int .i64 0] 27)) := (Below.refl _ _).alloc (Nat.le_refl _) _
  go_wp2_with fail
  refine (l14Start_any c v l w0 _ HV.out HO.out h0 (HL.out.trans (hb0.mono (by omega))) (HC.out.keep hb0)).mono ?_
  rintro e w1 ⟨⟨a, b, o, p, rfl, hsm, hp⟩, hcu1, hg1⟩
  have HP1 := Lib.hid hp
  clear hp
  have hz1 := hg1.size
  simp only [World.size_alloc] at hz1
  have HS1 := Lib.hid hsm
  have hb1 : Below w1.heap.size w1 (w1.alloc (.cells #[.int .i64 a, .int .i64 b, .int .i64 o] 27)) := (Below.refl _ _).alloc (Nat.le_refl _) _
  have HC1 := Lib.hid (hcu1.keep hb1)
  have HG1 := Lib.hid (only_trans (only_trans (only_old (c := c) hb0) hg1) (only_old (c := c) hb1))
  have HR1 := Lib.hid (fun j => (hb1.cell (p := ⟨w.heap.size, j, none⟩) (show w.heap.size < w1.heap.size by omega)).trans ((only_cell (o := j) hg1 (b := w.heap.size) (by simp) (by omega)).trans (show _ = #[Value.int .i64 0, .int .i64 0, .int .i64 0][j]? by simp)))
  have HF1 := Lib.hid (fun j => (hb1.frozen (p := ⟨w.heap.size, j, none⟩) (show w.heap.size < w1.heap.size by omega)).trans ((only_frozen (o := j) hg1 (b := w.heap.size) (by simp) (by omega)).trans (show _ = false by simp)))
  have hY1 : ∀ j, (w1.alloc (.cells #[.int .i64 a, .int .i64 b, .int .i64 o] 27)).frozen? ⟨w1.heap.size, j, none⟩ = false := fun j => by simp
  have HY1 := Lib.hid hY1
  clear hcu1 hg1 hsm hb0 hY1
  go_wp2_with fail
  refine (sCountHoles_any a b o _).mono ?_
  rintro e w2 ⟨rfl, hb2⟩
  have hz2 := hb2.size
  simp only [World.size_alloc] at hz2
  have HX2 := Lib.hid (fun j => (hb2.cell (p := ⟨w1.heap.size, j, none⟩) (by simp)).trans (show _ = #[Value.int .i64 a, .int .i64 b, .int .i64 o][j]? by simp))
  have HY2 := Lib.hid (fun j => (hb2.frozen (p := ⟨w1.heap.size, j, none⟩) (by simp)).trans (HY1.out j))
  have HR2 := Lib.hid (fun j => (hb2.cell (p := ⟨w.heap.size, j, none⟩) (by simp; omega)).trans (HR1.out j))
  have HF2 := Lib.hid (fun j => (hb2.frozen (p := ⟨w.heap.size, j, none⟩) (by simp; omega)).trans (HF1.out j))
  have HC2 := Lib.hid (HC1.out.keep hb2)
  have HG2 := Lib.hid (only_via hb2 HG1.out)
  have hcc : c < w1.heap.size := by omega
  clear hb2 hb1
  by_cases hbig : 10 < (holesOf a b o).length
  · have hd : decide ((10 : Int) < ((holesOf a b o).length : Nat)) = true := by simp; omega
    generalize (holesOf a b o).length = nh at *
    go_wp2_with fail
    refine (sRectangle_any 3 3 (by omega) (by omega) (by omega) (by omega) w2).mono ?_
    rintro e w3 ⟨rfl, hb3⟩
    have hz3 := hb3.size
    have hx3 : ∀ j, w3.cell? ⟨w1.heap.size, j, none⟩ = #[Value.int .i64 a, .int .i64 b, .int .i64 o][j]? := fun j => (hb3.cell (p := ⟨w1.heap.size, j, none⟩) (by show w1.heap.size < _; omega)).trans (HX2.out j)
    have hy3 : ∀ j, w3.frozen? ⟨w1.heap.size, j, none⟩ = false := fun j => (hb3.frozen (p := ⟨w1.heap.size, j, none⟩) (by show w1.heap.size < _; omega)).trans (HY2.out j)
    have HR3 := Lib.hid (fun j => (hb3.cell (p := ⟨w.heap.size, j, none⟩) (by show w.heap.size < _; omega)).trans (HR2.out j))
    have HF3 := Lib.hid (fun j => (hb3.frozen (p := ⟨w.heap.size, j, none⟩) (by show w.heap.size < _; omega)).trans (HF2.out j))
    have HC3 := Lib.hid (HC2.out.keep hb3)
    have HG3 := Lib.hid (only_via hb3 HG2.out)
    have HSM := Lib.hid rect33_small
    clear hb3
    generalize pw (3 * 3) - 1 = O at *
    go_wp2_with fail
    obtain ⟨wS, hwS⟩ : ∃ wS : World, wS = ((w3.setCell ⟨w1.heap.size, 0, none⟩ (.int .i64 3)).setCell ⟨w1.heap.size, 1, none⟩ (.int .i64 3)).setCell ⟨w1.heap.size, 2, none⟩ (.int .i64 O) := ⟨_, rfl⟩
    have hw13 : w.heap.size ≤ w1.heap.size := by omega
    have hzx1 : w1.heap.size < w3.heap.size := by omega
    have hbx : Below w1.heap.size w3 wS := by rw [hwS]; (repeat' first | (with_reducible exact Below.refl _ _) | (with_reducible refine Below.alloc ?_ ?_ _) | (with_reducible refine Below.drew ?_) | (with_reducible refine Below.setCell ?_ ?_ _) | (with_reducible refine below_via (by assumption) ?_ ?_) | go_size)
    have hzX : wS.heap.size = w3.heap.size := by rw [hwS]; simp
    have HXS := Lib.hid (fun j => (show wS.cell? ⟨w1.heap.size, j, none⟩ = #[Value.int .i64 3, .int .i64 3, .int .i64 O][j]? from by rw [hwS]; rcases (by omega : j = 0 ∨ j = 1 ∨ j = 2 ∨ 3 ≤ j) with rfl | rfl | rfl | h3 <;> simp [go_sem, *]))
    have HRS := Lib.hid (fun j => (hbx.cell (p := ⟨w.heap.size, j, none⟩) (show w.heap.size < w1.heap.size by omega)).trans (HR3.out j))
    have HFS := Lib.hid (fun j => (hbx.frozen (p := ⟨w.heap.size, j, none⟩) (show w.heap.size < w1.heap.size by omega)).trans (HF3.out j))
    have HCS := Lib.hid (HC3.out.keepB hcc (by omega) hbx)
    have HGS := Lib.hid (only_viaB hbx hw13 HG3.out)
    rw [← hwS]
    clear hwS hbx
    have hzXw : w3.heap.size ≤ wS.heap.size := by omega
    clear hzX
    have HLS := Lib.hid (HL.out.trans ((only_below (Nat.le_of_lt hcw) HGS.out).mono h0))
    refine (l06Start_any 3 3 O (isSmall_iff.1 HSM.out).1 c v l w0 wS HV.out HO.out h0 HLS.out HCS.out).mono ?_
    rintro e wX ⟨⟨p2, rfl, hp2⟩, hcuX, hgX⟩
    have hzX2 := hgX.size
    have HPP := Lib.hid hp2
    have HXC := Lib.hid (fun j => (only_cell (o := j) hgX (b := w1.heap.size) (by omega) (by omega)).trans (HXS.out j))
    have HRC := Lib.hid (fun j => (only_cell (o := j) hgX (b := w.heap.size) (by omega) (by omega)).trans (HRS.out j))
    have HRF := Lib.hid (fun j => (only_frozen (o := j) hgX (b := w.heap.size) (by omega) (by omega)).trans (HFS.out j))
    have HCX := Lib.hid hcuX
    have HGX := Lib.hid (only_trans HGS.out hgX)
    clear hp2 hcuX hgX
    go_wp2_with fail
    have hXb : ∀ j, wX.cell? ⟨w1.heap.size, j, none⟩ = #[Value.int .i64 3, .int .i64 3, .int .i64 O][j]? := HXC.out
    have HLX := Lib.hid (HL.out.trans ((only_below (Nat.le_of_lt hcw) HGX.out).mono h0))
    have hdr : Below wX.heap.size wX wX.drew := (Below.refl _ _).drew
    have HCALL := Lib.hid (l01Below_any c v l 10 (by omega) (by omega) w0 wX.drew HV.out HO.out h0 (HLX.out.trans (hdr.mono HLX.out.size)) (HCX.out.keep hdr))
    have HPOST : Hid (∀ w5 : World, wX.drew.grownBy w5 (some c) → (∀ j, w5.cell? ⟨w1.heap.size, j, none⟩ = #[Value.int .i64 3, .int .i64 3, .int .i64 O][j]?) ∧ Hid (wX.grownBy w5 (some c)) ∧ Hid (Below w0.heap.size w0 w5) ∧ wX.heap.size ≤ w5.heap.size) := fun w5 hg5 => by
      have hz := hg5.size
      simp only [World.size_drew] at hz
      have hg : wX.grownBy w5 (some c) := only_trans (only_old hdr) hg5
      exact ⟨fun j => (only_cell hg (by omega) (by omega)).trans (hXb j), hg, HLX.out.trans ((only_below (by omega) hg).mono h0), hz⟩
    have HPOS2 : Hid (∀ w4 w5 : World, wX.grownBy w4 (some c) → w4.grownBy w5 (some c) → (∀ j, w5.cell? ⟨w1.heap.size, j, none⟩ = #[Value.int .i64 3, .int .i64 3, .int .i64 O][j]?) ∧ Hid (wX.grownBy w5 (some c)) ∧ w4.heap.size ≤ w5.heap.size) := fun w4 w5 h4 h5 => by
      have hg := only_trans h4 h5
      exact ⟨fun j => (only_cell hg (by omega) (by omega)).trans (hXb j), hg, h5.size⟩
    have hpp := pos_lt HPP.out
    go_cut [7] (fun u wx => ∃ q : Int, u = .int .i64 q ∧ Hid (posOk (3) (3) (O) q = true) ∧ Hid (CurAt wx c v l.length) ∧ Hid (wX.grownBy wx (some c)))
    case first =>
      clear hdr
      go_region_with (first | (go_at_call 67; refine HCALL.out.mono ?_; rintro e w4 ⟨⟨x, rfl, x0, x1⟩, hcu4, hg4⟩; obtain ⟨k, rfl⟩ : ∃ k : Nat, x = k := ⟨x.toNat, by omega⟩; obtain ⟨hX4, HG4, HL4, hz4⟩ := HPOST.out w4 hg4; have HC4 := Lib.hid hcu4; clear hcu4 hg4) | (go_at_call 70; refine (l06Play_any (3) (3) (O) (p2) k (by omega) HPP.out c v l w0 w4 HV.out HO.out h0 HL4.out HC4.out).mono ?_; rintro e w5 ⟨⟨q, L, vL, rfl, hpt, hq, hLn, hown⟩, hcu5, hg5⟩; obtain ⟨hX5, HG5, hz5⟩ := HPOS2.out w4 w5 HG4.out hg5; have HPT := Lib.hid hpt; have HQ := Lib.hid hq; have HOW := Lib.hid hown; have HC5 := Lib.hid hcu5; clear hpt hq hown hcu5 hg5) | (go_at_call 69; refine (sPlayAll_any (3) (3) (O) (p2) L vL (by omega) w5 HOW.out).mono ?_; rw [show playAll (3) (3) (O) (p2) L = some q from by rw [playAll, if_pos HPP.out, if_pos (by omega), HPT.out]]; rintro e w6 ⟨rfl, hb6⟩; have HC6 := Lib.hid (HC5.out.keep hb6); have HG6 := Lib.hid (only_via hb6 HG5.out); have hX6 : ∀ j, w6.cell? ⟨w1.heap.size, j, none⟩ = #[Value.int .i64 3, .int .i64 3, .int .i64 O][j]? := (fun j => (hb6.cell (p := ⟨w1.heap.size, j, none⟩) (by show w1.heap.size < _; omega)).trans (hX5 j)); clear hb6; simp only [optInt, Option.getD_some, Option.isSome_some]))
      all_goals (go_wp2_with fail; go_meet; case rel => exact ⟨q, rfl, HQ, HC6, HG6⟩)
    obtain ⟨q, rfl, HQ, HCC, HGC⟩ := hcut
    have hzc := HGC.out.size
    have hXc : ∀ j, wc.cell? ⟨w1.heap.size, j, none⟩ = #[Value.int .i64 3, .int .i64 3, .int .i64 O][j]? := fun j => (only_cell HGC.out (by omega) (by omega)).trans (hXb j)
    have HGW := Lib.hid (only_trans HGX.out HGC.out)
    have HLC := Lib.hid (HL.out.trans ((only_below (Nat.le_of_lt hcw) HGW.out).mono h0))
    clear hdr
    go_wp2_with fail
    refine (l01Once_any c v l 8 (by omega) (by omega) w0 wc HV.out HO.out h0 HLC.out HCC.out).mono ?_
    rintro e w7 ⟨⟨x, rfl⟩, hcu7, hg7⟩
    have hz7 := hg7.size
    have HC7 := Lib.hid hcu7
    have HG7 := Lib.hid (only_trans HGW.out hg7)
    have HG7c := Lib.hid (only_trans HGC.out hg7)
    have hX7 : ∀ j, w7.cell? ⟨w1.heap.size, j, none⟩ = #[Value.int .i64 3, .int .i64 3, .int .i64 O][j]? := fun j => (only_cell hg7 (by omega) (by omega)).trans (hXc j)
    clear hcu7 hg7 hXc hXb
    cases x
    · have hR7 : ∀ j, w7.cell? ⟨w.heap.size, j, none⟩ = #[Value.int .i64 0, .int .i64 0, .int .i64 0][j]? := fun j => (only_cell HG7c.out (by omega) (by omega)).trans (HRC.out j)
      have hF7 : ∀ j, w7.frozen? ⟨w.heap.size, j, none⟩ = false := fun j => (only_frozen HG7c.out (by omega) (by omega)).trans (HRF.out j)
      go_wp2_with fail
      refine bodyPost_ret (v := .tuple #[.agg #[.int .i64 3, .int .i64 3, .int .i64 O], .int .i64 (p2), .int .i64 q]) (by simp [results, Try.results82, go_sem, *]) rfl ⟨⟨_, _, _, _, q, rfl, HSM.out, HPP.out, HQ.out⟩, ?_, ?_⟩
      · exact HC7.out.keepB (B := w.heap.size) hcw (by simp) (by (repeat' first | (with_reducible exact Below.refl _ _) | (with_reducible refine Below.alloc ?_ ?_ _) | (with_reducible refine Below.drew ?_) | (with_reducible refine Below.setCell ?_ ?_ _) | (with_reducible refine below_via (by assumption) ?_ ?_) | go_size))
      · exact only_viaB (B := w.heap.size) (by (repeat' first | (with_reducible exact Below.refl _ _) | (with_reducible refine Below.alloc ?_ ?_ _) | (with_reducible refine Below.drew ?_) | (with_reducible refine Below.setCell ?_ ?_ _) | (with_reducible refine below_via (by assumption) ?_ ?_) | go_size)) (Nat.le_refl _) HG7.out
    · have HL7 := Lib.hid (HL.out.trans ((only_below (Nat.le_of_lt hcw) HG7.out).mono h0))
      go_wp2_with fail
      refine (l04Some_any (3) (3) (O) (isSmall_iff.1 HSM.out).1 c v l w0 w7 HV.out HO.out h0 HL7.out HC7.out).mono ?_
      rintro e w8 ⟨⟨q2, rfl, hq2⟩, hcu8, hg8⟩
      have hz8 := hg8.size
      have HQ2 := Lib.hid hq2
      have HC8 := Lib.hid hcu8
      have HG8 := Lib.hid (only_trans HG7.out hg8)
      have hX8 : ∀ j, w8.cell? ⟨w1.heap.size, j, none⟩ = #[Value.int .i64 3, .int .i64 3, .int .i64 O][j]? := fun j => (only_cell hg8 (by omega) (by omega)).trans (hX7 j)
      have hg := only_trans HG7c.out hg8
      have hR8 : ∀ j, w8.cell? ⟨w.heap.size, j, none⟩ = #[Value.int .i64 0, .int .i64 0, .int .i64 0][j]? := fun j => (only_cell hg (by omega) (by omega)).trans (HRC.out j)
      have hF8 : ∀ j, w8.frozen? ⟨w.heap.size, j, none⟩ = false := fun j => (only_frozen hg (by omega) (by omega)).trans (HRF.out j)
      clear hq2 hcu8 hg8 hg hX7
      go_wp2_with fail
      refine bodyPost_ret (v := .tuple #[.agg #[.int .i64 3, .int .i64 3, .int .i64 O], .int .i64 (p2), .int .i64 q2]) (by simp [results, Try.results82, go_sem, *]) rfl ⟨⟨_, _, _, _, q2, rfl, HSM.out, HPP.out, HQ2.out⟩, ?_, ?_⟩
      · exact HC8.out.keepB (B := w.heap.size) hcw (by simp) (by (repeat' first | (with_reducible exact Below.refl _ _) | (with_reducible refine Below.alloc ?_ ?_ _) | (with_reducible refine Below.drew ?_) | (with_reducible refine Below.setCell ?_ ?_ _) | (with_reducible refine below_via (by assumption) ?_ ?_) | go_size))
      · exact only_viaB (B := w.heap.size) (by (repeat' first | (with_reducible exact Below.refl _ _) | (with_reducible refine Below.alloc ?_ ?_ _) | (with_reducible refine Below.drew ?_) | (with_reducible refine Below.setCell ?_ ?_ _) | (with_reducible refine below_via (by assumption) ?_ ?_) | go_size)) (Nat.le_refl _) HG8.out
  · have hd : decide ((10 : Int) < ((holesOf a b o).length : Nat)) = false := by simp; omega
    generalize (holesOf a b o).length = nh at *
    have hx2 := HX2.out
    have HSM := HS1
    go_wp2_with fail
    obtain ⟨wX, rfl⟩ : ∃ wX : World, wX = w2 := ⟨_, rfl⟩
    have HXC := HX2
    have HRC := HR2
    have HRF := HF2
    have HCX := HC2
    have HGX := HG2
    have HPP := HP1
    have hXb : ∀ j, wX.cell? ⟨w1.heap.size, j, none⟩ = #[Value.int .i64 a, .int .i64 b, .int .i64 o][j]? := HXC.out
    have HLX := Lib.hid (HL.out.trans ((only_below (Nat.le_of_lt hcw) HGX.out).mono h0))
    have hdr : Below wX.heap.size wX wX.drew := (Below.refl _ _).drew
    have HCALL := Lib.hid (l01Below_any c v l 10 (by omega) (by omega) w0 wX.drew HV.out HO.out h0 (HLX.out.trans (hdr.mono HLX.out.size)) (HCX.out.keep hdr))
    have HPOST : Hid (∀ w5 : World, wX.drew.grownBy w5 (some c) → (∀ j, w5.cell? ⟨w1.heap.size, j, none⟩ = #[Value.int .i64 a, .int .i64 b, .int .i64 o][j]?) ∧ Hid (wX.grownBy w5 (some c)) ∧ Hid (Below w0.heap.size w0 w5) ∧ wX.heap.size ≤ w5.heap.size) := fun w5 hg5 => by
      have hz := hg5.size
      simp only [World.size_drew] at hz
      have hg : wX.grownBy w5 (some c) := only_trans (only_old hdr) hg5
      exact ⟨fun j => (only_cell hg (by omega) (by omega)).trans (hXb j), hg, HLX.out.trans ((only_below (by omega) hg).mono h0), hz⟩
    have HPOS2 : Hid (∀ w4 w5 : World, wX.grownBy w4 (some c) → w4.grownBy w5 (some c) → (∀ j, w5.cell? ⟨w1.heap.size, j, none⟩ = #[Value.int .i64 a, .int .i64 b, .int .i64 o][j]?) ∧ Hid (wX.grownBy w5 (some c)) ∧ w4.heap.size ≤ w5.heap.size) := fun w4 w5 h4 h5 => by
      have hg := only_trans h4 h5
      exact ⟨fun j => (only_cell hg (by omega) (by omega)).trans (hXb j), hg, h5.size⟩
    have hpp := pos_lt HPP.out
    go_cut [7] (fun u wx => ∃ q : Int, u = .int .i64 q ∧ Hid (posOk (a) (b) (o) q = true) ∧ Hid (CurAt wx c v l.length) ∧ Hid (wX.grownBy wx (some c)))
    case first =>
      clear hdr
      go_region_with (first | (go_at_call 67; refine HCALL.out.mono ?_; rintro e w4 ⟨⟨x, rfl, x0, x1⟩, hcu4, hg4⟩; obtain ⟨k, rfl⟩ : ∃ k : Nat, x = k := ⟨x.toNat, by omega⟩; obtain ⟨hX4, HG4, HL4, hz4⟩ := HPOST.out w4 hg4; have HC4 := Lib.hid hcu4; clear hcu4 hg4) | (go_at_call 70; refine (l06Play_any (a) (b) (o) (p) k (by omega) HPP.out c v l w0 w4 HV.out HO.out h0 HL4.out HC4.out).mono ?_; rintro e w5 ⟨⟨q, L, vL, rfl, hpt, hq, hLn, hown⟩, hcu5, hg5⟩; obtain ⟨hX5, HG5, hz5⟩ := HPOS2.out w4 w5 HG4.out hg5; have HPT := Lib.hid hpt; have HQ := Lib.hid hq; have HOW := Lib.hid hown; have HC5 := Lib.hid hcu5; clear hpt hq hown hcu5 hg5) | (go_at_call 69; refine (sPlayAll_any (a) (b) (o) (p) L vL (by omega) w5 HOW.out).mono ?_; rw [show playAll (a) (b) (o) (p) L = some q from by rw [playAll, if_pos HPP.out, if_pos (by omega), HPT.out]]; rintro e w6 ⟨rfl, hb6⟩; have HC6 := Lib.hid (HC5.out.keep hb6); have HG6 := Lib.hid (only_via hb6 HG5.out); have hX6 : ∀ j, w6.cell? ⟨w1.heap.size, j, none⟩ = #[Value.int .i64 a, .int .i64 b, .int .i64 o][j]? := (fun j => (hb6.cell (p := ⟨w1.heap.size, j, none⟩) (by show w1.heap.size < _; omega)).trans (hX5 j)); clear hb6; simp only [optInt, Option.getD_some, Option.isSome_some]))
      all_goals (go_wp2_with fail; go_meet; case rel => exact ⟨q, rfl, HQ, HC6, HG6⟩)
    obtain ⟨q, rfl, HQ, HCC, HGC⟩ := hcut
    have hzc := HGC.out.size
    have hXc : ∀ j, wc.cell? ⟨w1.heap.size, j, none⟩ = #[Value.int .i64 a, .int .i64 b, .int .i64 o][j]? := fun j => (only_cell HGC.out (by omega) (by omega)).trans (hXb j)
    have HGW := Lib.hid (only_trans HGX.out HGC.out)
    have HLC := Lib.hid (HL.out.trans ((only_below (Nat.le_of_lt hcw) HGW.out).mono h0))
    clear hdr
    go_wp2_with fail
    refine (l01Once_any c v l 8 (by omega) (by omega) w0 wc HV.out HO.out h0 HLC.out HCC.out).mono ?_
    rintro e w7 ⟨⟨x, rfl⟩, hcu7, hg7⟩
    have hz7 := hg7.size
    have HC7 := Lib.hid hcu7
    have HG7 := Lib.hid (only_trans HGW.out hg7)
    have HG7c := Lib.hid (only_trans HGC.out hg7)
    have hX7 : ∀ j, w7.cell? ⟨w1.heap.size, j, none⟩ = #[Value.int .i64 a, .int .i64 b, .int .i64 o][j]? := fun j => (only_cell hg7 (by omega) (by omega)).trans (hXc j)
    clear hcu7 hg7 hXc hXb
    cases x
    · have hR7 : ∀ j, w7.cell? ⟨w.heap.size, j, none⟩ = #[Value.int .i64 0, .int .i64 0, .int .i64 0][j]? := fun j => (only_cell HG7c.out (by omega) (by omega)).trans (HRC.out j)
      have hF7 : ∀ j, w7.frozen? ⟨w.heap.size, j, none⟩ = false := fun j => (only_frozen HG7c.out (by omega) (by omega)).trans (HRF.out j)
      go_wp2_with fail
      refine bodyPost_ret (v := .tuple #[.agg #[.int .i64 a, .int .i64 b, .int .i64 o], .int .i64 (p), .int .i64 q]) (by simp [results, Try.results82, go_sem, *]) rfl ⟨⟨_, _, _, _, q, rfl, HSM.out, HPP.out, HQ.out⟩, ?_, ?_⟩
      · exact HC7.out.keepB (B := w.heap.size) hcw (by simp) (by (repeat' first | (with_reducible exact Below.refl _ _) | (with_reducible refine Below.alloc ?_ ?_ _) | (with_reducible refine Below.drew ?_) | (with_reducible refine Below.setCell ?_ ?_ _) | (with_reducible refine below_via (by assumption) ?_ ?_) | go_size))
      · exact only_viaB (B := w.heap.size) (by (repeat' first | (with_reducible exact Below.refl _ _) | (with_reducible refine Below.alloc ?_ ?_ _) | (with_reducible refine Below.drew ?_) | (with_reducible refine Below.setCell ?_ ?_ _) | (with_reducible refine below_via (by assumption) ?_ ?_) | go_size)) (Nat.le_refl _) HG7.out
    · have HL7 := Lib.hid (HL.out.trans ((only_below (Nat.le_of_lt hcw) HG7.out).mono h0))
      go_wp2_with fail
      refine (l04Some_any (a) (b) (o) (isSmall_iff.1 HSM.out).1 c v l w0 w7 HV.out HO.out h0 HL7.out HC7.out).mono ?_
      rintro e w8 ⟨⟨q2, rfl, hq2⟩, hcu8, hg8⟩
      have hz8 := hg8.size
      have HQ2 := Lib.hid hq2
      have HC8 := Lib.hid hcu8
      have HG8 := Lib.hid (only_trans HG7.out hg8)
      have hX8 : ∀ j, w8.cell? ⟨w1.heap.size, j, none⟩ = #[Value.int .i64 a, .int .i64 b, .int .i64 o][j]? := fun j => (only_cell hg8 (by omega) (by omega)).trans (hX7 j)
      have hg := only_trans HG7c.out hg8
      have hR8 : ∀ j, w8.cell? ⟨w.heap.size, j, none⟩ = #[Value.int .i64 0, .int .i64 0, .int .i64 0][j]? := fun j => (only_cell hg (by omega) (by omega)).trans (HRC.out j)
      have hF8 : ∀ j, w8.frozen? ⟨w.heap.size, j, none⟩ = false := fun j => (only_frozen hg (by omega) (by omega)).trans (HRF.out j)
      clear hq2 hcu8 hg8 hg hX7
      go_wp2_with fail
      refine bodyPost_ret (v := .tuple #[.agg #[.int .i64 a, .int .i64 b, .int .i64 o], .int .i64 (p), .int .i64 q2]) (by simp [results, Try.results82, go_sem, *]) rfl ⟨⟨_, _, _, _, q2, rfl, HSM.out, HPP.out, HQ2.out⟩, ?_, ?_⟩
      · exact HC8.out.keepB (B := w.heap.size) hcw (by simp) (by (repeat' first | (with_reducible exact Below.refl _ _) | (with_reducible refine Below.alloc ?_ ?_ _) | (with_reducible refine Below.drew ?_) | (with_reducible refine Below.setCell ?_ ?_ _) | (with_reducible refine below_via (by assumption) ?_ ?_) | go_size))
      · exact only_viaB (B := w.heap.size) (by (repeat' first | (with_reducible exact Below.refl _ _) | (with_reducible refine Below.alloc ?_ ?_ _) | (with_reducible refine Below.drew ?_) | (with_reducible refine Below.setCell ?_ ?_ _) | (with_reducible refine below_via (by assumption) ?_ ?_) | go_size)) (Nat.le_refl _) HG8.out
end Go.Proofs.Ytledmebhlmpjaaa
