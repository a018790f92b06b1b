/- DrawP: contracts of the reference's drawn puzzles. Conditions: the cursor's form. -/
import Derived.Test.YtledmebhlmpjaaaPzH
import Derived.Test.YtledmebhlmpjaaaPlayAll
set_option linter.unusedVariables false
set_option linter.unusedSimpArgs false
namespace Go.Proofs.Ytledmebhlmpjaaa
open Go.ChangeShapes Go.WideShapes Go.ChangeAt Go.RowKit Peg Go.Sort
theorem rect43_small : isSmall 4 3 (pw (4 * 3) - 1) = true := rect_small (a := 4) (b := 3) (by omega) (by omega) (by omega)
theorem rect33_small : isSmall 3 3 (pw (3 * 3) - 1) = true := rect_small (a := 3) (b := 3) (by omega) (by omega) (by omega)
set_option maxHeartbeats 4000000 in
set_option maxRecDepth 100000 in
theorem l14Start_any (c : Nat) (v : Value) (l : List Int) (w0 w : World) (hv : Rd EBy w0 v l) (hok : ∀ y ∈ l, ByOk y) (h0 : w0.heap.size ≤ c) (hbel : Below w0.heap.size w0 w) (hcur : CurAt w c v l.length) :
    Calls Try.prog 98 #[.pointer (some ⟨c, 0, none⟩)] w fun e w' => (∃ a b o p : Int, e = .returned (.tuple #[.agg #[.int .i64 a, .int .i64 b, .int .i64 o], .int .i64 p]) ∧ isSmall a b o = true ∧ posOk a b o p = true) ∧ CurAt w' c v l.length ∧ w.grownBy w' (some c) := by
  have HV := Lib.hid hv
  have HO := Lib.hid hok
  have HL := Lib.hid hbel
  have hcw := hcur.1
  have HC := Lib.hid hcur
  clear hv hok hbel hcur
  go_enter Try.func98, Try.ntmps98
  have hb0 : Below w.heap.size w (w.alloc (.cells #[.int .i64 0, .int .i64 0, .int .i64 0] 27)) := (Below.refl _ _).alloc (Nat.le_refl _) _
  go_wp2_with fail
  refine (l02Small_any c v l w0 _ HV.out HO.out h0 (HL.out.trans (hb0.mono (by omega))) (HC.out.keep hb0)).mono ?_
  rintro e w1 ⟨⟨a, b, o, rfl, hsm⟩, hcu1, hg1⟩
  have hz1 := hg1.size
  simp only [World.size_alloc] at hz1
  have HS1 := Lib.hid hsm
  have hb1 : Below w1.heap.size w1 (w1.alloc (.cells #[.int .i64 a, .int .i64 b, .int .i64 o] 27)) := (Below.refl _ _).alloc (Nat.le_refl _) _
  have HC1 := Lib.hid (hcu1.keep hb1)
  have HG1 := Lib.hid (only_trans (only_trans (only_old (c := c) hb0) hg1) (only_old (c := c) hb1))
  have HR1 := Lib.hid (fun j => (hb1.cell (p := ⟨w.heap.size, j, none⟩) (show w.heap.size < w1.heap.size by omega)).trans ((only_cell (o := j) hg1 (b := w.heap.size) (by simp) (by omega)).trans (show _ = #[Value.int .i64 0, .int .i64 0, .int .i64 0][j]? by simp)))
  have HF1 := Lib.hid (fun j => (hb1.frozen (p := ⟨w.heap.size, j, none⟩) (show w.heap.size < w1.heap.size by omega)).trans ((only_frozen (o := j) hg1 (b := w.heap.size) (by simp) (by omega)).trans (show _ = false by simp)))
  have hY1 : ∀ j, (w1.alloc (.cells #[.int .i64 a, .int .i64 b, .int .i64 o] 27)).frozen? ⟨w1.heap.size, j, none⟩ = false := fun j => by simp
  have HY1 := Lib.hid hY1
  clear hcu1 hg1 hsm hb0 hY1
  go_wp2_with fail
  refine (sCountHoles_any a b o _).mono ?_
  rintro e w2 ⟨rfl, hb2⟩
  have hz2 := hb2.size
  simp only [World.size_alloc] at hz2
  have HX2 := Lib.hid (fun j => (hb2.cell (p := ⟨w1.heap.size, j, none⟩) (by simp)).trans (show _ = #[Value.int .i64 a, .int .i64 b, .int .i64 o][j]? by simp))
  have HY2 := Lib.hid (fun j => (hb2.frozen (p := ⟨w1.heap.size, j, none⟩) (by simp)).trans (HY1.out j))
  have HR2 := Lib.hid (fun j => (hb2.cell (p := ⟨w.heap.size, j, none⟩) (by simp; omega)).trans (HR1.out j))
  have HF2 := Lib.hid (fun j => (hb2.frozen (p := ⟨w.heap.size, j, none⟩) (by simp; omega)).trans (HF1.out j))
  have HC2 := Lib.hid (HC1.out.keep hb2)
  have HG2 := Lib.hid (only_via hb2 HG1.out)
  have hcc : c < w1.heap.size := by omega
  clear hb2 hb1
  by_cases hbig : 13 < (holesOf a b o).length
  · have hd : decide ((13 : Int) < ((holesOf a b o).length : Nat)) = true := by simp; omega
    generalize (holesOf a b o).length = nh at *
    go_wp2_with fail
    refine (sRectangle_any 4 3 (by omega) (by omega) (by omega) (by omega) w2).mono ?_
    rintro e w3 ⟨rfl, hb3⟩
    have hz3 := hb3.size
    have hx3 : ∀ j, w3.cell? ⟨w1.heap.size, j, none⟩ = #[Value.int .i64 a, .int .i64 b, .int .i64 o][j]? := fun j => (hb3.cell (p := ⟨w1.heap.size, j, none⟩) (by show w1.heap.size < _; omega)).trans (HX2.out j)
    have hy3 : ∀ j, w3.frozen? ⟨w1.heap.size, j, none⟩ = false := fun j => (hb3.frozen (p := ⟨w1.heap.size, j, none⟩) (by show w1.heap.size < _; omega)).trans (HY2.out j)
    have HR3 := Lib.hid (fun j => (hb3.cell (p := ⟨w.heap.size, j, none⟩) (by show w.heap.size < _; omega)).trans (HR2.out j))
    have HF3 := Lib.hid (fun j => (hb3.frozen (p := ⟨w.heap.size, j, none⟩) (by show w.heap.size < _; omega)).trans (HF2.out j))
    have HC3 := Lib.hid (HC2.out.keep hb3)
    have HG3 := Lib.hid (only_via hb3 HG2.out)
    have HSM := Lib.hid rect43_small
    clear hb3
    generalize pw (4 * 3) - 1 = O at *
    go_wp2_with fail
    obtain ⟨wX, hwX⟩ : ∃ wX : World, wX = ((w3.setCell ⟨w1.heap.size, 0, none⟩ (.int .i64 4)).setCell ⟨w1.heap.size, 1, none⟩ (.int .i64 3)).setCell ⟨w1.heap.size, 2, none⟩ (.int .i64 O) := ⟨_, rfl⟩
    have hw13 : w.heap.size ≤ w1.heap.size := by omega
    have hzx1 : w1.heap.size < w3.heap.size := by omega
    have hbx : Below w1.heap.size w3 wX := by rw [hwX]; (repeat' first | (with_reducible exact Below.refl _ _) | (with_reducible refine Below.alloc ?_ ?_ _) | (with_reducible refine Below.drew ?_) | (with_reducible refine Below.setCell ?_ ?_ _) | (with_reducible refine below_via (by assumption) ?_ ?_) | go_size)
    have hzX : wX.heap.size = w3.heap.size := by rw [hwX]; simp
    have HXC := Lib.hid (fun j => (show wX.cell? ⟨w1.heap.size, j, none⟩ = #[Value.int .i64 4, .int .i64 3, .int .i64 O][j]? from by rw [hwX]; rcases (by omega : j = 0 ∨ j = 1 ∨ j = 2 ∨ 3 ≤ j) with rfl | rfl | rfl | h3 <;> simp [go_sem, *]))
    have HRC := Lib.hid (fun j => (hbx.cell (p := ⟨w.heap.size, j, none⟩) (show w.heap.size < w1.heap.size by omega)).trans (HR3.out j))
    have HRF := Lib.hid (fun j => (hbx.frozen (p := ⟨w.heap.size, j, none⟩) (show w.heap.size < w1.heap.size by omega)).trans (HF3.out j))
    have HCX := Lib.hid (HC3.out.keepB hcc (by omega) hbx)
    have HGX := Lib.hid (only_viaB hbx hw13 HG3.out)
    rw [← hwX]
    clear hwX hbx
    have hzXw : w3.heap.size ≤ wX.heap.size := by omega
    clear hzX
    have hXb : ∀ j, wX.cell? ⟨w1.heap.size, j, none⟩ = #[Value.int .i64 4, .int .i64 3, .int .i64 O][j]? := HXC.out
    have hdr : Below wX.heap.size wX wX.drew := (Below.refl _ _).drew
    have HCALL := Lib.hid (l06Start_any (4) (3) (O) (isSmall_iff.1 HSM.out).1 c v l w0 wX.drew HV.out HO.out h0 ((HL.out.trans ((only_below (Nat.le_of_lt hcw) HGX.out).mono h0)).trans (hdr.mono (by have := HL.out.size; have := HGX.out.size; omega))) (HCX.out.keep hdr))
    have HPOST : Hid (∀ w5 : World, wX.drew.grownBy w5 (some c) → (∀ j, w5.cell? ⟨w1.heap.size, j, none⟩ = #[Value.int .i64 4, .int .i64 3, .int .i64 O][j]?) ∧ (∀ j, w5.cell? ⟨w.heap.size, j, none⟩ = #[Value.int .i64 0, .int .i64 0, .int .i64 0][j]?) ∧ (∀ j, w5.frozen? ⟨w.heap.size, j, none⟩ = false) ∧ Hid (w.grownBy w5 (some c)) ∧ w.heap.size < w5.heap.size) := fun w5 hg5 => by
      have hz := hg5.size
      simp only [World.size_drew] at hz
      have hcell : ∀ b j, b < wX.heap.size → b ≠ c → w5.cell? ⟨b, j, none⟩ = wX.cell? ⟨b, j, none⟩ := fun b j h1 h2 => (only_cell hg5 (by simpa using h1) h2).trans (by simp)
      have hfro : ∀ b j, b < wX.heap.size → b ≠ c → w5.frozen? ⟨b, j, none⟩ = wX.frozen? ⟨b, j, none⟩ := fun b j h1 h2 => (only_frozen hg5 (by simpa using h1) h2).trans (by simp)
      exact ⟨fun j => (hcell _ j (by omega) (by omega)).trans (hXb j), fun j => (hcell _ j (by omega) (by omega)).trans (HRC.out j), fun j => (hfro _ j (by omega) (by omega)).trans (HRF.out j), only_trans HGX.out (only_trans (only_old hdr) hg5), by omega⟩
    clear hdr
    go_region_with (go_at_call 68; refine HCALL.out.mono ?_; rintro e w5 ⟨⟨p, rfl, hp⟩, hcu5, hg5⟩; have HP := Lib.hid hp; have HC5 := Lib.hid hcu5; obtain ⟨hX5, hR5, hF5, HG5, hz5⟩ := HPOST.out w5 hg5; clear hp hcu5 hg5)
    all_goals go_wp2_with fail
    all_goals refine bodyPost_ret (v := .tuple #[.agg #[.int .i64 4, .int .i64 3, .int .i64 O], .int .i64 p]) (by simp [results, Try.results98, go_sem, *]) rfl ⟨⟨_, _, _, p, rfl, HSM.out, HP.out⟩, ?_, ?_⟩
    all_goals first | exact HC5.out.keepB (B := w.heap.size) hcw (by simp) (by (repeat' first | (with_reducible exact Below.refl _ _) | (with_reducible refine Below.alloc ?_ ?_ _) | (with_reducible refine Below.drew ?_) | (with_reducible refine Below.setCell ?_ ?_ _) | (with_reducible refine below_via (by assumption) ?_ ?_) | go_size)) | exact only_viaB (B := w.heap.size) (by (repeat' first | (with_reducible exact Below.refl _ _) | (with_reducible refine Below.alloc ?_ ?_ _) | (with_reducible refine Below.drew ?_) | (with_reducible refine Below.setCell ?_ ?_ _) | (with_reducible refine below_via (by assumption) ?_ ?_) | go_size)) (Nat.le_refl _) HG5.out
  · have hd : decide ((13 : Int) < ((holesOf a b o).length : Nat)) = false := by simp; omega
    generalize (holesOf a b o).length = nh at *
    have hx2 := HX2.out
    have HSM := HS1
    go_wp2_with fail
    obtain ⟨wX, rfl⟩ : ∃ wX : World, wX = w2 := ⟨_, rfl⟩
    have HXC := HX2
    have HRC := HR2
    have HRF := HF2
    have HCX := HC2
    have HGX := HG2
    have hXb : ∀ j, wX.cell? ⟨w1.heap.size, j, none⟩ = #[Value.int .i64 a, .int .i64 b, .int .i64 o][j]? := HXC.out
    have hdr : Below wX.heap.size wX wX.drew := (Below.refl _ _).drew
    have HCALL := Lib.hid (l06Start_any (a) (b) (o) (isSmall_iff.1 HSM.out).1 c v l w0 wX.drew HV.out HO.out h0 ((HL.out.trans ((only_below (Nat.le_of_lt hcw) HGX.out).mono h0)).trans (hdr.mono (by have := HL.out.size; have := HGX.out.size; omega))) (HCX.out.keep hdr))
    have HPOST : Hid (∀ w5 : World, wX.drew.grownBy w5 (some c) → (∀ j, w5.cell? ⟨w1.heap.size, j, none⟩ = #[Value.int .i64 a, .int .i64 b, .int .i64 o][j]?) ∧ (∀ j, w5.cell? ⟨w.heap.size, j, none⟩ = #[Value.int .i64 0, .int .i64 0, .int .i64 0][j]?) ∧ (∀ j, w5.frozen? ⟨w.heap.size, j, none⟩ = false) ∧ Hid (w.grownBy w5 (some c)) ∧ w.heap.size < w5.heap.size) := fun w5 hg5 => by
      have hz := hg5.size
      simp only [World.size_drew] at hz
      have hcell : ∀ b j, b < wX.heap.size → b ≠ c → w5.cell? ⟨b, j, none⟩ = wX.cell? ⟨b, j, none⟩ := fun b j h1 h2 => (only_cell hg5 (by simpa using h1) h2).trans (by simp)
      have hfro : ∀ b j, b < wX.heap.size → b ≠ c → w5.frozen? ⟨b, j, none⟩ = wX.frozen? ⟨b, j, none⟩ := fun b j h1 h2 => (only_frozen hg5 (by simpa using h1) h2).trans (by simp)
      exact ⟨fun j => (hcell _ j (by omega) (by omega)).trans (hXb j), fun j => (hcell _ j (by omega) (by omega)).trans (HRC.out j), fun j => (hfro _ j (by omega) (by omega)).trans (HRF.out j), only_trans HGX.out (only_trans (only_old hdr) hg5), by omega⟩
    clear hdr
    go_region_with (go_at_call 68; refine HCALL.out.mono ?_; rintro e w5 ⟨⟨p, rfl, hp⟩, hcu5, hg5⟩; have HP := Lib.hid hp; have HC5 := Lib.hid hcu5; obtain ⟨hX5, hR5, hF5, HG5, hz5⟩ := HPOST.out w5 hg5; clear hp hcu5 hg5)
    all_goals go_wp2_with fail
    all_goals refine bodyPost_ret (v := .tuple #[.agg #[.int .i64 a, .int .i64 b, .int .i64 o], .int .i64 p]) (by simp [results, Try.results98, go_sem, *]) rfl ⟨⟨_, _, _, p, rfl, HSM.out, HP.out⟩, ?_, ?_⟩
    all_goals first | exact HC5.out.keepB (B := w.heap.size) hcw (by simp) (by (repeat' first | (with_reducible exact Below.refl _ _) | (with_reducible refine Below.alloc ?_ ?_ _) | (with_reducible refine Below.drew ?_) | (with_reducible refine Below.setCell ?_ ?_ _) | (with_reducible refine below_via (by assumption) ?_ ?_) | go_size)) | exact only_viaB (B := w.heap.size) (by (repeat' first | (with_reducible exact Below.refl _ _) | (with_reducible refine Below.alloc ?_ ?_ _) | (with_reducible refine Below.drew ?_) | (with_reducible refine Below.setCell ?_ ?_ _) | (with_reducible refine below_via (by assumption) ?_ ?_) | go_size)) (Nat.le_refl _) HG5.out
end Go.Proofs.Ytledmebhlmpjaaa
