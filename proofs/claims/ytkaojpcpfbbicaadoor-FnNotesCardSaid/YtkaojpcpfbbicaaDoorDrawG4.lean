/- DrawG4: contract of the reference's drawn games. Conditions: the code's form. -/
import Derived.Test.YtkaojpcpfbbicaaDoorDrawG3
import Derived.Deep.DeepCutAuto
set_option linter.unusedVariables false
set_option linter.unusedSimpArgs false
namespace Go.Proofs.YtkaojpcpfbbicaaDoor
open Go.ChangeShapes Go.WideShapes Go.ChangeAt Go.RowKit Peg Go.Sort
def GameIs (w : World) (e : Ending) (w' : World) : Prop := ∃ (a b o p q : Int) (L : List Ln) (vL : Value), e = .returned (.tuple #[.agg #[.int .i64 a, .int .i64 b, .int .i64 o], .int .i64 p, vL]) ∧ isSmall a b o = true ∧ posOk a b o p = true ∧ playTo false a b o p L = some q ∧ posOk a b o q = true ∧ L.length ≤ 11 ∧ Own ELine w' w.heap.size vL L ∧ Below w.heap.size w w'
set_option maxHeartbeats 4000000 in
set_option maxRecDepth 100000 in
theorem DrawGame_any (v : Value) (l : List Int) (w : World) (hv : Rd EBy w v l) (hok : ∀ y ∈ l, ByOk y) (hl : l.length ≤ 1048576) :
    Calls Tryd.prog 36 #[v] w (GameIs w) := by
  have HV := Lib.hid hv
  have HO := Lib.hid hok
  clear hv hok
  go_enter Tryd.func36, Tryd.ntmps36
  have hb0 : Below w.heap.size w (w.alloc (.cells #[.int .i64 0, .int .i64 0, .int .i64 0] 29)) := (Below.refl _ _).alloc (Nat.le_refl _) _
  go_wp2_with fail
  refine (l01New_any v l _ (HV.out.keep hb0) HO.out hl).mono ?_
  rintro e w1 ⟨c, rfl, hc0, hcu, hb⟩
  have hz1 := hb.size
  simp only [World.size_alloc] at hz1 hc0
  have hR1 : ∀ j, w1.cell? ⟨w.heap.size, j, none⟩ = #[Value.int .i64 0, .int .i64 0, .int .i64 0][j]? := fun j => (hb.cell (by simp)).trans (by simp)
  have hF1 : ∀ j, w1.frozen? ⟨w.heap.size, j, none⟩ = false := fun j => (hb.frozen (by simp)).trans (by simp)
  have HB1 := Lib.hid (hb0.trans (hb.mono (by simp)))
  have HC1 := Lib.hid hcu
  have hc1 := hcu.1
  clear hb hb0 hcu
  go_wp2_with fail
  refine (l02Small_any c v l w w1 HV.out HO.out (by omega) HB1.out HC1.out).mono ?_
  rintro e w2 ⟨⟨a, b, o, rfl, hsm⟩, hcu2, hg2⟩
  have hz2 := hg2.size
  have HSM := Lib.hid hsm
  have hR2 : ∀ j, w2.cell? ⟨w.heap.size, j, none⟩ = #[Value.int .i64 0, .int .i64 0, .int .i64 0][j]? := fun j => (only_cell hg2 (by omega) (by omega)).trans (hR1 j)
  have hF2 : ∀ j, w2.frozen? ⟨w.heap.size, j, none⟩ = false := fun j => (only_frozen hg2 (by omega) (by omega)).trans (hF1 j)
  have hb2a : Below w2.heap.size w2 (w2.alloc (.cells #[.int .i64 a, .int .i64 b, .int .i64 o] 29)) := (Below.refl _ _).alloc (Nat.le_refl _) _
  have HC2 := Lib.hid (hcu2.keep hb2a)
  have HB2 := Lib.hid (HB1.out.trans (((only_below (Nat.le_of_lt hc1) hg2).mono (by omega)).trans (hb2a.mono (by omega))))
  clear hcu2 hg2 hR1 hF1 hsm
  go_wp2_with fail
  refine (l06Start_any a b o (isSmall_iff.1 HSM.out).1 c v l w _ HV.out HO.out (by omega) HB2.out HC2.out).mono ?_
  rintro e w3 ⟨⟨p, rfl, hp⟩, hcu3, hg3⟩
  have hz3 := hg3.size
  simp only [World.size_alloc] at hz3
  have HP := Lib.hid hp
  have hX3 : ∀ j, w3.cell? ⟨w2.heap.size, j, none⟩ = #[Value.int .i64 a, .int .i64 b, .int .i64 o][j]? := fun j => (only_cell hg3 (by simp) (by omega)).trans (by simp)
  have hR3 : ∀ j, w3.cell? ⟨w.heap.size, j, none⟩ = #[Value.int .i64 0, .int .i64 0, .int .i64 0][j]? := fun j => (only_cell hg3 (by simp; omega) (by omega)).trans ((hb2a.cell (show w.heap.size < w2.heap.size by omega)).trans (hR2 j))
  have hF3 : ∀ j, w3.frozen? ⟨w.heap.size, j, none⟩ = false := fun j => (only_frozen hg3 (by simp; omega) (by omega)).trans ((hb2a.frozen (show w.heap.size < w2.heap.size by omega)).trans (hF2 j))
  have HC3 := Lib.hid hcu3
  have hc3 := hcu3.1
  have HB3 := Lib.hid (HB2.out.trans ((only_below (by simp; omega) hg3).mono (by omega)))
  clear hcu3 hg3 hR2 hF2 hp hb2a
  go_wp2_with fail
  have HB3d : Hid (Below w3.heap.size w3 w3.drew) := (Below.refl _ _).drew
  have HCALL := Lib.hid (l01Below_any c v l 12 (by omega) (by omega) w w3.drew HV.out HO.out (by omega) (HB3.out.trans (HB3d.out.mono HB3.out.size)) (HC3.out.keep HB3d.out))
  have hwz : w.heap.size < w3.heap.size := by omega
  have hwz2 : w2.heap.size < w3.heap.size := by omega
  have hcw2 : c ≠ w2.heap.size := by omega
  have hcw : c ≠ w.heap.size := by omega
  have hwc : w.heap.size ≤ c := by omega
  go_region_with (first | (go_at_call 60; refine HCALL.out.mono ?_; rintro e w4 ⟨⟨x, rfl, x0, x1⟩, hcu4, hg4⟩; obtain ⟨k, rfl⟩ : ∃ k : Nat, x = k := ⟨x.toNat, by omega⟩; have hz4 := hg4.size; simp only [World.size_drew] at hz4; have hX4 : ∀ j, w4.cell? ⟨w2.heap.size, j, none⟩ = #[Value.int .i64 a, .int .i64 b, .int .i64 o][j]? := (fun j => (only_cell hg4 (by simp only [World.size_drew]; omega) (by omega)).trans (hX3 j)); have HR4 := Lib.hid (fun j => (only_cell (o := j) hg4 (b := w.heap.size) (by simp only [World.size_drew]; omega) (by omega)).trans (hR3 j)); have HF4 := Lib.hid (fun j => (only_frozen (o := j) hg4 (b := w.heap.size) (by simp only [World.size_drew]; omega) (by omega)).trans (hF3 j)); have HC4 := Lib.hid hcu4; have HB4 := Lib.hid (HB3.out.trans ((HB3d.out.mono HB3.out.size).trans ((only_below (by have := hc3; simp only [World.size_drew]; omega) hg4).mono hwc))); clear hcu4 hg4) | (go_at_call 59; refine (l06Play_any a b o p k (by omega) HP.out c v l w w4 HV.out HO.out (by omega) HB4.out HC4.out).mono ?_; rintro e w5 ⟨⟨q, L, vL, rfl, hpt, hq, hLn, hown⟩, hcu5, hg5⟩; have hz5 := hg5.size; have hr0 := (only_cell (o := 0) hg5 (b := w.heap.size) (by omega) (by omega)).trans (HR4.out 0); have hr1 := (only_cell (o := 1) hg5 (b := w.heap.size) (by omega) (by omega)).trans (HR4.out 1); have hr2 := (only_cell (o := 2) hg5 (b := w.heap.size) (by omega) (by omega)).trans (HR4.out 2); have hX5 : ∀ j, w5.cell? ⟨w2.heap.size, j, none⟩ = #[Value.int .i64 a, .int .i64 b, .int .i64 o][j]? := (fun j => (only_cell hg5 (by omega) (by omega)).trans (hX4 j)); have hf5 := (fun j => (only_frozen (o := j) hg5 (b := w.heap.size) (by omega) (by omega)).trans (HF4.out j)); have HPT := Lib.hid hpt; have HQ := Lib.hid hq; have HOW := Lib.hid hown; have HB5 := Lib.hid (HB4.out.trans ((only_below (by have := HC4.out.1; omega) hg5).mono hwc)); clear hpt hq hown hcu5 hg5))
  all_goals go_wp2_with fail
  all_goals have hbF := HB5.out
  all_goals refine bodyPost_ret (v := .tuple #[.agg #[.int .i64 a, .int .i64 b, .int .i64 o], .int .i64 p, vL]) (by simp [results, Tryd.results36, go_sem, *]) rfl ⟨a, b, o, p, q, L, vL, rfl, HSM.out, HP.out, HPT.out, HQ.out, by omega, ?_, by (repeat' first | (with_reducible exact Below.refl _ _) | (with_reducible refine Below.alloc ?_ ?_ _) | (with_reducible refine Below.drew ?_) | (with_reducible refine Below.setCell ?_ ?_ _) | (with_reducible refine below_via (by assumption) ?_ ?_) | go_size)⟩
  all_goals exact (HOW.out.only (only_set (only_set (only_set (only_refl w5 w.heap.size)))) (by omega)).mono (by omega)
end Go.Proofs.YtkaojpcpfbbicaaDoor
