/- The program's BestResult returns what the reference's returns, for all arguments. No condition. -/
import Derived.Test.YteipebedoalafaaEntL
import Derived.Deep.RegionWith
set_option linter.unusedVariables false
set_option linter.unusedSimpArgs false
namespace Go.Proofs.Yteipebedoalafaa.fnExactBestResult
open Go.ChangeShapes Go.WideShapes Go.ChangeAt Go.RowKit Peg Go.Sort

set_option maxHeartbeats 1000000 in
set_option maxRecDepth 100000 in
theorem law_any (v : Value) (e : Ent) (w : World) (hv : EntArg w v e) (hok : (Lit.int .i64 e.n).wf = true) :
    Calls Try.prog 8 #[v] w fun e w' => e = .returned (.bool true) ∧ Below w.heap.size w w' := by
  obtain ⟨vr, rfl, hr⟩ := hv
  have HR := Lib.hid (fun w' (hb : Below w.heap.size w w') => (show EntArg w' (.agg #[.int .i64 e.n, vr]) e from ⟨vr, rfl, hr.keep hb⟩))
  clear hr hok
  by_cases hl : e.rs.length ≤ 1048576
  rotate_left
  · go_enter Try.func8, Try.ntmps8
    go_wp2_with fail
    refine (szEntrant_any _ e _ (by omega) (by omega) _ (HR.out _ (by (repeat' first | (with_reducible exact Below.refl _ _) | (with_reducible refine Below.alloc ?_ ?_ _) | (with_reducible refine Below.drew ?_) | (with_reducible refine Below.setCell ?_ ?_ _) | (with_reducible refine below_via (by assumption) ?_ ?_) | go_size)))).mono ?_
    rw [if_neg (by omega)]
    rintro e' w' ⟨rfl, hb⟩
    have hB := Lib.hid (show Below w.heap.size w w' by (repeat' first | (with_reducible exact Below.refl _ _) | (with_reducible refine Below.alloc ?_ ?_ _) | (with_reducible refine Below.drew ?_) | (with_reducible refine Below.setCell ?_ ?_ _) | (with_reducible refine below_via (by assumption) ?_ ?_) | go_size))
    go_wp2_with fail
    go_ret
    exact ⟨by simp, hB.out⟩
  go_enter Try.func8, Try.ntmps8
  go_wp2_with fail
  refine (szEntrant_any _ e _ (by omega) (by omega) _ (HR.out _ (by (repeat' first | (with_reducible exact Below.refl _ _) | (with_reducible refine Below.alloc ?_ ?_ _) | (with_reducible refine Below.drew ?_) | (with_reducible refine Below.setCell ?_ ?_ _) | (with_reducible refine below_via (by assumption) ?_ ?_) | go_size)))).mono ?_
  rw [if_pos (by omega)]
  rintro e' w' ⟨rfl, hb⟩
  obtain ⟨w1, rfl⟩ : ∃ w1 : World, w1 = w' := ⟨_, rfl⟩
  have HW1 := Lib.hid (show Below w.heap.size w w1 by (repeat' first | (with_reducible exact Below.refl _ _) | (with_reducible refine Below.alloc ?_ ?_ _) | (with_reducible refine Below.drew ?_) | (with_reducible refine Below.setCell ?_ ?_ _) | (with_reducible refine below_via (by assumption) ?_ ?_) | go_size))
  have hbox1 : ∀ j, w1.cell? ⟨w.heap.size, j, none⟩ = #[Value.int .i64 e.n, vr][j]? := fun j => (hb.cell (by simp)).trans (by simp)
  have g1 : w.heap.size < w1.heap.size := by have := hb.size; simp at this; omega
  have HX1 := Lib.hid hbox1
  clear hb
  go_wp2_with fail
  refine (toEntrant_any _ e hl _ (HR.out _ HW1.out)).mono ?_
  rintro e' w' ⟨x1, rfl, ho1, hb⟩
  have HB1 := Lib.hid hb
  clear hb hbox1
  go_wp2_with fail
  refine (sBestResult_any _ _ _ hl _ ho1).mono ?_
  rintro e' w' ⟨rfl, hb⟩
  have HB2 := Lib.hid (HB1.out.trans (hb.mono HB1.out.size))
  clear hb HB1 ho1
  have hbox : ∀ j, w'.cell? ⟨w.heap.size, j, none⟩ = #[Value.int .i64 e.n, vr][j]? := fun j => (HB2.out.cell (by exact g1)).trans (HX1.out j)
  go_wp2_with fail
  refine (toEntrant_any _ e hl _ (HR.out _ (HW1.out.trans (HB2.out.mono HW1.out.size)))).mono ?_
  rintro e' w' ⟨x2, rfl, ho2, hb⟩
  obtain ⟨a2, c2, rfl, _, _⟩ := ho2.resultG
  have HB3 := Lib.hid (HB2.out.trans (hb.mono HB2.out.size))
  have gx : w1.heap.size ≤ w'.heap.size := HB3.out.size
  have ho3 := (ho2.mono HB2.out.size).alloc (.cells #[.int .i64 e.n, .slice a2 e.rs.length c2] 46)
  have HO3 := Lib.hid ho3
  have gx0 : w.heap.size < w'.heap.size := by omega
  have hbox3 : ∀ j, (w'.alloc (.cells #[.int .i64 e.n, .slice a2 e.rs.length c2] 46)).cell? ⟨w.heap.size, j, none⟩ = #[Value.int .i64 e.n, vr][j]? := fun j => by
    rw [show (w'.alloc (.cells #[.int .i64 e.n, .slice a2 e.rs.length c2] 46)).cell? ⟨w.heap.size, j, none⟩ = w'.cell? ⟨w.heap.size, j, none⟩ from World.cell?_alloc_lt _ _ _ gx0]
    exact (HB3.out.cell (by exact g1)).trans (HX1.out j)
  have HX3 := Lib.hid hbox3
  clear hb HB2 ho2 ho3 hbox hbox3
  obtain ⟨w2, rfl⟩ : ∃ w2 : World, w2 = w' := ⟨_, rfl⟩
  go_wp2_with fail
  refine (BestResult_any _ _ _ hl _ HO3.out).mono ?_
  rintro e' w' ⟨rfl, hb⟩
  have HO4 := Lib.hid (HO3.out.keep hb)
  have HB4 := Lib.hid (show Below w1.heap.size w1 w' from HB3.out.trans (((Below.refl _ _).alloc (by omega) _).trans (hb.mono (by simp; omega))))
  have hbox4 : ∀ j, w'.cell? ⟨w.heap.size, j, none⟩ = #[Value.int .i64 e.n, vr][j]? := fun j => (HB4.out.cell (by exact g1)).trans (HX1.out j)
  have hbox5 : ∀ j, w'.cell? ⟨w2.heap.size, j, none⟩ = #[Value.int .i64 e.n, .slice a2 e.rs.length c2][j]? := fun j => (hb.cell (by simp)).trans (by simp)
  have gx1 : w2.heap.size < w'.heap.size := by have := hb.size; simp at this; omega
  clear hb HB3 HO3
  obtain ⟨w3, rfl⟩ : ∃ w3 : World, w3 = w' := ⟨_, rfl⟩
  have hw3 := HB4.out.size
  have gx2 : w.heap.size < w3.heap.size := by omega
  go_wp2_with fail
  go_region_with (first
    | (go_at_call 26; refine (toEntrant_any _ e hl _ ?_).mono ?_; (focus exact HR.out _ ((HW1.out.trans (HB4.out.mono HW1.out.size)).drew)); rintro e' w' ⟨x3, rfl, ho5, hb⟩; have HO5 := Lib.hid ho5; have HO6 := Lib.hid ((HO4.out.keep ((Below.refl _ _).drew)).keep hb); have HB5 := Lib.hid (HB4.out.drew.trans (hb.mono HB4.out.size)); have hbox6 : (∀ j, w'.cell? ⟨w2.heap.size, j, none⟩ = #[Value.int .i64 e.n, .slice a2 e.rs.length c2][j]?) := (fun j => (hb.cell (by exact gx1)).trans (hbox5 j)); clear ho5 hb)
    | (go_at_call 28; refine (eqEntrant_same _ _ _ _ _ HO6.out HO5.out).mono ?_; rintro e' w' ⟨rfl, hb⟩; have HB6 := Lib.hid (HB5.out.trans (hb.mono HB5.out.size)); clear hb))
  all_goals go_wp2_with fail
  all_goals go_ret
  all_goals exact ⟨by simp, HW1.out.trans (HB6.out.mono HW1.out.size)⟩

set_option maxRecDepth 100000 in
theorem law_walk : LawWalk 8 Try.f8.params.toList := by
  intro H enc W base args ds ps hval hA
  rw [Try.params8] at hA hval
  obtain ⟨v0, vs0, d0, ds0, p0, q0, hargs, rfl, rfl, h0, r0⟩ := trodAll_cons hA
  obtain ⟨rfl, rfl, rfl⟩ := trodAll_nil r0
  obtain rfl : args = #[v0] := by cases args; simp_all
  obtain ⟨l0, rd0, ok0⟩ := arg_Entrant (hval 0 _ _ rfl rfl) h0
  exact law_any v0 l0 W rd0 ok0

set_option maxRecDepth 100000 in
theorem lifted (os : Os) (started : os.Started) (H : Type) (enc : TypeId × Value → H) :
    ReturnsInHanded {} Try.checked os 8 .any (Rows.fnExactBestResultSpec.pre6 enc Try.prog Try.f8 Rows.fnExactBestResultRow.domain false) (Rows.fnExactBestResultSpec.post enc Try.prog Try.f8 false true false false) :=
  law_lift started (by kernel_rfl) Try.func8
    (ChangeSpec.witness6 (enc := enc) (C := Try.checked) false ⟨#[], #[.agg #[.int .i64 0, .slice none 0 0]], []⟩ 8 (by kernel_rfl) (by kernel_rfl) (by kernel_rfl) (by kernel_rfl))
    rfl rfl (readable_all (by kernel_rfl)) (by intro ds h; match ds, h with | [a0], _ => rfl) law_walk

theorem over : Rows.fnExactBestResultRow.holds Try.pinned (OpenSpec.ofChange Rows.fnExactBestResultSpec) :=
  OpenClaim.holds_of_wide 8 Try.f8 rfl rfl rfl rfl rfl rfl rfl ⟨rfl, rfl, rfl, rfl, rfl⟩ rfl rfl rfl rfl rfl (by kernel_rfl) Try.func8 (by kernel_rfl)
    (of_decide_eq_true (by kernel_rfl)) (by unfold Func.isWrapper; first | (rw [if_pos (by decide +kernel)]; kernel_rfl) | (rw [if_neg (by decide +kernel)]; exact ⟨rfl, rfl⟩))
    (fun os started H enc _ => lifted os started H enc)

theorem proved : Rows.FnExactBestResultSaid := over
#print axioms proved
end Go.Proofs.Yteipebedoalafaa.fnExactBestResult
