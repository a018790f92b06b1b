/- The program's ClaimOk returns what the reference's returns, for all arguments. No condition. -/
import Derived.Test.YteipebedoalafaaClaimL
import Derived.Deep.RegionWith
set_option linter.unusedVariables false
set_option linter.unusedSimpArgs false
namespace Go.Proofs.Yteipebedoalafaa.fnExactClaimOk
open Go.ChangeShapes Go.WideShapes Go.ChangeAt Go.RowKit Peg Go.Sort

set_option maxHeartbeats 1000000 in
set_option maxRecDepth 100000 in
theorem law_any (v : Value) (c : ClaimP) (w : World) (hv : ClaimArg w v c) (hok : ClaimWf c) :
    Calls Try.prog 4 #[v] w fun e w' => e = .returned (.bool true) ∧ Below w.heap.size w w' := by
  obtain ⟨vj, vw, rfl, hj, hw⟩ := hv
  have HR := Lib.hid (fun w' (hb : Below w.heap.size w w') => (show ClaimArg w' (.agg #[.int .i64 c.kind, .int .i64 c.num, vj, vw]) c from ⟨vj, vw, rfl, hj.keep hb, hw.keep hb⟩))
  clear hj hw hok
  have HT : Hid (szTwo c.js.length c.ws.length 1048576 = if (c.js.length : Int) ≤ 1048576 then if (c.ws.length : Int) ≤ (1048576 : Int) - c.js.length then (1048576 : Int) - c.js.length - c.ws.length else (-1 : Int) else (-1 : Int)) := rfl
  by_cases hneg : szTwo c.js.length c.ws.length 1048576 < 0
  · have HSZ : Hid (∀ W, ClaimArg W (.agg #[.int .i64 c.kind, .int .i64 c.num, vj, vw]) c → Calls Try.prog 19 #[.agg #[.int .i64 c.kind, .int .i64 c.num, vj, vw], .int .i64 1048576] W fun en w' => en = .returned (.int .i64 (szTwo c.js.length c.ws.length 1048576)) ∧ Below W.heap.size W w') := fun W hW => szClaim_any _ c _ (by omega) (by omega) W hW
    generalize szTwo c.js.length c.ws.length 1048576 = z at *
    go_enter Try.func4, Try.ntmps4
    go_wp2_with fail
    refine (HSZ.out _ (HR.out _ (by (repeat' first | (with_reducible exact Below.refl _ _) | (with_reducible refine Below.alloc ?_ ?_ _) | (with_reducible refine Below.drew ?_) | (with_reducible refine Below.setCell ?_ ?_ _) | (with_reducible refine below_via (by assumption) ?_ ?_) | go_size)))).mono ?_
    rintro e' w' ⟨rfl, hb⟩
    have hB := Lib.hid (show Below w.heap.size w w' by (repeat' first | (with_reducible exact Below.refl _ _) | (with_reducible refine Below.alloc ?_ ?_ _) | (with_reducible refine Below.drew ?_) | (with_reducible refine Below.setCell ?_ ?_ _) | (with_reducible refine below_via (by assumption) ?_ ?_) | go_size))
    go_wp2_with fail
    go_ret
    exact ⟨by simp, hB.out⟩
  have hls : c.js.length ≤ 1048576 ∧ c.ws.length ≤ 1048576 := by
    rw [HT.out] at hneg
    split at hneg
    · split at hneg
      · omega
      · omega
    · omega
  obtain ⟨hl, hl2⟩ := hls
  have HSZ : Hid (∀ W, ClaimArg W (.agg #[.int .i64 c.kind, .int .i64 c.num, vj, vw]) c → Calls Try.prog 19 #[.agg #[.int .i64 c.kind, .int .i64 c.num, vj, vw], .int .i64 1048576] W fun en w' => en = .returned (.int .i64 (szTwo c.js.length c.ws.length 1048576)) ∧ Below W.heap.size W w') := fun W hW => szClaim_any _ c _ (by omega) (by omega) W hW
  have hneg' : 0 ≤ szTwo c.js.length c.ws.length 1048576 := by omega
  generalize szTwo c.js.length c.ws.length 1048576 = z at *
  clear hneg HT
  go_enter Try.func4, Try.ntmps4
  go_wp2_with fail
  refine (HSZ.out _ (HR.out _ (by (repeat' first | (with_reducible exact Below.refl _ _) | (with_reducible refine Below.alloc ?_ ?_ _) | (with_reducible refine Below.drew ?_) | (with_reducible refine Below.setCell ?_ ?_ _) | (with_reducible refine below_via (by assumption) ?_ ?_) | go_size)))).mono ?_
  rintro e' w' ⟨rfl, hb⟩
  obtain ⟨w1, rfl⟩ : ∃ w1 : World, w1 = w' := ⟨_, rfl⟩
  have HW1 := Lib.hid (show Below w.heap.size w w1 by (repeat' first | (with_reducible exact Below.refl _ _) | (with_reducible refine Below.alloc ?_ ?_ _) | (with_reducible refine Below.drew ?_) | (with_reducible refine Below.setCell ?_ ?_ _) | (with_reducible refine below_via (by assumption) ?_ ?_) | go_size))
  have hbox1 : ∀ j, w1.cell? ⟨w.heap.size, j, none⟩ = #[Value.int .i64 c.kind, .int .i64 c.num, vj, vw][j]? := fun j => (hb.cell (by simp)).trans (by simp)
  have g1 : w.heap.size < w1.heap.size := by have := hb.size; simp at this; omega
  have HX1 := Lib.hid hbox1
  clear hb
  go_wp2_with fail
  refine (toClaim_any _ c hl hl2 _ (HR.out _ HW1.out)).mono ?_
  rintro e' w' ⟨x1, y1, rfl, ho1, _, hb⟩
  have HB1 := Lib.hid hb
  clear hb hbox1
  go_wp2_with fail
  refine (sClaimOk_any _ _ _ _ _ _ ho1).mono ?_
  rintro e' w' ⟨rfl, hb⟩
  have HB2 := Lib.hid (HB1.out.trans (hb.mono HB1.out.size))
  clear hb HB1 ho1
  have hbox : ∀ j, w'.cell? ⟨w.heap.size, j, none⟩ = #[Value.int .i64 c.kind, .int .i64 c.num, vj, vw][j]? := fun j => (HB2.out.cell (by exact g1)).trans (HX1.out j)
  go_wp2_with fail
  refine (toClaim_any _ c hl hl2 _ (HR.out _ (HW1.out.trans (HB2.out.mono HW1.out.size)))).mono ?_
  rintro e' w' ⟨x2, y2, rfl, ho2, hp2, hb⟩
  obtain ⟨a2, c2, rfl, _, _⟩ := ho2.lineG
  obtain ⟨a3, c3, rfl, _, _⟩ := hp2.intG
  have HB3 := Lib.hid (HB2.out.trans (hb.mono HB2.out.size))
  have gx : w1.heap.size ≤ w'.heap.size := HB3.out.size
  have HO3 := Lib.hid ((ho2.mono HB2.out.size).alloc (.cells #[.int .i64 c.kind, .int .i64 c.num, .slice a2 c.js.length c2, .slice a3 c.ws.length c3] 35))
  have HP3 := Lib.hid ((hp2.mono HB2.out.size).alloc (.cells #[.int .i64 c.kind, .int .i64 c.num, .slice a2 c.js.length c2, .slice a3 c.ws.length c3] 35))
  have gx0 : w.heap.size < w'.heap.size := by omega
  clear hb HB2 ho2 hp2 hbox
  obtain ⟨w2, rfl⟩ : ∃ w2 : World, w2 = w' := ⟨_, rfl⟩
  go_wp2_with fail
  refine (ClaimOk_any _ _ _ _ _ _ HO3.out).mono ?_
  rintro e' w' ⟨rfl, hb⟩
  have HO4 := Lib.hid (HO3.out.keep hb)
  have HP4 := Lib.hid (HP3.out.keep hb)
  have HB4 := Lib.hid (show Below w1.heap.size w1 w' from HB3.out.trans (((Below.refl _ _).alloc (by omega) _).trans (hb.mono (by simp; omega))))
  have hbox4 : ∀ j, w'.cell? ⟨w.heap.size, j, none⟩ = #[Value.int .i64 c.kind, .int .i64 c.num, vj, vw][j]? := fun j => (HB4.out.cell (by exact g1)).trans (HX1.out j)
  have hbox5 : ∀ j, w'.cell? ⟨w2.heap.size, j, none⟩ = #[Value.int .i64 c.kind, .int .i64 c.num, .slice a2 c.js.length c2, .slice a3 c.ws.length c3][j]? := fun j => (hb.cell (by simp)).trans (by simp)
  have gx1 : w2.heap.size < w'.heap.size := by have := hb.size; simp at this; omega
  clear hb HB3 HO3 HP3
  obtain ⟨w3, rfl⟩ : ∃ w3 : World, w3 = w' := ⟨_, rfl⟩
  have hw3 := HB4.out.size
  have gx2 : w.heap.size < w3.heap.size := by omega
  go_wp2_with fail
  go_region_with (first
    | (go_at_call 21; refine (toClaim_any _ c hl hl2 _ ?_).mono ?_; (focus exact HR.out _ ((HW1.out.trans (HB4.out.mono HW1.out.size)).drew)); rintro e' w' ⟨x3, y3, rfl, ho5, hp5, hb⟩; have HO5 := Lib.hid ho5; have HP5 := Lib.hid hp5; have HO6 := Lib.hid ((HO4.out.keep ((Below.refl _ _).drew)).keep hb); have HP6 := Lib.hid ((HP4.out.keep ((Below.refl _ _).drew)).keep hb); have HB5 := Lib.hid (HB4.out.drew.trans (hb.mono HB4.out.size)); have hbox6 : (∀ j, w'.cell? ⟨w2.heap.size, j, none⟩ = #[Value.int .i64 c.kind, .int .i64 c.num, .slice a2 c.js.length c2, .slice a3 c.ws.length c3][j]?) := (fun j => (hb.cell (by exact gx1)).trans (hbox5 j)); clear ho5 hp5 hb)
    | (go_at_call 23; refine (eqClaim_same _ _ _ _ _ _ _ _ _ HO6.out HO5.out HP6.out HP5.out).mono ?_; rintro e' w' ⟨rfl, hb⟩; have HB6 := Lib.hid (HB5.out.trans (hb.mono HB5.out.size)); clear hb))
  all_goals go_wp2_with fail
  all_goals go_ret
  all_goals exact ⟨by simp, HW1.out.trans (HB6.out.mono HW1.out.size)⟩

set_option maxRecDepth 100000 in
theorem law_walk : LawWalk 4 Try.f4.params.toList := by
  intro H enc W base args ds ps hval hA
  rw [Try.params4] at hA hval
  obtain ⟨v0, vs0, d0, ds0, p0, q0, hargs, rfl, rfl, h0, r0⟩ := trodAll_cons hA
  obtain ⟨rfl, rfl, rfl⟩ := trodAll_nil r0
  obtain rfl : args = #[v0] := by cases args; simp_all
  obtain ⟨l0, rd0, ok0⟩ := arg_Claim (hval 0 _ _ rfl rfl) h0
  exact law_any v0 l0 W rd0 ok0

set_option maxRecDepth 100000 in
theorem lifted (os : Os) (started : os.Started) (H : Type) (enc : TypeId × Value → H) :
    ReturnsInHanded {} Try.checked os 4 .any (Rows.fnExactClaimOkSpec.pre6 enc Try.prog Try.f4 Rows.fnExactClaimOkRow.domain false) (Rows.fnExactClaimOkSpec.post enc Try.prog Try.f4 false true false false) :=
  law_lift started (by kernel_rfl) Try.func4
    (ChangeSpec.witness6 (enc := enc) (C := Try.checked) false ⟨#[], #[.agg #[.int .i64 0, .int .i64 0, .slice none 0 0, .slice none 0 0]], []⟩ 8 (by kernel_rfl) (by kernel_rfl) (by kernel_rfl) (by kernel_rfl))
    rfl rfl (readable_all (by kernel_rfl)) (by intro ds h; match ds, h with | [a0], _ => rfl) law_walk

theorem over : Rows.fnExactClaimOkRow.holds Try.pinned (OpenSpec.ofChange Rows.fnExactClaimOkSpec) :=
  OpenClaim.holds_of_wide 4 Try.f4 rfl rfl rfl rfl rfl rfl rfl ⟨rfl, rfl, rfl, rfl, rfl⟩ rfl rfl rfl rfl rfl (by kernel_rfl) Try.func4 (by kernel_rfl)
    (of_decide_eq_true (by kernel_rfl)) (by unfold Func.isWrapper; first | (rw [if_pos (by decide +kernel)]; kernel_rfl) | (rw [if_neg (by decide +kernel)]; exact ⟨rfl, rfl⟩))
    (fun os started H enc _ => lifted os started H enc)

theorem proved : Rows.FnExactClaimOkSaid := over
#print axioms proved
end Go.Proofs.Yteipebedoalafaa.fnExactClaimOk
