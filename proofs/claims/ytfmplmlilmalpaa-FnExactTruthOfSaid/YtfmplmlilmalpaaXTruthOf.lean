/- The program's TruthOf returns what the reference's returns, for all arguments. No condition. -/
import Derived.Test.YtfmplmlilmalpaaTruth
import Derived.Test.YtfmplmlilmalpaaOpenE
import Derived.Deep.RegionWith
import Derived.Deep.DeepCutAuto
import Derived.Deep.RegionHeld3
set_option linter.unusedVariables false
set_option linter.unusedSimpArgs false
namespace Go.Proofs.Ytfmplmlilmalpaa.fnExactTruthOf
open Go.ChangeShapes Go.WideShapes Go.ChangeAt Go.RowKit Peg Go.Sort

set_option maxHeartbeats 2000000 in
set_option maxRecDepth 100000 in
theorem law_any (a b o s g : Int) (v : Value) (c : ClaimP) (wa : (Lit.int .i64 a).wf = true) (wb : (Lit.int .i64 b).wf = true) (wo : (Lit.int .i64 o).wf = true) (ws : (Lit.int .i64 s).wf = true) (wg : (Lit.int .i64 g).wf = true) (w : World) (hv : ClaimArg w v c) (hok : ClaimWf c) :
    Calls Try.prog 3 #[.agg #[.int .i64 a, .int .i64 b, .int .i64 o, .int .i64 s, .int .i64 g], v] w fun e w' => e = .returned (.bool true) ∧ Below w.heap.size w w' := by
  have hsle := i64_le ws
  have hgle := i64_le wg
  obtain ⟨vj, vw, rfl, hj, hw⟩ := hv
  have HR := Lib.hid (fun w' (hb : Below w.heap.size w w') => (show ClaimArg w' (.agg #[.int .i64 c.kind, .int .i64 c.num, vj, vw]) c from ⟨vj, vw, rfl, hj.keep hb, hw.keep hb⟩))
  clear hj hw hok wa wb wo ws wg
  have HT : Hid (szTwo c.js.length c.ws.length 1048576 = if (c.js.length : Int) ≤ 1048576 then if (c.ws.length : Int) ≤ (1048576 : Int) - c.js.length then (1048576 : Int) - c.js.length - c.ws.length else (-1 : Int) else (-1 : Int)) := rfl
  by_cases hneg : szTwo c.js.length c.ws.length 1048576 < 0
  · have HSZ : Hid (∀ W, ClaimArg W (.agg #[.int .i64 c.kind, .int .i64 c.num, vj, vw]) c → Calls Try.prog 4 #[.agg #[.int .i64 c.kind, .int .i64 c.num, vj, vw], .int .i64 1048576] W fun en w' => en = .returned (.int .i64 (szTwo c.js.length c.ws.length 1048576)) ∧ Below W.heap.size W w') := fun W hW => szClaim_any _ c _ (by omega) (by omega) W hW
    generalize szTwo c.js.length c.ws.length 1048576 = z at *
    go_enter Try.func3, Try.ntmps3
    go_wp2_with fail
    refine (HSZ.out _ (HR.out _ (by (repeat' first | (with_reducible exact Below.refl _ _) | (with_reducible refine Below.alloc ?_ ?_ _) | (with_reducible refine Below.drew ?_) | (with_reducible refine Below.setCell ?_ ?_ _) | (with_reducible refine below_via (by assumption) ?_ ?_) | go_size)))).mono ?_
    rintro e' w' ⟨rfl, hb⟩
    have hB := Lib.hid (show Below w.heap.size w w' by (repeat' first | (with_reducible exact Below.refl _ _) | (with_reducible refine Below.alloc ?_ ?_ _) | (with_reducible refine Below.drew ?_) | (with_reducible refine Below.setCell ?_ ?_ _) | (with_reducible refine below_via (by assumption) ?_ ?_) | go_size))
    go_wp2_with fail
    go_ret
    exact ⟨by simp, hB.out⟩
  have hls : c.js.length ≤ 1048576 ∧ c.ws.length ≤ 1048576 := by
    rw [HT.out] at hneg
    split at hneg
    · split at hneg
      · omega
      · omega
    · omega
  obtain ⟨hl, hl2⟩ := hls
  have HSZ : Hid (∀ W, ClaimArg W (.agg #[.int .i64 c.kind, .int .i64 c.num, vj, vw]) c → Calls Try.prog 4 #[.agg #[.int .i64 c.kind, .int .i64 c.num, vj, vw], .int .i64 1048576] W fun en w' => en = .returned (.int .i64 (szTwo c.js.length c.ws.length 1048576)) ∧ Below W.heap.size W w') := fun W hW => szClaim_any _ c _ (by omega) (by omega) W hW
  have hneg' : 0 ≤ szTwo c.js.length c.ws.length 1048576 := by omega
  generalize szTwo c.js.length c.ws.length 1048576 = z at *
  have HI : Hid (∀ W vj vw B B', Own ELine W B vj c.js → Own EInt W B' vw c.ws → Calls Try.prog 8 #[.agg #[.int .i64 a, .int .i64 b, .int .i64 o, .int .i64 s, .int .i64 g], .agg #[.int .i64 c.kind, .int .i64 c.num, vj, vw]] W fun e w' => e = .returned (.bool (truthOf a b o s g c.kind c.num c.js.length)) ∧ Below W.heap.size W w') := fun W vj vw B B' h1 h2 => TruthOf_any a b o s g c.kind c.num c.js c.ws vj vw hsle hgle W h1 h2
  have HSP : Hid (∀ W vj vw B B', Own ELine W B vj c.js → Own EInt W B' vw c.ws → Calls Try.prog 5 #[.agg #[.int .i64 a, .int .i64 b, .int .i64 o, .int .i64 s, .int .i64 g], .agg #[.int .i64 c.kind, .int .i64 c.num, vj, vw]] W fun e w' => e = .returned (.bool (truthOf a b o s g c.kind c.num c.js.length)) ∧ Below W.heap.size W w') := fun W vj vw B B' h1 h2 => sTruthOf_any a b o s g c.kind c.num c.js c.ws vj vw hsle hgle W h1 h2
  generalize truthOf a b o s g c.kind c.num c.js.length = r at *
  clear hneg HT hsle hgle
  go_enter Try.func3, Try.ntmps3
  go_wp2_with fail
  refine (HSZ.out _ (HR.out _ (by (repeat' first | (with_reducible exact Below.refl _ _) | (with_reducible refine Below.alloc ?_ ?_ _) | (with_reducible refine Below.drew ?_) | (with_reducible refine Below.setCell ?_ ?_ _) | (with_reducible refine below_via (by assumption) ?_ ?_) | go_size)))).mono ?_
  rintro e' w' ⟨rfl, hb⟩
  obtain ⟨w1, rfl⟩ : ∃ w1 : World, w1 = w' := ⟨_, rfl⟩
  have HW1 := Lib.hid (show Below w.heap.size w w1 by (repeat' first | (with_reducible exact Below.refl _ _) | (with_reducible refine Below.alloc ?_ ?_ _) | (with_reducible refine Below.drew ?_) | (with_reducible refine Below.setCell ?_ ?_ _) | (with_reducible refine below_via (by assumption) ?_ ?_) | go_size))
  have hbp1 : ∀ j, w1.cell? ⟨w.heap.size, j, none⟩ = #[Value.int .i64 a, .int .i64 b, .int .i64 o, .int .i64 s, .int .i64 g][j]? := fun j => (hb.cell (by simp; omega)).trans (by simp)
  have hbox1 : ∀ j, w1.cell? ⟨w.heap.size + 1, j, none⟩ = #[Value.int .i64 c.kind, .int .i64 c.num, vj, vw][j]? := fun j => (hb.cell (by simp)).trans (by simp)
  have g1 : w.heap.size + 1 < w1.heap.size := by have := hb.size; simp at this; omega
  have g0 : w.heap.size < w1.heap.size := by omega
  clear hb
  have HS : Hid (∀ W, Below w1.heap.size w1 W → (fun W => Below w1.heap.size w1 W ∧ w1.heap.size ≤ W.heap.size ∧ W.cell? ⟨w.heap.size, 0, none⟩ = some (.int .i64 a) ∧ W.cell? ⟨w.heap.size, 1, none⟩ = some (.int .i64 b) ∧ W.cell? ⟨w.heap.size, 2, none⟩ = some (.int .i64 o) ∧ W.cell? ⟨w.heap.size, 3, none⟩ = some (.int .i64 s) ∧ W.cell? ⟨w.heap.size, 4, none⟩ = some (.int .i64 g) ∧ W.cell? ⟨w.heap.size + 1, 0, none⟩ = some (.int .i64 c.kind) ∧ W.cell? ⟨w.heap.size + 1, 1, none⟩ = some (.int .i64 c.num) ∧ W.cell? ⟨w.heap.size + 1, 2, none⟩ = some vj ∧ W.cell? ⟨w.heap.size + 1, 3, none⟩ = some vw) W) := fun W hW => ⟨hW, hW.size, (hW.cell (by exact g0)).trans (hbp1 0), (hW.cell (by exact g0)).trans (hbp1 1), (hW.cell (by exact g0)).trans (hbp1 2), (hW.cell (by exact g0)).trans (hbp1 3), (hW.cell (by exact g0)).trans (hbp1 4), (hW.cell (by exact g1)).trans (hbox1 0), (hW.cell (by exact g1)).trans (hbox1 1), (hW.cell (by exact g1)).trans (hbox1 2), (hW.cell (by exact g1)).trans (hbox1 3)⟩
  have HP1 := Lib.hid hbp1
  have HX1 := Lib.hid hbox1
  clear hbp1 hbox1
  go_wp2_with fail
  go_cut [6] (fun u wx => u = .bool r ∧ Below w1.heap.size w1 wx)
  case first =>
    go_region_held3 (fun W => Below w1.heap.size w1 W ∧ w1.heap.size ≤ W.heap.size ∧ W.cell? ⟨w.heap.size, 0, none⟩ = some (.int .i64 a) ∧ W.cell? ⟨w.heap.size, 1, none⟩ = some (.int .i64 b) ∧ W.cell? ⟨w.heap.size, 2, none⟩ = some (.int .i64 o) ∧ W.cell? ⟨w.heap.size, 3, none⟩ = some (.int .i64 s) ∧ W.cell? ⟨w.heap.size, 4, none⟩ = some (.int .i64 g) ∧ W.cell? ⟨w.heap.size + 1, 0, none⟩ = some (.int .i64 c.kind) ∧ W.cell? ⟨w.heap.size + 1, 1, none⟩ = some (.int .i64 c.num) ∧ W.cell? ⟨w.heap.size + 1, 2, none⟩ = some vj ∧ W.cell? ⟨w.heap.size + 1, 3, none⟩ = some vw) ((go_split_ands; exact HS.out _ (by (repeat' first | (with_reducible exact Below.refl _ _) | (with_reducible refine Below.alloc ?_ ?_ _) | (with_reducible refine Below.drew ?_) | (with_reducible refine Below.setCell ?_ ?_ _) | (with_reducible refine below_via (by assumption) ?_ ?_) | (with_reducible assumption) | ((try simp only [World.size_alloc, World.size_setCell, World.size_drew] at *); omega) | go_size)))) ((first
      | (go_at_call 6; refine (toPuzzle_any _ _ _ _ _ _).mono ?_; rintro e' w' ⟨rfl, hb⟩; (try have ho := Own.keep ho hb); (try have hp := Own.keep hp hb); (have hz := hb.size))
      | (go_at_call 7; refine (toClaim_any _ c hl hl2 _ ?_).mono ?_; (focus (go_split_ands; exact HR.out _ (HW1.out.trans (Below.mono (by (repeat' first | (with_reducible exact Below.refl _ _) | (with_reducible refine Below.alloc ?_ ?_ _) | (with_reducible refine Below.drew ?_) | (with_reducible refine Below.setCell ?_ ?_ _) | (with_reducible refine below_via (by assumption) ?_ ?_) | (with_reducible assumption) | ((try simp only [World.size_alloc, World.size_setCell, World.size_drew] at *); omega) | go_size) : Below w1.heap.size w1 _) HW1.out.size)))); rintro e' w' ⟨x1, y1, rfl, ho, hp, hb⟩; (have hz := hb.size))
      | (go_at_call 5; refine (HSP.out _ _ _ _ _ ho hp).mono ?_; rintro e' w' ⟨rfl, hb⟩; (have hz := hb.size))))
    all_goals (go_wp2_with fail; go_meet; case rel => exact ⟨rfl, by (go_split_ands; (repeat' first | (with_reducible exact Below.refl _ _) | (with_reducible refine Below.alloc ?_ ?_ _) | (with_reducible refine Below.drew ?_) | (with_reducible refine Below.setCell ?_ ?_ _) | (with_reducible refine below_via (by assumption) ?_ ?_) | (with_reducible assumption) | ((try simp only [World.size_alloc, World.size_setCell, World.size_drew] at *); omega) | go_size))⟩)
  obtain ⟨rfl, hb4⟩ := hcut
  have HW4 := Lib.hid (HW1.out.trans (hb4.mono HW1.out.size))
  have HB4 := Lib.hid hb4
  have hbox : ∀ j, wc.cell? ⟨w.heap.size + 1, j, none⟩ = #[Value.int .i64 c.kind, .int .i64 c.num, vj, vw][j]? := fun j => (hb4.cell (by exact g1)).trans (HX1.out j)
  have hz4 := hb4.size
  have g14 : w.heap.size + 1 < wc.heap.size := by omega
  clear hb4
  go_wp2_with fail
  refine (toClaim_any _ c hl hl2 _ (HR.out _ HW4.out)).mono ?_
  rintro e' w' ⟨x2, y2, rfl, ho2, hp2, hb⟩
  obtain ⟨a2, c2, rfl, _, _⟩ := ho2.lineG
  obtain ⟨a3, c3, rfl, _, _⟩ := hp2.intG
  have HB5 := Lib.hid (HB4.out.trans (hb.mono HB4.out.size))
  have gx : w1.heap.size ≤ w'.heap.size := HB5.out.size
  have HO5 := Lib.hid ((ho2.mono HB4.out.size).alloc (.cells #[.int .i64 c.kind, .int .i64 c.num, .slice a2 c.js.length c2, .slice a3 c.ws.length c3] 38))
  have HQ5 := Lib.hid ((hp2.mono HB4.out.size).alloc (.cells #[.int .i64 c.kind, .int .i64 c.num, .slice a2 c.js.length c2, .slice a3 c.ws.length c3] 38))
  have hbp : ∀ j, w'.cell? ⟨w.heap.size, j, none⟩ = #[Value.int .i64 a, .int .i64 b, .int .i64 o, .int .i64 s, .int .i64 g][j]? := fun j => (HB5.out.cell (by exact g0)).trans (HP1.out j)
  clear hb ho2 hp2 hbox
  obtain ⟨w2, rfl⟩ : ∃ w2 : World, w2 = w' := ⟨_, rfl⟩
  have g20 : w.heap.size < w2.heap.size := by omega
  go_wp2_with ((with_reducible refine wp_region_qb ?_ ?_ (fun hq => ?_)); (focus kernel_rfl); (focus kernel_rfl); (repeat (go_big_quiet_step ((first
    | (go_at_call 6; exact Calls.regrown_of (toPuzzle_any _ _ _ _ _ _))
    | (go_at_call 8; exact Calls.regrown_of (HI.out _ _ _ _ _ (HO5.out.keep (below_regrown _ _ _)) (HQ5.out.keep (below_regrown _ _ _)))))))); refine wpQuiet_nil ?_; intro wq hbq; have HBQ := Lib.hid hbq; clear hq hbq)
  have HW5 : Hid (Below w1.heap.size w1 wq) := HB5.out.trans (((Below.refl _ _).alloc (by exact gx) _).trans (HBQ.out.mono (by simp; omega)))
  have HO6 := HO5.out.keep HBQ.out
  have HQ6 := HQ5.out.keep HBQ.out
  have hbox4 : ∀ j, wq.cell? ⟨w.heap.size + 1, j, none⟩ = #[Value.int .i64 c.kind, .int .i64 c.num, vj, vw][j]? := fun j => (HW5.out.cell (by exact g1)).trans (HX1.out j)
  have hbox5 : ∀ j, wq.cell? ⟨w2.heap.size, j, none⟩ = #[Value.int .i64 c.kind, .int .i64 c.num, .slice a2 c.js.length c2, .slice a3 c.ws.length c3][j]? := fun j => (HBQ.out.cell (by simp)).trans (by simp)
  have hz5 := HBQ.out.size
  simp only [World.size_alloc] at hz5
  have g5 : w2.heap.size < wq.heap.size := by omega
  have g4 : w.heap.size + 1 < wq.heap.size := by omega
  have HS2 : Hid (∀ W, Below wq.heap.size wq W → (fun W => Below wq.heap.size wq W ∧ wq.heap.size ≤ W.heap.size ∧ W.cell? ⟨w.heap.size + 1, 0, none⟩ = some (.int .i64 c.kind) ∧ W.cell? ⟨w.heap.size + 1, 1, none⟩ = some (.int .i64 c.num) ∧ W.cell? ⟨w.heap.size + 1, 2, none⟩ = some vj ∧ W.cell? ⟨w.heap.size + 1, 3, none⟩ = some vw ∧ W.cell? ⟨w2.heap.size, 0, none⟩ = some (.int .i64 c.kind) ∧ W.cell? ⟨w2.heap.size, 1, none⟩ = some (.int .i64 c.num) ∧ W.cell? ⟨w2.heap.size, 2, none⟩ = some (.slice a2 c.js.length c2) ∧ W.cell? ⟨w2.heap.size, 3, none⟩ = some (.slice a3 c.ws.length c3)) W) := fun W hW => ⟨hW, hW.size, (hW.cell (by exact g4)).trans (hbox4 0), (hW.cell (by exact g4)).trans (hbox4 1), (hW.cell (by exact g4)).trans (hbox4 2), (hW.cell (by exact g4)).trans (hbox4 3), (hW.cell (by exact g5)).trans (hbox5 0), (hW.cell (by exact g5)).trans (hbox5 1), (hW.cell (by exact g5)).trans (hbox5 2), (hW.cell (by exact g5)).trans (hbox5 3)⟩
  clear hbox4 hbox5 hbp
  go_wp2_with fail
  go_cut [32] (fun u wx => u = .bool false ∧ Below wq.heap.size wq wx)
  case first =>
    go_region_held3 (fun W => Below wq.heap.size wq W ∧ wq.heap.size ≤ W.heap.size ∧ W.cell? ⟨w.heap.size + 1, 0, none⟩ = some (.int .i64 c.kind) ∧ W.cell? ⟨w.heap.size + 1, 1, none⟩ = some (.int .i64 c.num) ∧ W.cell? ⟨w.heap.size + 1, 2, none⟩ = some vj ∧ W.cell? ⟨w.heap.size + 1, 3, none⟩ = some vw ∧ W.cell? ⟨w2.heap.size, 0, none⟩ = some (.int .i64 c.kind) ∧ W.cell? ⟨w2.heap.size, 1, none⟩ = some (.int .i64 c.num) ∧ W.cell? ⟨w2.heap.size, 2, none⟩ = some (.slice a2 c.js.length c2) ∧ W.cell? ⟨w2.heap.size, 3, none⟩ = some (.slice a3 c.ws.length c3)) ((go_split_ands; exact HS2.out _ (by (repeat' first | (with_reducible exact Below.refl _ _) | (with_reducible refine Below.alloc ?_ ?_ _) | (with_reducible refine Below.drew ?_) | (with_reducible refine Below.setCell ?_ ?_ _) | (with_reducible refine below_via (by assumption) ?_ ?_) | (with_reducible assumption) | ((try simp only [World.size_alloc, World.size_setCell, World.size_drew] at *); omega) | go_size)))) ((first
      | (go_at_call 7; refine (toClaim_any _ c hl hl2 _ ?_).mono ?_; (focus (go_split_ands; exact HR.out _ (HW1.out.trans (HW5.out.trans (Below.mono (by (repeat' first | (with_reducible exact Below.refl _ _) | (with_reducible refine Below.alloc ?_ ?_ _) | (with_reducible refine Below.drew ?_) | (with_reducible refine Below.setCell ?_ ?_ _) | (with_reducible refine below_via (by assumption) ?_ ?_) | (with_reducible assumption) | ((try simp only [World.size_alloc, World.size_setCell, World.size_drew] at *); omega) | go_size) : Below wq.heap.size wq _) HW5.out.size) |>.mono HW1.out.size)))); rintro e' w' ⟨x1, y1, rfl, ho, hp, hb⟩; (have hz := hb.size); (have hb7 : Below wq.heap.size wq w' := (by (go_split_ands; (repeat' first | (with_reducible exact Below.refl _ _) | (with_reducible refine Below.alloc ?_ ?_ _) | (with_reducible refine Below.drew ?_) | (with_reducible refine Below.setCell ?_ ?_ _) | (with_reducible refine below_via (by assumption) ?_ ?_) | (with_reducible assumption) | ((try simp only [World.size_alloc, World.size_setCell, World.size_drew] at *); omega) | go_size)))); (have HO7 := HO6.later (Nat.le_refl _) hb7); (have HQ7 := HQ6.later (Nat.le_refl _) hb7))
      | (go_at_call 9; refine (eqClaim_same _ _ _ _ _ _ _ _ _ HO7 ho HQ7 hp).mono ?_; rintro e' w' ⟨rfl, hb⟩; (have hz := hb.size))))
    all_goals (go_wp2_with fail; go_meet; case rel => exact ⟨rfl, by (go_split_ands; (repeat' first | (with_reducible exact Below.refl _ _) | (with_reducible refine Below.alloc ?_ ?_ _) | (with_reducible refine Below.drew ?_) | (with_reducible refine Below.setCell ?_ ?_ _) | (with_reducible refine below_via (by assumption) ?_ ?_) | (with_reducible assumption) | ((try simp only [World.size_alloc, World.size_setCell, World.size_drew] at *); omega) | go_size))⟩)
  obtain ⟨rfl, hb6⟩ := hcut
  go_wp2_with fail
  go_ret
  exact ⟨by simp, HW1.out.trans ((HW5.out.trans (hb6.mono HW5.out.size)).mono HW1.out.size)⟩

set_option maxRecDepth 100000 in
theorem law_walk : LawWalk 3 Try.f3.params.toList := by
  intro H enc W base args ds ps hval hA
  rw [Try.params3] at hA hval
  obtain ⟨v0, vs0, d0, ds0, p0, q0, hargs, rfl, rfl, h0, r0⟩ := trodAll_cons hA
  obtain ⟨v1, vs1, d1, ds1, p1, q1, rfl, rfl, rfl, h1, r1⟩ := trodAll_cons r0
  obtain ⟨rfl, rfl, rfl⟩ := trodAll_nil r1
  obtain rfl : args = #[v0, v1] := by cases args; simp_all
  obtain ⟨x0a, x0b, x0c, x0d, x0e, rfl, w0a, w0b, w0c, w0d, w0e⟩ := arg_Puzzle (hval 0 _ _ rfl rfl) h0
  obtain ⟨l1, rd1, ok1⟩ := arg_Claim (hval 1 _ _ rfl rfl) h1
  exact law_any x0a x0b x0c x0d x0e v1 l1 w0a w0b w0c w0d w0e W rd1 ok1

set_option maxRecDepth 100000 in
theorem lifted (os : Os) (started : os.Started) (H : Type) (enc : TypeId × Value → H) :
    ReturnsInHanded {} Try.checked os 3 .any (Rows.fnExactTruthOfSpec.pre6 enc Try.prog Try.f3 Rows.fnExactTruthOfRow.domain false) (Rows.fnExactTruthOfSpec.post enc Try.prog Try.f3 false true false false) :=
  law_lift started (by kernel_rfl) Try.func3
    (ChangeSpec.witness6 (enc := enc) (C := Try.checked) false ⟨#[], #[.agg #[.int .i64 0, .int .i64 0, .int .i64 0, .int .i64 0, .int .i64 0], .agg #[.int .i64 0, .int .i64 0, .slice none 0 0, .slice none 0 0]], []⟩ 8 (by kernel_rfl) (by kernel_rfl) (by kernel_rfl) (by kernel_rfl))
    rfl rfl (readable_all (by kernel_rfl)) (by intro ds h; match ds, h with | [a0, a1], _ => rfl) law_walk

theorem over : Rows.fnExactTruthOfRow.holds Try.pinned (OpenSpec.ofChange Rows.fnExactTruthOfSpec) :=
  OpenClaim.holds_of_wide 3 Try.f3 rfl rfl rfl rfl rfl rfl rfl ⟨rfl, rfl, rfl, rfl, rfl⟩ rfl rfl rfl rfl rfl (by kernel_rfl) Try.func3 (by kernel_rfl)
    (of_decide_eq_true (by kernel_rfl)) (by unfold Func.isWrapper; first | (rw [if_pos (by decide +kernel)]; kernel_rfl) | (rw [if_neg (by decide +kernel)]; exact ⟨rfl, rfl⟩))
    (fun os started H enc _ => lifted os started H enc)

theorem proved : Rows.FnExactTruthOfSaid := over
#print axioms proved
end Go.Proofs.Ytfmplmlilmalpaa.fnExactTruthOf
