/- The program's MakeGame returns what the reference's returns, for all arguments. No condition. -/
import Derived.Test.YteipebedoalafaaMake
import Derived.Test.YteipebedoalafaaArgL
import Derived.Test.YteipebedoalafaaOpenS
set_option linter.unusedVariables false
set_option linter.unusedSimpArgs false
namespace Peg
theorem makeGame_le (a b o g n s : Int) : (makeGame a b o g n s).1.length ≤ 40 := by
  have key : ∀ (k : Nat) (m : Mk), (mkRun a b o k m).out.length ≤ m.out.length + k := by
    intro k
    induction k with
    | zero => intro m; exact Nat.le_refl _
    | succ k ih =>
      intro m
      unfold mkRun
      split
      · omega
      · refine Nat.le_trans (ih _) ?_
        simp [mkNext]; omega
  unfold makeGame
  split
  · rename_i h
    simp [makeOk] at h
    have h2 := inR_iff.1 h.1.2
    have := key n.toNat ⟨s, g, []⟩
    simp at this ⊢
    omega
  · simp
end Peg
namespace Go.Proofs.Yteipebedoalafaa.fnExactMakeGame
open Go.ChangeShapes Go.WideShapes Go.ChangeAt Go.RowKit Peg Go.Sort

set_option maxHeartbeats 1000000 in
set_option maxRecDepth 100000 in
theorem law_any (a b o g n s : Int) (wa : (Lit.int .i64 a).wf = true) (wb : (Lit.int .i64 b).wf = true) (wo : (Lit.int .i64 o).wf = true) (wg : (Lit.int .i64 g).wf = true) (wn : (Lit.int .i64 n).wf = true) (ws : (Lit.int .i64 s).wf = true) (w : World) :
    Calls Try.prog 12 #[.agg #[.int .i64 a, .int .i64 b, .int .i64 o], .int .i64 g, .int .i64 n, .int .i64 s] w fun e w' => e = .returned (.bool true) ∧ Below w.heap.size w w' := by
  have hg := i64_le wg
  clear wa wb wo wg wn ws
  have HA : Hid (∀ W, Calls Try.prog 52 #[.agg #[.int .i64 a, .int .i64 b, .int .i64 o], .int .i64 g, .int .i64 n, .int .i64 s] W (RetGame W (makeGame a b o g n s))) := fun W => MakeGame_any a b o g n s hg W
  have HB : Hid (∀ W, Calls Try.prog 51 #[.agg #[.int .i64 a, .int .i64 b, .int .i64 o], .int .i64 g, .int .i64 n, .int .i64 s] W (RetGame W (makeGame a b o g n s))) := fun W => sMakeGame_any a b o g n s hg W
  have h40 := makeGame_le a b o g n s
  generalize makeGame a b o g n s = G at *
  obtain ⟨L, q⟩ := G
  simp only at h40
  go_enter Try.func12, Try.ntmps12
  go_wp2_with fail
  refine (toBoard_any _ _ _ _).mono ?_
  rintro e w' ⟨rfl, hb⟩
  obtain ⟨hc, hf, hz, hy⟩ := bcell hb; clear hy; (try simp only [World.size_alloc, World.size_setCell, World.size_drew] at hz); (try have gQ0 : w.heap.size < w'.heap.size := by omega); (try have gQ1 : w.heap.size + 1 < w'.heap.size := by omega); (try have gQ2 : w.heap.size + 1 + 1 < w'.heap.size := by omega); (try have gQ3 : w.heap.size + 1 + 1 + 1 < w'.heap.size := by omega); (try have gQ4 : w.heap.size + 1 + 1 + 1 + 1 < w'.heap.size := by omega); (try have gQ5 : w.heap.size + 1 + 1 + 1 + 1 + 1 < w'.heap.size := by omega); (try have dQ0 : _ < w'.heap.size := Nat.lt_of_lt_of_le dQ0 (by omega)); (try have dQ1 : _ < w'.heap.size := Nat.lt_of_lt_of_le dQ1 (by omega)); (try have dQ2 : _ < w'.heap.size := Nat.lt_of_lt_of_le dQ2 (by omega)); (try have dQ3 : _ < w'.heap.size := Nat.lt_of_lt_of_le dQ3 (by omega)); (try have dQ4 : _ < w'.heap.size := Nat.lt_of_lt_of_le dQ4 (by omega)); (try have dQ5 : _ < w'.heap.size := Nat.lt_of_lt_of_le dQ5 (by omega)); (try (have hnQ := Nat.lt_of_succ_le hz; first | (have _x := dQ0; first | (have _x := dQ1; first | (have _x := dQ2; first | (have _x := dQ3; first | (have _x := dQ4; have dQ5 := hnQ) | have dQ4 := hnQ) | have dQ3 := hnQ) | have dQ2 := hnQ) | have dQ1 := hnQ) | have dQ0 := hnQ)); (try (have hmQ := Nat.lt_of_succ_lt (Nat.lt_of_succ_le hz); first | (have _x := dQ0; first | (have _x := dQ1; first | (have _x := dQ2; first | (have _x := dQ3; first | (have _x := dQ4; have dQ5 := hmQ) | have dQ4 := hmQ) | have dQ3 := hmQ) | have dQ2 := hmQ) | have dQ1 := hmQ) | have dQ0 := hmQ))
  go_wp2_with fail
  refine (HB.out _).mono ?_
  rintro e w' ⟨v1, rfl, own1, hb⟩
  obtain ⟨hc, hf, hz, hy⟩ := bcell hb; clear hy; (try simp only [World.size_alloc, World.size_setCell, World.size_drew] at hz); (try have gQ0 : w.heap.size < w'.heap.size := by omega); (try have gQ1 : w.heap.size + 1 < w'.heap.size := by omega); (try have gQ2 : w.heap.size + 1 + 1 < w'.heap.size := by omega); (try have gQ3 : w.heap.size + 1 + 1 + 1 < w'.heap.size := by omega); (try have gQ4 : w.heap.size + 1 + 1 + 1 + 1 < w'.heap.size := by omega); (try have gQ5 : w.heap.size + 1 + 1 + 1 + 1 + 1 < w'.heap.size := by omega); (try have dQ0 : _ < w'.heap.size := Nat.lt_of_lt_of_le dQ0 (by omega)); (try have dQ1 : _ < w'.heap.size := Nat.lt_of_lt_of_le dQ1 (by omega)); (try have dQ2 : _ < w'.heap.size := Nat.lt_of_lt_of_le dQ2 (by omega)); (try have dQ3 : _ < w'.heap.size := Nat.lt_of_lt_of_le dQ3 (by omega)); (try have dQ4 : _ < w'.heap.size := Nat.lt_of_lt_of_le dQ4 (by omega)); (try have dQ5 : _ < w'.heap.size := Nat.lt_of_lt_of_le dQ5 (by omega)); (try (have hnQ := Nat.lt_of_succ_le hz; first | (have _x := dQ0; first | (have _x := dQ1; first | (have _x := dQ2; first | (have _x := dQ3; first | (have _x := dQ4; have dQ5 := hnQ) | have dQ4 := hnQ) | have dQ3 := hnQ) | have dQ2 := hnQ) | have dQ1 := hnQ) | have dQ0 := hnQ)); (try (have hmQ := Nat.lt_of_succ_lt (Nat.lt_of_succ_le hz); first | (have _x := dQ0; first | (have _x := dQ1; first | (have _x := dQ2; first | (have _x := dQ3; first | (have _x := dQ4; have dQ5 := hmQ) | have dQ4 := hmQ) | have dQ3 := hmQ) | have dQ2 := hmQ) | have dQ1 := hmQ) | have dQ0 := hmQ))
  obtain ⟨w1, rfl⟩ : ∃ w1 : World, w1 = w' := ⟨_, rfl⟩
  have O1 := Lib.hid own1
  have HW1 := Lib.hid (show Below w.heap.size w w1 by (repeat' first | (with_reducible exact Below.refl _ _) | (with_reducible refine Below.alloc ?_ ?_ _) | (with_reducible refine Below.drew ?_) | (with_reducible refine Below.setCell ?_ ?_ _) | (with_reducible refine below_via (by assumption) ?_ ?_) | go_size))
  have hbox1 : ∀ j, w1.cell? ⟨w.heap.size, j, none⟩ = #[Value.int .i64 a, .int .i64 b, .int .i64 o][j]? := fun j => by simp [hc, hz, *]
  have HX1 := Lib.hid hbox1
  have g1 : w.heap.size < w1.heap.size := by omega
  clear own1 hc hf
  go_wp2_with fail
  refine (toBoard_any _ _ _ _).mono ?_
  rintro e w' ⟨rfl, hb⟩
  clear hbox1
  have O1b := Lib.hid (O1.out.keep hb)
  have HB2 := Lib.hid hb
  have hz1 := hb.size
  clear hb
  go_wp2_with fail
  refine (HA.out _).mono ?_
  rintro e w' ⟨v2, rfl, own2, hb⟩
  have O1c := Lib.hid (O1b.out.keep hb)
  have HB3 := Lib.hid (HB2.out.trans (hb.mono HB2.out.size))
  have O2 := Lib.hid (own2.mono hz1)
  clear own2 O1b HB2 hb
  go_wp2_with fail
  refine (eqLineS_same _ _ _ _ O2.out O1c.out).mono ?_
  rintro e w' ⟨rfl, hb⟩
  have O1d := Lib.hid (O1c.out.keep hb)
  have O2d := Lib.hid (O2.out.keep hb)
  have HB4 := Lib.hid (HB3.out.trans (hb.mono HB3.out.size))
  clear O1c O2 HB3 hb
  go_wp2_with fail
  refine (markLineS_any _ _ _ (by omega) (by omega) (by omega) _ O2d.out).mono ?_
  rintro e w' ⟨rfl, own2, hg2⟩
  have O1e := Lib.hid (O1d.out.apart O1.out O2d.out (Nat.le_refl _) hg2)
  have O2e := Lib.hid own2
  have HB5 := Lib.hid (HB4.out.trans (O2d.out.apartBelow (B := w1.heap.size) (Nat.le_refl _) HB4.out.size hg2))
  clear O1d O2d HB4 own2 hg2
  go_wp2_with fail
  refine (heldLineS_same _ _ _ (by omega) (by omega) (by omega) _ O2e.out).mono ?_
  rintro e w' ⟨rfl, rfl⟩
  have hbox : ∀ j, w'.cell? ⟨w.heap.size, j, none⟩ = #[Value.int .i64 a, .int .i64 b, .int .i64 o][j]? := fun j => (HB5.out.cell (by exact g1)).trans (HX1.out j)
  go_wp2_with fail
  refine (toBoard_any _ _ _ _).mono ?_
  rintro e w' ⟨rfl, hb⟩
  have O1f := Lib.hid (O1e.out.keep hb)
  have O2f := Lib.hid (O2e.out.keep hb)
  have HB6 := Lib.hid (HB5.out.trans (hb.mono HB5.out.size))
  clear O1e O2e HB5 hbox hb
  go_wp2_with fail
  refine (HA.out _).mono ?_
  rintro e w' ⟨v3, rfl, own3, hb⟩
  have O1g := Lib.hid (O1f.out.keep hb)
  have O2g := Lib.hid (O2f.out.keep hb)
  have HB7 := Lib.hid (HB6.out.trans (hb.mono HB6.out.size))
  clear O1f O2f HB6 hb
  go_wp2_with fail
  refine (eqLineS_same _ _ _ _ own3 O1g.out).mono ?_
  rintro e w' ⟨rfl, hb⟩
  have O2h := Lib.hid (O2g.out.keep hb)
  have HB8 := Lib.hid (HB7.out.trans (hb.mono HB7.out.size))
  clear O1g O2g HB7 hb
  go_wp2_with fail
  refine (heldLineS_same _ _ _ (by omega) (by omega) (by omega) _ O2h.out).mono ?_
  rintro e w' ⟨rfl, rfl⟩
  go_wp2_with fail
  go_ret
  exact ⟨by simp, HW1.out.trans (HB8.out.mono HW1.out.size)⟩

set_option maxRecDepth 100000 in
theorem law_walk : LawWalk 12 Try.f12.params.toList := by
  intro H enc W base args ds ps hval hA
  rw [Try.params12] at hA hval
  obtain ⟨v0, vs0, d0, ds0, p0, q0, hargs, rfl, rfl, h0, r0⟩ := trodAll_cons hA
  obtain ⟨v1, vs1, d1, ds1, p1, q1, rfl, rfl, rfl, h1, r1⟩ := trodAll_cons r0
  obtain ⟨v2, vs2, d2, ds2, p2, q2, rfl, rfl, rfl, h2, r2⟩ := trodAll_cons r1
  obtain ⟨v3, vs3, d3, ds3, p3, q3, rfl, rfl, rfl, h3, r3⟩ := trodAll_cons r2
  obtain ⟨rfl, rfl, rfl⟩ := trodAll_nil r3
  obtain rfl : args = #[v0, v1, v2, v3] := by cases args; simp_all
  obtain ⟨x0a, x0b, x0c, rfl, w0a, w0b, w0c⟩ := arg_Board (hval 0 _ _ rfl rfl) h0
  obtain ⟨x1, rfl, rfl, rfl, w1⟩ := open_int Try.underlying3 (hval 1 _ _ rfl rfl) h1
  obtain ⟨x2, rfl, rfl, rfl, w2⟩ := open_int Try.underlying3 (hval 2 _ _ rfl rfl) h2
  obtain ⟨x3, rfl, rfl, rfl, w3⟩ := open_int Try.underlying3 (hval 3 _ _ rfl rfl) h3
  exact law_any x0a x0b x0c x1 x2 x3 w0a w0b w0c w1 w2 w3 W

set_option maxRecDepth 100000 in
theorem lifted (os : Os) (started : os.Started) (H : Type) (enc : TypeId × Value → H) :
    ReturnsInHanded {} Try.checked os 12 .any (Rows.fnExactMakeGameSpec.pre6 enc Try.prog Try.f12 Rows.fnExactMakeGameRow.domain false) (Rows.fnExactMakeGameSpec.post enc Try.prog Try.f12 false true false false) :=
  law_lift started (by kernel_rfl) Try.func12
    (ChangeSpec.witness6 (enc := enc) (C := Try.checked) false ⟨#[], #[.agg #[.int .i64 0, .int .i64 0, .int .i64 0], .int .i64 0, .int .i64 0, .int .i64 0], []⟩ 8 (by kernel_rfl) (by kernel_rfl) (by kernel_rfl) (by kernel_rfl))
    rfl rfl (readable_all (by kernel_rfl)) (by intro ds h; match ds, h with | [a0, a1, a2, a3], _ => rfl) law_walk

theorem over : Rows.fnExactMakeGameRow.holds Try.pinned (OpenSpec.ofChange Rows.fnExactMakeGameSpec) :=
  OpenClaim.holds_of_wide 12 Try.f12 rfl rfl rfl rfl rfl rfl rfl ⟨rfl, rfl, rfl, rfl, rfl⟩ rfl rfl rfl rfl rfl (by kernel_rfl) Try.func12 (by kernel_rfl)
    (of_decide_eq_true (by kernel_rfl)) (by unfold Func.isWrapper; first | (rw [if_pos (by decide +kernel)]; kernel_rfl) | (rw [if_neg (by decide +kernel)]; exact ⟨rfl, rfl⟩))
    (fun os started H enc _ => lifted os started H enc)

theorem proved : Rows.FnExactMakeGameSaid := over
#print axioms proved
end Go.Proofs.Yteipebedoalafaa.fnExactMakeGame
