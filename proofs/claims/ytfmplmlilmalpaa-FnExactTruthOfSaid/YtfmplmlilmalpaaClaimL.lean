/- ClaimL: contracts of ClaimOk and the reference's; of the laws' own functions on one claim. Conditions: lengths in range. -/
import Derived.Test.YtfmplmlilmalpaaArgI
import Derived.Test.YtfmplmlilmalpaaOpenE
set_option linter.unusedVariables false
set_option linter.unusedSimpArgs false
namespace Peg
def claimOk (k n : Int) (len : Nat) : Bool := inR k 1 4 && inR n 0 60 && decide (len ≤ 60)
end Peg
namespace Go.Proofs.Ytfmplmlilmalpaa
open Go.ChangeShapes Go.WideShapes Go.ChangeAt Go.RowKit Peg Go.Sort
def szTwo (x y : Nat) (left : Int) : Int := if (x : Int) ≤ left then if (y : Int) ≤ left - x then left - x - y else -1 else -1
def RetClaim (w : World) (c : ClaimP) (en : Ending) (w' : World) : Prop := ∃ vj vw, en = .returned (.agg #[.int .i64 c.kind, .int .i64 c.num, vj, vw]) ∧ Own ELine w' w.heap.size vj c.js ∧ Own EInt w' w.heap.size vw c.ws ∧ Below w.heap.size w w'
set_option maxRecDepth 100000 in
theorem szClaim_any (v : Value) (c : ClaimP) (left : Int) (h0 : 0 ≤ left) (h1 : left ≤ 1048576) (w : World) (hv : ClaimArg w v c) :
    Calls Try.prog 4 #[v, .int .i64 left] w fun en w' => en = .returned (.int .i64 (szTwo c.js.length c.ws.length left)) ∧ Below w.heap.size w w' := by
  obtain ⟨vj, vw, rfl, hj, hw⟩ := hv
  have hj1 := Lib.hid (fun w' (hb : Below w.heap.size w w') => hj.keep hb)
  have hw1 := Lib.hid (fun w' (hb : Below w.heap.size w w') => hw.keep hb)
  clear hj hw
  have HT : Hid (szTwo c.js.length c.ws.length left = if (c.js.length : Int) ≤ left then if (c.ws.length : Int) ≤ left - c.js.length then left - c.js.length - c.ws.length else -1 else -1) := rfl
  by_cases h : (c.js.length : Int) ≤ left
  · by_cases h' : (c.ws.length : Int) ≤ left - c.js.length
    all_goals
      have HE := Lib.hid h'
      go_enter Try.func4, Try.ntmps4
      go_wp2_with fail
      refine (szLineS_any _ _ _ h0 h1 _ (hj1.out _ (by (repeat' first | (with_reducible exact Below.refl _ _) | (with_reducible refine Below.alloc ?_ ?_ _) | (with_reducible refine Below.drew ?_) | (with_reducible refine Below.setCell ?_ ?_ _) | (with_reducible refine below_via (by assumption) ?_ ?_) | go_size)))).mono ?_
      rw [if_pos h]
      rintro e w' ⟨rfl, rfl⟩
      go_wp2_with fail
      refine (szIntS_any _ _ _ (by omega) (by omega) _ (hw1.out _ (by (repeat' first | (with_reducible exact Below.refl _ _) | (with_reducible refine Below.alloc ?_ ?_ _) | (with_reducible refine Below.drew ?_) | (with_reducible refine Below.setCell ?_ ?_ _) | (with_reducible refine below_via (by assumption) ?_ ?_) | go_size)))).mono ?_
      first | rw [if_pos (by have := HE.out; omega)] | rw [if_neg (by have := HE.out; omega)]
      rintro e w' ⟨rfl, rfl⟩
      go_wp2_with fail
      all_goals go_ret
      all_goals exact ⟨by rw [HT.out, if_pos h]; first | (rw [if_pos (by have := HE.out; omega)]; rfl) | (rw [if_neg (by have := HE.out; omega)]; rfl), by (repeat' first | (with_reducible exact Below.refl _ _) | (with_reducible refine Below.alloc ?_ ?_ _) | (with_reducible refine Below.drew ?_) | (with_reducible refine Below.setCell ?_ ?_ _) | (with_reducible refine below_via (by assumption) ?_ ?_) | go_size)⟩
  · have HE := Lib.hid h
    go_enter Try.func4, Try.ntmps4
    go_wp2_with fail
    refine (szLineS_any _ _ _ h0 h1 _ (hj1.out _ (by (repeat' first | (with_reducible exact Below.refl _ _) | (with_reducible refine Below.alloc ?_ ?_ _) | (with_reducible refine Below.drew ?_) | (with_reducible refine Below.setCell ?_ ?_ _) | (with_reducible refine below_via (by assumption) ?_ ?_) | go_size)))).mono ?_
    rw [if_neg (by have := HE.out; omega)]
    rintro e w' ⟨rfl, rfl⟩
    go_wp2_with fail
    all_goals go_ret
    all_goals exact ⟨by rw [HT.out, if_neg (by have := HE.out; omega)]; rfl, by (repeat' first | (with_reducible exact Below.refl _ _) | (with_reducible refine Below.alloc ?_ ?_ _) | (with_reducible refine Below.drew ?_) | (with_reducible refine Below.setCell ?_ ?_ _) | (with_reducible refine below_via (by assumption) ?_ ?_) | go_size)⟩
set_option maxRecDepth 100000 in
theorem toClaim_any (v : Value) (c : ClaimP) (hl : c.js.length ≤ 1048576) (hl2 : c.ws.length ≤ 1048576) (w : World) (hv : ClaimArg w v c) :
    Calls Try.prog 7 #[v] w (RetClaim w c) := by
  obtain ⟨vj, vw, rfl, hj, hw⟩ := hv
  have hj1 := Lib.hid (fun w' (hb : Below w.heap.size w w') => hj.keep hb)
  have hw1 := Lib.hid (fun w' (hb : Below w.heap.size w w') => hw.keep hb)
  clear hj hw
  go_enter Try.func7, Try.ntmps7
  go_wp2_with fail
  refine (toLineS_any _ _ _ (hj1.out _ (by (repeat' first | (with_reducible exact Below.refl _ _) | (with_reducible refine Below.alloc ?_ ?_ _) | (with_reducible refine Below.drew ?_) | (with_reducible refine Below.setCell ?_ ?_ _) | (with_reducible refine below_via (by assumption) ?_ ?_) | go_size))) hl).mono ?_
  rintro e' w' ⟨x1, rfl, ho, hb⟩
  obtain ⟨a1, c1, rfl, _, _⟩ := ho.lineG
  have hO := Lib.hid ho
  have hB := Lib.hid (show Below w.heap.size w w' by (repeat' first | (with_reducible exact Below.refl _ _) | (with_reducible refine Below.alloc ?_ ?_ _) | (with_reducible refine Below.drew ?_) | (with_reducible refine Below.setCell ?_ ?_ _) | (with_reducible refine below_via (by assumption) ?_ ?_) | go_size))
  clear ho
  obtain ⟨hc, hf, hz, hy⟩ := bcell hb; clear hy; (try simp only [World.size_alloc, World.size_setCell, World.size_drew] at hz); (try have gQ0 : w.heap.size < w'.heap.size := by omega); (try have gQ1 : w.heap.size + 1 < w'.heap.size := by omega); (try have gQ2 : w.heap.size + 1 + 1 < w'.heap.size := by omega); (try have gQ3 : w.heap.size + 1 + 1 + 1 < w'.heap.size := by omega); (try have gQ4 : w.heap.size + 1 + 1 + 1 + 1 < w'.heap.size := by omega); (try have gQ5 : w.heap.size + 1 + 1 + 1 + 1 + 1 < w'.heap.size := by omega); (try have dQ0 : _ < w'.heap.size := Nat.lt_of_lt_of_le dQ0 (by omega)); (try have dQ1 : _ < w'.heap.size := Nat.lt_of_lt_of_le dQ1 (by omega)); (try have dQ2 : _ < w'.heap.size := Nat.lt_of_lt_of_le dQ2 (by omega)); (try have dQ3 : _ < w'.heap.size := Nat.lt_of_lt_of_le dQ3 (by omega)); (try have dQ4 : _ < w'.heap.size := Nat.lt_of_lt_of_le dQ4 (by omega)); (try have dQ5 : _ < w'.heap.size := Nat.lt_of_lt_of_le dQ5 (by omega)); (try (have hnQ := Nat.lt_of_succ_le hz; first | (have _x := dQ0; first | (have _x := dQ1; first | (have _x := dQ2; first | (have _x := dQ3; first | (have _x := dQ4; have dQ5 := hnQ) | have dQ4 := hnQ) | have dQ3 := hnQ) | have dQ2 := hnQ) | have dQ1 := hnQ) | have dQ0 := hnQ)); (try (have hmQ := Nat.lt_of_succ_lt (Nat.lt_of_succ_le hz); first | (have _x := dQ0; first | (have _x := dQ1; first | (have _x := dQ2; first | (have _x := dQ3; first | (have _x := dQ4; have dQ5 := hmQ) | have dQ4 := hmQ) | have dQ3 := hmQ) | have dQ2 := hmQ) | have dQ1 := hmQ) | have dQ0 := hmQ))
  have s0 : (w'.cell? ⟨w.heap.size + 1 + 1, 2, none⟩).isSome = true := by simp [go_sem, *]
  have s1 : w'.cell? ⟨w.heap.size + 1 + 1, 0, none⟩ = some (.int .i64 c.kind) := by simp [go_sem, *]
  have s2 : w'.cell? ⟨w.heap.size + 1 + 1, 1, none⟩ = some (.int .i64 c.num) := by simp [go_sem, *]
  have s3 : (w'.cell? ⟨w.heap.size + 1 + 1, 3, none⟩).isSome = true := by simp [go_sem, *]
  have f0 : ∀ j, w'.frozen? ⟨w.heap.size + 1 + 1, j, none⟩ = false := fun j => by simp [go_sem, *]
  have t0 : (w'.cell? ⟨w.heap.size + 1, 0, none⟩).isSome = true := by simp [go_sem, *]
  have t1 : (w'.cell? ⟨w.heap.size + 1, 1, none⟩).isSome = true := by simp [go_sem, *]
  have t2 : (w'.cell? ⟨w.heap.size + 1, 2, none⟩).isSome = true := by simp [go_sem, *]
  have t3 : (w'.cell? ⟨w.heap.size + 1, 3, none⟩).isSome = true := by simp [go_sem, *]
  have f1 : ∀ j, w'.frozen? ⟨w.heap.size + 1, j, none⟩ = false := fun j => by simp [go_sem, *]
  have b3 : w'.cell? ⟨w.heap.size, 3, none⟩ = some vw := by simp [go_sem, *]
  obtain ⟨u0, s0⟩ := Option.isSome_iff_exists.1 s0
  obtain ⟨u3, s3⟩ := Option.isSome_iff_exists.1 s3
  clear hc hf
  go_wp2_with fail
  refine (toIntS_any _ _ _ (hw1.out _ (by have := hB.out; (repeat' first | (with_reducible exact Below.refl _ _) | (with_reducible refine Below.alloc ?_ ?_ _) | (with_reducible refine Below.drew ?_) | (with_reducible refine Below.setCell ?_ ?_ _) | (with_reducible refine below_via (by assumption) ?_ ?_) | go_size))) hl2).mono ?_
  rintro e' w2 ⟨x2, rfl, ho2, hb2⟩
  obtain ⟨a2, c2, rfl, _, _⟩ := ho2.intG
  have hO1 := Lib.hid ((hO.out.setLow (by simp only [World.size_alloc]; omega) _).keep hb2)
  have hO2 := Lib.hid ho2
  have hB2 := Lib.hid (show Below w.heap.size w w2 by have := hB.out; (repeat' first | (with_reducible exact Below.refl _ _) | (with_reducible refine Below.alloc ?_ ?_ _) | (with_reducible refine Below.drew ?_) | (with_reducible refine Below.setCell ?_ ?_ _) | (with_reducible refine below_via (by assumption) ?_ ?_) | go_size))
  have hzz := hb2.size
  simp only [World.size_setCell] at hzz
  have q0 : w2.cell? ⟨w.heap.size + 1 + 1, 0, none⟩ = some (.int .i64 c.kind) := (hb2.cell (by simp; omega)).trans (by simp [go_sem, *])
  have q1 : w2.cell? ⟨w.heap.size + 1 + 1, 1, none⟩ = some (.int .i64 c.num) := (hb2.cell (by simp; omega)).trans (by simp [go_sem, *])
  have q2 : w2.cell? ⟨w.heap.size + 1 + 1, 2, none⟩ = some (.slice a1 c.js.length c1) := (hb2.cell (by simp; omega)).trans (by simp [go_sem, *])
  have q3 : w2.cell? ⟨w.heap.size + 1 + 1, 3, none⟩ = some u3 := (hb2.cell (by simp; omega)).trans (by simp [go_sem, *])
  have qf : ∀ j, w2.frozen? ⟨w.heap.size + 1 + 1, j, none⟩ = false := fun j => (hb2.frozen (by simp; omega)).trans (by simp [go_sem, *])
  have r0 : (w2.cell? ⟨w.heap.size + 1, 0, none⟩).isSome = true := by rw [hb2.cell (by simp; omega)]; simp [go_sem, *]
  have r1 : (w2.cell? ⟨w.heap.size + 1, 1, none⟩).isSome = true := by rw [hb2.cell (by simp; omega)]; simp [go_sem, *]
  have r2 : (w2.cell? ⟨w.heap.size + 1, 2, none⟩).isSome = true := by rw [hb2.cell (by simp; omega)]; simp [go_sem, *]
  have r3 : (w2.cell? ⟨w.heap.size + 1, 3, none⟩).isSome = true := by rw [hb2.cell (by simp; omega)]; simp [go_sem, *]
  have rf : ∀ j, w2.frozen? ⟨w.heap.size + 1, j, none⟩ = false := fun j => (hb2.frozen (by simp; omega)).trans (by simp [go_sem, *])
  obtain ⟨y0, r0⟩ := Option.isSome_iff_exists.1 r0
  obtain ⟨y1, r1⟩ := Option.isSome_iff_exists.1 r1
  obtain ⟨y2, r2⟩ := Option.isSome_iff_exists.1 r2
  obtain ⟨y3, r3⟩ := Option.isSome_iff_exists.1 r3
  have g2 : w.heap.size + 1 + 1 < w2.heap.size := by omega
  have g1 : w.heap.size + 1 < w2.heap.size := by omega
  clear ho2 hb2 hb s0 s1 s2 s3 f0 t0 t1 t2 t3 f1 b3
  go_wp2_with fail
  (try simp only [Exit.inBlock, Exit.then]); refine bodyPost_ret (v := .agg #[.int .i64 c.kind, .int .i64 c.num, .slice a1 c.js.length c1, .slice a2 c.ws.length c2]) (by simp [results, Try.results7, go_sem, *]) rfl ⟨_, _, rfl, ?_, ?_, ?_⟩
  · have h := hO1.out
    simp only [World.size_alloc] at h
    refine Own.mono (base := w.heap.size + 1 + 1 + 1) ?_ (by omega)
    (repeat (refine Own.setLow ?_ (by simp only []; omega) _))
    exact h
  · have h := hO2.out
    refine Own.mono (base := w'.heap.size) ?_ (by omega)
    (repeat (refine Own.setLow ?_ (by simp only []; omega) _))
    simpa using h
  · have := hB2.out; (repeat' first | (with_reducible exact Below.refl _ _) | (with_reducible refine Below.alloc ?_ ?_ _) | (with_reducible refine Below.drew ?_) | (with_reducible refine Below.setCell ?_ ?_ _) | (with_reducible refine below_via (by assumption) ?_ ?_) | go_size)
set_option maxRecDepth 100000 in
theorem ClaimOk_any (k n : Int) (js : List Ln) (vj vw : Value) (w : World) {B : Nat} (hj : Own ELine w B vj js) :
    Calls Try.prog 21 #[.agg #[.int .i64 k, .int .i64 n, vj, vw]] w fun e w' => e = .returned (.bool (claimOk k n js.length)) ∧ Below w.heap.size w w' := by
  obtain ⟨a, cap, rfl, hl, _⟩ := hj.lineG
  clear hj
  have HN : Hid (∀ W, Calls Try.prog 38 #[.int .i64 k, .int .i64 1, .int .i64 4] W fun e w' => e = .returned (.bool (inR k 1 4)) ∧ W = w') := fun W => within_any k 1 4 W
  have HS : Hid (∀ W, Calls Try.prog 38 #[.int .i64 n, .int .i64 0, .int .i64 60] W fun e w' => e = .returned (.bool (inR n 0 60)) ∧ W = w') := fun W => within_any n 0 60 W
  have HC : Hid (claimOk k n js.length = (inR k 1 4 && inR n 0 60 && decide (js.length ≤ 60))) := rfl
  cases h1 : inR k 1 4
  · rw [h1] at HN
    have HE : Hid (claimOk k n js.length = false) := by show _ = _; rw [HC.out, h1]; rfl
    clear h1
    go_enter Try.func21, Try.ntmps21
    go_wp2_with (go_at_call 38; (with_reducible refine (HN.out _).mono ?_); rintro e w' ⟨rfl, rfl⟩)
    all_goals go_ret
    all_goals exact ⟨by rw [HE.out]; rfl, by (repeat' first | (with_reducible exact Below.refl _ _) | (with_reducible refine Below.alloc ?_ ?_ _) | (with_reducible refine Below.drew ?_) | (with_reducible refine Below.setCell ?_ ?_ _) | (with_reducible refine below_via (by assumption) ?_ ?_) | go_size)⟩
  cases h2 : inR n 0 60
  · rw [h1] at HN; rw [h2] at HS
    have HE : Hid (claimOk k n js.length = false) := by show _ = _; rw [HC.out, h1, h2]; rfl
    clear h1 h2
    go_enter Try.func21, Try.ntmps21
    go_wp2_with (first | (go_at_call 38; (with_reducible refine (HN.out _).mono ?_); rintro e w' ⟨rfl, rfl⟩) | (go_at_call 38; (with_reducible refine (HS.out _).mono ?_); rintro e w' ⟨rfl, rfl⟩))
    all_goals go_ret
    all_goals exact ⟨by rw [HE.out]; rfl, by (repeat' first | (with_reducible exact Below.refl _ _) | (with_reducible refine Below.alloc ?_ ?_ _) | (with_reducible refine Below.drew ?_) | (with_reducible refine Below.setCell ?_ ?_ _) | (with_reducible refine below_via (by assumption) ?_ ?_) | go_size)⟩
  rw [h1] at HN; rw [h2] at HS
  have HE : Hid (claimOk k n js.length = decide (js.length ≤ 60)) := by show _ = _; rw [HC.out, h1, h2]; rfl
  clear h1 h2
  go_enter Try.func21, Try.ntmps21
  go_wp2_with (first | (go_at_call 38; (with_reducible refine (HN.out _).mono ?_); rintro e w' ⟨rfl, rfl⟩) | (go_at_call 38; (with_reducible refine (HS.out _).mono ?_); rintro e w' ⟨rfl, rfl⟩))
  all_goals go_ret
  all_goals exact ⟨by rw [HE.out]; simp; try omega, by (repeat' first | (with_reducible exact Below.refl _ _) | (with_reducible refine Below.alloc ?_ ?_ _) | (with_reducible refine Below.drew ?_) | (with_reducible refine Below.setCell ?_ ?_ _) | (with_reducible refine below_via (by assumption) ?_ ?_) | go_size)⟩
set_option maxRecDepth 100000 in
theorem sClaimOk_any (k n : Int) (js : List Ln) (vj vw : Value) (w : World) {B : Nat} (hj : Own ELine w B vj js) :
    Calls Try.prog 13 #[.agg #[.int .i64 k, .int .i64 n, vj, vw]] w fun e w' => e = .returned (.bool (claimOk k n js.length)) ∧ Below w.heap.size w w' := by
  obtain ⟨a, cap, rfl, hl, _⟩ := hj.lineG
  clear hj
  have HN : Hid (∀ W, Calls Try.prog 28 #[.int .i64 k, .int .i64 1, .int .i64 4] W fun e w' => e = .returned (.bool (inR k 1 4)) ∧ W = w') := fun W => l01In_any k 1 4 W
  have HS : Hid (∀ W, Calls Try.prog 28 #[.int .i64 n, .int .i64 0, .int .i64 60] W fun e w' => e = .returned (.bool (inR n 0 60)) ∧ W = w') := fun W => l01In_any n 0 60 W
  have HC : Hid (claimOk k n js.length = (inR k 1 4 && inR n 0 60 && decide (js.length ≤ 60))) := rfl
  cases h1 : inR k 1 4
  · rw [h1] at HN
    have HE : Hid (claimOk k n js.length = false) := by show _ = _; rw [HC.out, h1]; rfl
    clear h1
    go_enter Try.func13, Try.ntmps13
    go_wp2_with (go_at_call 28; (with_reducible refine (HN.out _).mono ?_); rintro e w' ⟨rfl, rfl⟩)
    all_goals go_ret
    all_goals exact ⟨by rw [HE.out]; rfl, by (repeat' first | (with_reducible exact Below.refl _ _) | (with_reducible refine Below.alloc ?_ ?_ _) | (with_reducible refine Below.drew ?_) | (with_reducible refine Below.setCell ?_ ?_ _) | (with_reducible refine below_via (by assumption) ?_ ?_) | go_size)⟩
  cases h2 : inR n 0 60
  · rw [h1] at HN; rw [h2] at HS
    have HE : Hid (claimOk k n js.length = false) := by show _ = _; rw [HC.out, h1, h2]; rfl
    clear h1 h2
    go_enter Try.func13, Try.ntmps13
    go_wp2_with (first | (go_at_call 28; (with_reducible refine (HN.out _).mono ?_); rintro e w' ⟨rfl, rfl⟩) | (go_at_call 28; (with_reducible refine (HS.out _).mono ?_); rintro e w' ⟨rfl, rfl⟩))
    all_goals go_ret
    all_goals exact ⟨by rw [HE.out]; rfl, by (repeat' first | (with_reducible exact Below.refl _ _) | (with_reducible refine Below.alloc ?_ ?_ _) | (with_reducible refine Below.drew ?_) | (with_reducible refine Below.setCell ?_ ?_ _) | (with_reducible refine below_via (by assumption) ?_ ?_) | go_size)⟩
  rw [h1] at HN; rw [h2] at HS
  have HE : Hid (claimOk k n js.length = decide (js.length ≤ 60)) := by show _ = _; rw [HC.out, h1, h2]; rfl
  clear h1 h2
  go_enter Try.func13, Try.ntmps13
  go_wp2_with (first | (go_at_call 28; (with_reducible refine (HN.out _).mono ?_); rintro e w' ⟨rfl, rfl⟩) | (go_at_call 28; (with_reducible refine (HS.out _).mono ?_); rintro e w' ⟨rfl, rfl⟩))
  all_goals go_ret
  all_goals exact ⟨by rw [HE.out]; simp; try omega, by (repeat' first | (with_reducible exact Below.refl _ _) | (with_reducible refine Below.alloc ?_ ?_ _) | (with_reducible refine Below.drew ?_) | (with_reducible refine Below.setCell ?_ ?_ _) | (with_reducible refine below_via (by assumption) ?_ ?_) | go_size)⟩
set_option maxRecDepth 100000 in
theorem eqClaim_same (k n : Int) (js : List Ln) (ws : List Int) (v1 v2 u1 u2 : Value) (w : World) {B1 B2 B3 B4 : Nat} (h1 : Own ELine w B1 v1 js) (h2 : Own ELine w B2 v2 js) (h3 : Own EInt w B3 u1 ws) (h4 : Own EInt w B4 u2 ws) :
    Calls Try.prog 9 #[.agg #[.int .i64 k, .int .i64 n, v1, u1], .agg #[.int .i64 k, .int .i64 n, v2, u2]] w fun e w' => e = .returned (.bool true) ∧ Below w.heap.size w w' := by
  have hb0 : Below w.heap.size w ((w.alloc (.cells #[.int .i64 k, .int .i64 n, v1, u1] 38)).alloc (.cells #[.int .i64 k, .int .i64 n, v2, u2] 38)) := by (repeat' first | (with_reducible exact Below.refl _ _) | (with_reducible refine Below.alloc ?_ ?_ _) | (with_reducible refine Below.drew ?_) | (with_reducible refine Below.setCell ?_ ?_ _) | (with_reducible refine below_via (by assumption) ?_ ?_) | go_size)
  have H1 := Lib.hid (h1.keep hb0)
  have H2 := Lib.hid (h2.keep hb0)
  have H3 := Lib.hid (h3.keep hb0)
  have H4 := Lib.hid (h4.keep hb0)
  clear h1 h2 h3 h4 hb0
  go_enter Try.func9, Try.ntmps9
  go_wp2_with (first | (go_at_call 25; refine (eqLineS_same _ _ _ _ H1.out H2.out).mono ?_; rintro e w' ⟨rfl, hb⟩; have H3 := Lib.hid (H3.out.keep hb); have H4 := Lib.hid (H4.out.keep hb); obtain ⟨hc, hf, hz, hy⟩ := bcell hb; clear hy; (try simp only [World.size_alloc, World.size_setCell, World.size_drew] at hz); (try have gQ0 : w.heap.size < w'.heap.size := by omega); (try have gQ1 : w.heap.size + 1 < w'.heap.size := by omega); (try have gQ2 : w.heap.size + 1 + 1 < w'.heap.size := by omega); (try have gQ3 : w.heap.size + 1 + 1 + 1 < w'.heap.size := by omega); (try have gQ4 : w.heap.size + 1 + 1 + 1 + 1 < w'.heap.size := by omega); (try have gQ5 : w.heap.size + 1 + 1 + 1 + 1 + 1 < w'.heap.size := by omega); (try have dQ0 : _ < w'.heap.size := Nat.lt_of_lt_of_le dQ0 (by omega)); (try have dQ1 : _ < w'.heap.size := Nat.lt_of_lt_of_le dQ1 (by omega)); (try have dQ2 : _ < w'.heap.size := Nat.lt_of_lt_of_le dQ2 (by omega)); (try have dQ3 : _ < w'.heap.size := Nat.lt_of_lt_of_le dQ3 (by omega)); (try have dQ4 : _ < w'.heap.size := Nat.lt_of_lt_of_le dQ4 (by omega)); (try have dQ5 : _ < w'.heap.size := Nat.lt_of_lt_of_le dQ5 (by omega)); (try (have hnQ := Nat.lt_of_succ_le hz; first | (have _x := dQ0; first | (have _x := dQ1; first | (have _x := dQ2; first | (have _x := dQ3; first | (have _x := dQ4; have dQ5 := hnQ) | have dQ4 := hnQ) | have dQ3 := hnQ) | have dQ2 := hnQ) | have dQ1 := hnQ) | have dQ0 := hnQ)); (try (have hmQ := Nat.lt_of_succ_lt (Nat.lt_of_succ_le hz); first | (have _x := dQ0; first | (have _x := dQ1; first | (have _x := dQ2; first | (have _x := dQ3; first | (have _x := dQ4; have dQ5 := hmQ) | have dQ4 := hmQ) | have dQ3 := hmQ) | have dQ2 := hmQ) | have dQ1 := hmQ) | have dQ0 := hmQ))) | (go_at_call 26; refine (eqIntS_same _ _ _ _ H3.out H4.out).mono ?_; rintro e w' ⟨rfl, hb⟩; obtain ⟨hc, hf, hz, hy⟩ := bcell hb; clear hy; (try simp only [World.size_alloc, World.size_setCell, World.size_drew] at hz); (try have gQ0 : w.heap.size < w'.heap.size := by omega); (try have gQ1 : w.heap.size + 1 < w'.heap.size := by omega); (try have gQ2 : w.heap.size + 1 + 1 < w'.heap.size := by omega); (try have gQ3 : w.heap.size + 1 + 1 + 1 < w'.heap.size := by omega); (try have gQ4 : w.heap.size + 1 + 1 + 1 + 1 < w'.heap.size := by omega); (try have gQ5 : w.heap.size + 1 + 1 + 1 + 1 + 1 < w'.heap.size := by omega); (try have dQ0 : _ < w'.heap.size := Nat.lt_of_lt_of_le dQ0 (by omega)); (try have dQ1 : _ < w'.heap.size := Nat.lt_of_lt_of_le dQ1 (by omega)); (try have dQ2 : _ < w'.heap.size := Nat.lt_of_lt_of_le dQ2 (by omega)); (try have dQ3 : _ < w'.heap.size := Nat.lt_of_lt_of_le dQ3 (by omega)); (try have dQ4 : _ < w'.heap.size := Nat.lt_of_lt_of_le dQ4 (by omega)); (try have dQ5 : _ < w'.heap.size := Nat.lt_of_lt_of_le dQ5 (by omega)); (try (have hnQ := Nat.lt_of_succ_le hz; first | (have _x := dQ0; first | (have _x := dQ1; first | (have _x := dQ2; first | (have _x := dQ3; first | (have _x := dQ4; have dQ5 := hnQ) | have dQ4 := hnQ) | have dQ3 := hnQ) | have dQ2 := hnQ) | have dQ1 := hnQ) | have dQ0 := hnQ)); (try (have hmQ := Nat.lt_of_succ_lt (Nat.lt_of_succ_le hz); first | (have _x := dQ0; first | (have _x := dQ1; first | (have _x := dQ2; first | (have _x := dQ3; first | (have _x := dQ4; have dQ5 := hmQ) | have dQ4 := hmQ) | have dQ3 := hmQ) | have dQ2 := hmQ) | have dQ1 := hmQ) | have dQ0 := hmQ))))
  all_goals go_ret
  all_goals exact ⟨by simp, by (repeat' first | (with_reducible exact Below.refl _ _) | (with_reducible refine Below.alloc ?_ ?_ _) | (with_reducible refine Below.drew ?_) | (with_reducible refine Below.setCell ?_ ?_ _) | (with_reducible refine below_via (by assumption) ?_ ?_) | go_size)⟩
end Go.Proofs.Ytfmplmlilmalpaa
