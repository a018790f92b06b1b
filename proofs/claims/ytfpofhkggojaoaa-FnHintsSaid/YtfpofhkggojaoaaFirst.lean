/- First: contracts of PositionsOf, FirstError and the reference's. Conditions: numbers in range. -/
import Derived.Test.YtfpofhkggojaoaaVerdict
set_option linter.unusedVariables false
set_option linter.unusedSimpArgs false
namespace Peg
def fl (p : Int) (A : List Ln) : Int := A.foldl flip p
theorem playTo_fl {back : Bool} {a b o : Int} : ∀ (A : List Ln) (p q : Int), playTo back a b o p A = some q → q = fl p A := by
  intro A
  induction A with
  | nil => intro p q h; simp [playTo] at h; simp [fl, h]
  | cons l r ih =>
    intro p q h
    simp only [playTo] at h
    split at h
    · exact ih _ _ h
    · cases h
theorem fl_take (p : Int) (L : List Ln) (k : Nat) (h : k < L.length) : fl p (L.take (k + 1)) = flip (fl p (L.take k)) (gD L Ln0 k) := by
  rw [take_gD L Ln0 k h]; simp [fl]
def posTo (p : Int) (L : List Ln) (k : Nat) : List Int := (List.range (k + 1)).map fun i => fl p (L.take i)
theorem posTo_len (p : Int) (L : List Ln) (k : Nat) : (posTo p L k).length = k + 1 := by simp [posTo]
theorem posTo_succ (p : Int) (L : List Ln) (k : Nat) : posTo p L (k + 1) = posTo p L k ++ [fl p (L.take (k + 1))] := by
  simp [posTo, List.range_succ]
theorem posTo_at (p : Int) (L : List Ln) (k i : Nat) (h : i ≤ k) : gD (posTo p L k) 0 i = fl p (L.take i) := by
  rw [gD_lt _ _ _ (by rw [posTo_len]; omega)]; simp [posTo]
def positions (a b o p : Int) (L : List Ln) : List Int := if (playAll a b o p L).isSome = true then posTo p L L.length else []
/-- every part of a game that can be played can be played -/
theorem playTo_part {back : Bool} {a b o p q : Int} {L : List Ln} (h : playTo back a b o p L = some q) : ∀ k, k ≤ L.length → playTo back a b o p (L.take k) = some (fl p (L.take k)) := by
  intro k
  induction k with
  | zero => intro _; simp [playTo, fl]
  | succ k ih =>
    intro hk
    have h0 := ih (by omega)
    cases hd : doOk back a b o (fl p (L.take k)) (gD L Ln0 k)
    · rw [playTo_snoc_no (by omega) h0 hd] at h; cases h
    · rw [playTo_snoc_yes (by omega) h0 hd, fl_take p L k (by omega)]
theorem playTo_do {back : Bool} {a b o p q : Int} {L : List Ln} (h : playTo back a b o p L = some q) {k : Nat} (hk : k < L.length) : doOk back a b o (fl p (L.take k)) (gD L Ln0 k) = true := by
  have h0 := playTo_part h k (by omega)
  cases hd : doOk back a b o (fl p (L.take k)) (gD L Ln0 k)
  · rw [playTo_snoc_no hk h0 hd] at h; cases h
  · rfl
theorem playAll_to {a b o p q : Int} {L : List Ln} (h : playAll a b o p L = some q) : posOk a b o p = true ∧ L.length ≤ 60 ∧ playTo false a b o p L = some q := by
  unfold playAll at h
  split at h
  · split at h
    · exact ⟨by assumption, by assumption, h⟩
    · cases h
  · cases h
def badAt (a b o s g : Int) (L : List Ln) (i : Nat) : Bool := !hasB (spreadOf a b o g true) (fl s (L.take i))
def firstErr (a b o s g : Int) (L : List Ln) : Int :=
  if isSolvable a b o s g = true then if (playAll a b o s L).isSome = true then (match (List.range (L.length + 1)).find? (badAt a b o s g L) with | some i => (i : Int) - 1 | none => -1) else -1 else -1
theorem rfind_yes {P : Nat → Bool} {k n : Nat} (hk : k < n) (h0 : (List.range k).find? P = none) (h1 : P k = true) : (List.range n).find? P = some k := by
  obtain ⟨d, rfl⟩ : ∃ d, n = k + (d + 1) := ⟨n - k - 1, by omega⟩
  rw [List.range_add, List.find?_append, h0, List.range_succ_eq_map]
  simp [h1]
theorem rfind_no {P : Nat → Bool} {k : Nat} (h0 : (List.range k).find? P = none) (h1 : P k = false) : (List.range (k + 1)).find? P = none := by
  rw [List.range_succ, List.find?_append, h0]
  simp [h1]
end Peg
namespace Go.Proofs.Ytfpofhkggojaoaa
open Go.ChangeShapes Go.WideShapes Go.ChangeAt Go.RowKit Peg Go.Sort
set_option maxHeartbeats 1000000 in
set_option maxRecDepth 100000 in
theorem PositionsOf_any (a b o p : Int) (L : List Ln) (v : Value) (hp : p ≤ 9223372036854775807) (w : World) {B : Nat} (hv : Own ELine w B v L) :
    Calls Try.prog 103 #[.agg #[.int .i64 a, .int .i64 b, .int .i64 o], .int .i64 p, v] w (RetInts w (positions a b o p L)) := by
  have hv0 := Lib.hid (fun w' (hb : Below w.heap.size w w') => hv.keep hb)
  have HPL : Hid (∀ W, Own ELine W B v L → Calls Try.prog 120 #[.agg #[.int .i64 a, .int .i64 b, .int .i64 o], .int .i64 p, v] W fun e w' => e = .returned (optInt p (playAll a b o p L)) ∧ Below W.heap.size W w') := fun W hW => PlayAll_any a b o p L v hp W hW
  cases hpl : playAll a b o p L with
  | none =>
    have HE : Hid (positions a b o p L = []) := by show _ = _; simp [positions, hpl]
    rw [hpl] at HPL
    simp only [optInt, Option.getD_none, Option.isSome_none] at HPL
    clear hpl hv
    go_enter Try.func103, Try.ntmps103
    go_wp2_with (go_at_call 120; refine (HPL.out _ (hv0.out _ (by (repeat' first | (with_reducible exact Below.refl _ _) | (with_reducible refine Below.alloc ?_ ?_ _) | (with_reducible refine Below.drew ?_) | (with_reducible refine Below.setCell ?_ ?_ _) | (with_reducible refine below_via (by assumption) ?_ ?_) | go_size)))).mono ?_; rintro e w' ⟨rfl, hb⟩; obtain ⟨hc, hf, hz, hy⟩ := bcell hb; clear hy; (try simp only [World.size_alloc, World.size_setCell, World.size_drew] at hz); (try have gQ0 : w.heap.size < w'.heap.size := by omega); (try have gQ1 : w.heap.size + 1 < w'.heap.size := by omega); (try have gQ2 : w.heap.size + 1 + 1 < w'.heap.size := by omega); (try have gQ3 : w.heap.size + 1 + 1 + 1 < w'.heap.size := by omega); (try have gQ4 : w.heap.size + 1 + 1 + 1 + 1 < w'.heap.size := by omega); (try have gQ5 : w.heap.size + 1 + 1 + 1 + 1 + 1 < w'.heap.size := by omega); (try have dQ0 : _ < w'.heap.size := Nat.lt_of_lt_of_le dQ0 (by omega)); (try have dQ1 : _ < w'.heap.size := Nat.lt_of_lt_of_le dQ1 (by omega)); (try have dQ2 : _ < w'.heap.size := Nat.lt_of_lt_of_le dQ2 (by omega)); (try have dQ3 : _ < w'.heap.size := Nat.lt_of_lt_of_le dQ3 (by omega)); (try have dQ4 : _ < w'.heap.size := Nat.lt_of_lt_of_le dQ4 (by omega)); (try have dQ5 : _ < w'.heap.size := Nat.lt_of_lt_of_le dQ5 (by omega)); (try (have hnQ := Nat.lt_of_succ_le hz; first | (have _x := dQ0; first | (have _x := dQ1; first | (have _x := dQ2; first | (have _x := dQ3; first | (have _x := dQ4; have dQ5 := hnQ) | have dQ4 := hnQ) | have dQ3 := hnQ) | have dQ2 := hnQ) | have dQ1 := hnQ) | have dQ0 := hnQ)); (try (have hmQ := Nat.lt_of_succ_lt (Nat.lt_of_succ_le hz); first | (have _x := dQ0; first | (have _x := dQ1; first | (have _x := dQ2; first | (have _x := dQ3; first | (have _x := dQ4; have dQ5 := hmQ) | have dQ4 := hmQ) | have dQ3 := hmQ) | have dQ2 := hmQ) | have dQ1 := hmQ) | have dQ0 := hmQ)))
    all_goals go_ret
    all_goals exact ⟨_, rfl, by rw [HE.out]; exact Own.emptyAny _ _ _ _, by (repeat' first | (with_reducible exact Below.refl _ _) | (with_reducible refine Below.alloc ?_ ?_ _) | (with_reducible refine Below.drew ?_) | (with_reducible refine Below.setCell ?_ ?_ _) | (with_reducible refine below_via (by assumption) ?_ ?_) | go_size)⟩
  | some q =>
    obtain ⟨hpo, h60, hto⟩ := playAll_to hpl
    have HE : Hid (positions a b o p L = posTo p L L.length) := by show _ = _; simp [positions, hpl]
    have HDO : Hid (∀ k, k < L.length → doOk false a b o (fl p (L.take k)) (gD L Ln0 k) = true) := fun k hk => playTo_do hto hk
    have HFL : Hid (∀ k, k < L.length → fl p (L.take (k + 1)) = flip (fl p (L.take k)) (gD L Ln0 k)) := fun k hk => fl_take p L k hk
    rw [hpl] at HPL
    simp only [optInt, Option.getD_some, Option.isSome_some] at HPL
    have HP0 : Hid (posTo p L 0 = [p]) := by show _ = _; simp [posTo, fl]
    obtain ⟨aL, capL, rfl, hnL, hgetL⟩ := hv.lineG
    have HGL := Lib.hid hgetL
    clear hpl hto hv hgetL hpo
    go_enter Try.func103, Try.ntmps103
    go_wp2_with fail
    refine (HPL.out _ (hv0.out _ (by (repeat' first | (with_reducible exact Below.refl _ _) | (with_reducible refine Below.alloc ?_ ?_ _) | (with_reducible refine Below.drew ?_) | (with_reducible refine Below.setCell ?_ ?_ _) | (with_reducible refine below_via (by assumption) ?_ ?_) | go_size)))).mono ?_
    rintro e w' ⟨rfl, hb⟩
    have hbox0 : ∀ j, w'.cell? ⟨w.heap.size, j, none⟩ = #[Value.int .i64 a, .int .i64 b, .int .i64 o][j]? := fun j => (hb.cell (by simp)).trans (by simp)
    obtain ⟨w3, rfl⟩ : ∃ w3 : World, w3 = w' := ⟨_, rfl⟩
    have HW3 := Lib.hid (show Below w.heap.size w w3 by (repeat' first | (with_reducible exact Below.refl _ _) | (with_reducible refine Below.alloc ?_ ?_ _) | (with_reducible refine Below.drew ?_) | (with_reducible refine Below.setCell ?_ ?_ _) | (with_reducible refine below_via (by assumption) ?_ ?_) | go_size))
    have gz3 : w.heap.size < w3.heap.size := by have := hb.size; simp at this; omega
    have hsg := Own.single (E := EInt) p w3 w3.heap.size (Nat.le_refl _)
    clear hb
    go_wp2_with fail
    go_loopw [9, 27] (fun lv i wr => ∃ k : Nat, k ≤ L.length ∧ i = .int .i64 k ∧ Own EInt wr w3.heap.size lv (posTo p L k) ∧ Below w3.heap.size w3 wr) (fun _ i _ => L.length - (intOf i).toNat)
    case atStart => exact ⟨0, by omega, rfl, by rw [HP0.out]; exact hsg, by (repeat' first | (with_reducible exact Below.refl _ _) | (with_reducible refine Below.alloc ?_ ?_ _) | (with_reducible refine Below.drew ?_) | (with_reducible refine Below.setCell ?_ ?_ _) | (with_reducible refine below_via (by assumption) ?_ ?_) | go_size)⟩
    case round =>
      obtain ⟨k, hk, rfl, hown, hbw⟩ := hrel
      have hz5 := hbw.size
      have hbox : ∀ j, wr.cell? ⟨w.heap.size, j, none⟩ = #[Value.int .i64 a, .int .i64 b, .int .i64 o][j]? := fun j => (hbw.cell (by exact gz3)).trans (hbox0 j)
      have gW0 : w.heap.size < wr.heap.size := by omega
      by_cases hlt : k < L.length
      · obtain ⟨bL, rfl, _, hbL, hc0, hc1, hc2⟩ := HGL.out k hlt
        have hb3 : bL < w3.heap.size := by omega
        rw [← HW3.out.cell (by simpa using hbL), ← hbw.cell (by simpa using hb3)] at hc0 hc1 hc2
        have gW1 : bL < wr.heap.size := by omega
        have hlen := posTo_len p L k
        obtain ⟨aP, capP, rfl, _, hgetP⟩ := hown.intG
        obtain ⟨bP, rfl, hbP0, hbP, hcP⟩ := hgetP k (by omega)
        rw [posTo_at p L k k (Nat.le_refl _)] at hcP
        clear hgetP
        have HS := Lib.hid (posTo_succ p L k)
        rw [HFL.out k hlt] at HS
        have hdo := HDO.out k hlt
        have hnp := pos_lt (doOk_pos hdo).1
        have HJ : Hid (∀ W, Calls Try.prog 101 #[.agg #[.int .i64 a, .int .i64 b, .int .i64 o], .int .i64 (fl p (L.take k)), .agg #[.int .i64 (gD L Ln0 k).f, .int .i64 (gD L Ln0 k).o, .int .i64 (gD L Ln0 k).t]] W fun e w' => e = .returned (.tuple #[.int .i64 (flip (fl p (L.take k)) (gD L Ln0 k)), .bool true]) ∧ Below W.heap.size W w') := fun W => by
          have := DoJump_any a b o (fl p (L.take k)) (gD L Ln0 k) (by omega) W
          rwa [show doTo false a b o (fl p (L.take k)) (gD L Ln0 k) = flip (fl p (L.take k)) (gD L Ln0 k) from by simp [doTo, hdo], hdo] at this
        clear hdo
        have HL := Lib.hid hlen
        generalize gD L Ln0 k = l at *
        generalize fl p (L.take k) = n at *
        generalize flip n l = m at *
        generalize posTo p L k = D at *
        have hkD : k < D.length := by omega
        have hD60 : D.length ≤ 61 := by omega
        clear hlen
        have hownA := Lib.hid (hown.alloc (.cells #[.int .i64 l.f, .int .i64 l.o, .int .i64 l.t] 51))
        clear hown
        go_wp2_with fail
        (with_reducible refine wp_region_qb ?_ ?_ (fun hq => ?_)); (focus kernel_rfl); (focus kernel_rfl); (repeat (go_big_quiet_step ((go_at_call 101; exact Calls.regrown_of (HJ.out _))))); refine wpQuiet_nil ?_
        intro wq hb
        have hown6 := hownA.out.keep hb
        have hB6 := below_via hb (hbw.alloc (by omega) _) (by simp; omega)
        have gW6 := hB6.size
        clear hq hb
        go_wp2_with (at_builtin; (refine append1 (E := EInt) (l := D) rfl rfl _ _ 33 rfl Try.underlying33 rfl hown6 m rfl (by omega) (by omega) ?_); intro v' w2 hown7 hb7 hg7)
        go_roundw
        case rel => exact ⟨k + 1, by omega, by go_num, by rw [HS.out]; exact hown7, hB6.trans hb7⟩
        case measure => simp [intOf]; omega
      · obtain rfl : k = L.length := by omega
        go_wp2_with fail
        go_ret
        exact ⟨_, rfl, by rw [HE.out]; exact hown.mono (by omega), HW3.out.trans (hbw.mono (by omega))⟩
set_option maxHeartbeats 1000000 in
set_option maxRecDepth 100000 in
theorem FirstError_any (a b o s g : Int) (L : List Ln) (v : Value) (hs : s ≤ 9223372036854775807) (hg : g ≤ 9223372036854775807) (w : World) {B : Nat} (hv : Own ELine w B v L) :
    Calls Try.prog 23 #[.agg #[.int .i64 a, .int .i64 b, .int .i64 o, .int .i64 s, .int .i64 g], v] w fun e w' => e = .returned (.int .i64 (firstErr a b o s g L)) ∧ Below w.heap.size w w' := by
  have hv0 := Lib.hid (fun w' (hb : Below w.heap.size w w') => hv.keep hb)
  have H1 : Hid (∀ W, Calls Try.prog 73 #[.agg #[.int .i64 a, .int .i64 b, .int .i64 o, .int .i64 s, .int .i64 g]] W fun e w' => e = .returned (.bool (isSolvable a b o s g)) ∧ Below W.heap.size W w') := fun W => IsSolvable_any a b o s g hs hg W
  clear hv
  cases hsol : isSolvable a b o s g
  · have HE : Hid (firstErr a b o s g L = -1) := by show _ = _; simp [firstErr, hsol]
    rw [hsol] at H1
    clear hsol
    go_enter Try.func23, Try.ntmps23
    go_wp2_with (go_at_call 73; refine (H1.out _).mono ?_; rintro e w' ⟨rfl, hb⟩; obtain ⟨hc, hf, hz, hy⟩ := bcell hb; clear hy; (try simp only [World.size_alloc, World.size_setCell, World.size_drew] at hz); (try have gQ0 : w.heap.size < w'.heap.size := by omega); (try have gQ1 : w.heap.size + 1 < w'.heap.size := by omega); (try have gQ2 : w.heap.size + 1 + 1 < w'.heap.size := by omega); (try have gQ3 : w.heap.size + 1 + 1 + 1 < w'.heap.size := by omega); (try have gQ4 : w.heap.size + 1 + 1 + 1 + 1 < w'.heap.size := by omega); (try have gQ5 : w.heap.size + 1 + 1 + 1 + 1 + 1 < w'.heap.size := by omega); (try have dQ0 : _ < w'.heap.size := Nat.lt_of_lt_of_le dQ0 (by omega)); (try have dQ1 : _ < w'.heap.size := Nat.lt_of_lt_of_le dQ1 (by omega)); (try have dQ2 : _ < w'.heap.size := Nat.lt_of_lt_of_le dQ2 (by omega)); (try have dQ3 : _ < w'.heap.size := Nat.lt_of_lt_of_le dQ3 (by omega)); (try have dQ4 : _ < w'.heap.size := Nat.lt_of_lt_of_le dQ4 (by omega)); (try have dQ5 : _ < w'.heap.size := Nat.lt_of_lt_of_le dQ5 (by omega)); (try (have hnQ := Nat.lt_of_succ_le hz; first | (have _x := dQ0; first | (have _x := dQ1; first | (have _x := dQ2; first | (have _x := dQ3; first | (have _x := dQ4; have dQ5 := hnQ) | have dQ4 := hnQ) | have dQ3 := hnQ) | have dQ2 := hnQ) | have dQ1 := hnQ) | have dQ0 := hnQ)); (try (have hmQ := Nat.lt_of_succ_lt (Nat.lt_of_succ_le hz); first | (have _x := dQ0; first | (have _x := dQ1; first | (have _x := dQ2; first | (have _x := dQ3; first | (have _x := dQ4; have dQ5 := hmQ) | have dQ4 := hmQ) | have dQ3 := hmQ) | have dQ2 := hmQ) | have dQ1 := hmQ) | have dQ0 := hmQ)))
    all_goals go_ret
    all_goals exact ⟨by simp [HE.out], by (repeat' first | (with_reducible exact Below.refl _ _) | (with_reducible refine Below.alloc ?_ ?_ _) | (with_reducible refine Below.drew ?_) | (with_reducible refine Below.setCell ?_ ?_ _) | (with_reducible refine below_via (by assumption) ?_ ?_) | go_size)⟩
  have HF : Hid (firstErr a b o s g L = if (playAll a b o s L).isSome = true then (match (List.range (L.length + 1)).find? (badAt a b o s g L) with | some i => (i : Int) - 1 | none => -1) else -1) := by show _ = _; simp [firstErr, hsol]
  have HBAD : Hid (∀ i, badAt a b o s g L i = !hasB (spreadOf a b o g true) (fl s (L.take i))) := fun i => rfl
  have hlen : (positions a b o s L).length = 0 ∨ (positions a b o s L).length = L.length + 1 := by
    unfold positions; split
    · right; rw [posTo_len]
    · left; rfl
  have HPOS : Hid (∀ k, k < (positions a b o s L).length → (playAll a b o s L).isSome = true ∧ (positions a b o s L).length = L.length + 1 ∧ gD (positions a b o s L) 0 k = fl s (L.take k)) := by
    intro k hk
    unfold positions at *
    split at hk
    · rename_i h
      rw [posTo_len] at hk
      simp only [h, if_true]
      exact ⟨trivial, posTo_len _ _ _, posTo_at _ _ _ _ (by omega)⟩
    · simp at hk
  have HEMP : Hid ((positions a b o s L).length = 0 → firstErr a b o s g L = -1) := by
    intro h
    rw [HF.out]
    unfold positions at h
    split at h
    · rw [posTo_len] at h; omega
    · rename_i h2; simp [h2]
  have hl60 : (positions a b o s L).length ≤ 61 := by
    unfold positions; split
    · rename_i h
      obtain ⟨q, hq⟩ := Option.isSome_iff_exists.1 h
      have := (playAll_to hq).2.1
      rw [posTo_len]; omega
    · simp
  rw [hsol] at H1
  clear hsol
  go_enter Try.func23, Try.ntmps23
  go_wp2_with (go_at_call 73; refine (H1.out _).mono ?_; rintro e w' ⟨rfl, hb⟩; obtain ⟨hc, hf, hz, hy⟩ := bcell hb; clear hy; (try simp only [World.size_alloc, World.size_setCell, World.size_drew] at hz); (try have gQ0 : w.heap.size < w'.heap.size := by omega); (try have gQ1 : w.heap.size + 1 < w'.heap.size := by omega); (try have gQ2 : w.heap.size + 1 + 1 < w'.heap.size := by omega); (try have gQ3 : w.heap.size + 1 + 1 + 1 < w'.heap.size := by omega); (try have gQ4 : w.heap.size + 1 + 1 + 1 + 1 < w'.heap.size := by omega); (try have gQ5 : w.heap.size + 1 + 1 + 1 + 1 + 1 < w'.heap.size := by omega); (try have dQ0 : _ < w'.heap.size := Nat.lt_of_lt_of_le dQ0 (by omega)); (try have dQ1 : _ < w'.heap.size := Nat.lt_of_lt_of_le dQ1 (by omega)); (try have dQ2 : _ < w'.heap.size := Nat.lt_of_lt_of_le dQ2 (by omega)); (try have dQ3 : _ < w'.heap.size := Nat.lt_of_lt_of_le dQ3 (by omega)); (try have dQ4 : _ < w'.heap.size := Nat.lt_of_lt_of_le dQ4 (by omega)); (try have dQ5 : _ < w'.heap.size := Nat.lt_of_lt_of_le dQ5 (by omega)); (try (have hnQ := Nat.lt_of_succ_le hz; first | (have _x := dQ0; first | (have _x := dQ1; first | (have _x := dQ2; first | (have _x := dQ3; first | (have _x := dQ4; have dQ5 := hnQ) | have dQ4 := hnQ) | have dQ3 := hnQ) | have dQ2 := hnQ) | have dQ1 := hnQ) | have dQ0 := hnQ)); (try (have hmQ := Nat.lt_of_succ_lt (Nat.lt_of_succ_le hz); first | (have _x := dQ0; first | (have _x := dQ1; first | (have _x := dQ2; first | (have _x := dQ3; first | (have _x := dQ4; have dQ5 := hmQ) | have dQ4 := hmQ) | have dQ3 := hmQ) | have dQ2 := hmQ) | have dQ1 := hmQ) | have dQ0 := hmQ)); have hV1 := Lib.hid (hv0.out w' (by (repeat' first | (with_reducible exact Below.refl _ _) | (with_reducible refine Below.alloc ?_ ?_ _) | (with_reducible refine Below.drew ?_) | (with_reducible refine Below.setCell ?_ ?_ _) | (with_reducible refine below_via (by assumption) ?_ ?_) | go_size))))
  refine (spreadOf_any _ _ _ _ _ hg _).mono ?_
  rintro e w' ⟨vB, rfl, hownB, hb⟩
  have hV2 := Lib.hid (hV1.out.keep hb)
  obtain ⟨hc, hf, hz, hy⟩ := bcell hb; clear hy; (try simp only [World.size_alloc, World.size_setCell, World.size_drew] at hz); (try have gQ0 : w.heap.size < w'.heap.size := by omega); (try have gQ1 : w.heap.size + 1 < w'.heap.size := by omega); (try have gQ2 : w.heap.size + 1 + 1 < w'.heap.size := by omega); (try have gQ3 : w.heap.size + 1 + 1 + 1 < w'.heap.size := by omega); (try have gQ4 : w.heap.size + 1 + 1 + 1 + 1 < w'.heap.size := by omega); (try have gQ5 : w.heap.size + 1 + 1 + 1 + 1 + 1 < w'.heap.size := by omega); (try have dQ0 : _ < w'.heap.size := Nat.lt_of_lt_of_le dQ0 (by omega)); (try have dQ1 : _ < w'.heap.size := Nat.lt_of_lt_of_le dQ1 (by omega)); (try have dQ2 : _ < w'.heap.size := Nat.lt_of_lt_of_le dQ2 (by omega)); (try have dQ3 : _ < w'.heap.size := Nat.lt_of_lt_of_le dQ3 (by omega)); (try have dQ4 : _ < w'.heap.size := Nat.lt_of_lt_of_le dQ4 (by omega)); (try have dQ5 : _ < w'.heap.size := Nat.lt_of_lt_of_le dQ5 (by omega)); (try (have hnQ := Nat.lt_of_succ_le hz; first | (have _x := dQ0; first | (have _x := dQ1; first | (have _x := dQ2; first | (have _x := dQ3; first | (have _x := dQ4; have dQ5 := hnQ) | have dQ4 := hnQ) | have dQ3 := hnQ) | have dQ2 := hnQ) | have dQ1 := hnQ) | have dQ0 := hnQ)); (try (have hmQ := Nat.lt_of_succ_lt (Nat.lt_of_succ_le hz); first | (have _x := dQ0; first | (have _x := dQ1; first | (have _x := dQ2; first | (have _x := dQ3; first | (have _x := dQ4; have dQ5 := hmQ) | have dQ4 := hmQ) | have dQ3 := hmQ) | have dQ2 := hmQ) | have dQ1 := hmQ) | have dQ0 := hmQ))
  obtain ⟨w3, rfl⟩ : ∃ w3 : World, w3 = w' := ⟨_, rfl⟩
  have HW3 := Lib.hid (show Below w.heap.size w w3 by (repeat' first | (with_reducible exact Below.refl _ _) | (with_reducible refine Below.alloc ?_ ?_ _) | (with_reducible refine Below.drew ?_) | (with_reducible refine Below.setCell ?_ ?_ _) | (with_reducible refine below_via (by assumption) ?_ ?_) | go_size))
  go_wp2_with fail
  refine (PositionsOf_any _ _ _ _ _ _ hs _ hV2.out).mono ?_
  rintro e w' ⟨vP, rfl, hownP, hb⟩
  have hownB2 := hownB.keep hb
  have HW4 := Lib.hid (below_via hb HW3.out (by omega))
  obtain ⟨w4, rfl⟩ : ∃ w4 : World, w4 = w' := ⟨_, rfl⟩
  generalize positions a b o s L = D at *
  generalize spreadOf a b o g true = S at *
  obtain ⟨aP, capP, rfl, hnP, hgetP⟩ := hownP.intG
  have HGP := Lib.hid hgetP
  have HS := Lib.hid hownB2
  obtain ⟨aS, cS, rfl, _⟩ := hownB2.boolsSmall
  clear hgetP hownP hownB hownB2 hb
  go_wp2_with fail
  go_loopw [23] (fun i wr => ∃ k : Nat, k ≤ D.length ∧ i = .int .i64 k ∧ Hid ((List.range k).find? (badAt a b o s g L) = none) ∧ Below w4.heap.size w4 wr) (fun i _ => D.length - (intOf i).toNat)
  case atStart => exact ⟨0, by omega, rfl, by show _ = _; rfl, Below.refl _ _⟩
  case round =>
    obtain ⟨k, hk, rfl, hno, hbw⟩ := hrel
    have hz5 := hbw.size
    by_cases hlt : k < D.length
    · obtain ⟨hp1, hp2, hp3⟩ := HPOS.out k hlt
      obtain ⟨bP, rfl, _, hbP, hcP⟩ := HGP.out k hlt
      rw [hp3, ← hbw.cell (by simpa using hbP)] at hcP
      have gW := Nat.lt_of_lt_of_le hbP hz5
      have HBk := Lib.hid (HBAD.out k)
      have hSk := Lib.hid (HS.out.keep hbw)
      have HC : Hid (∀ W Bs, Own EBool W Bs (.slice aS S.length cS) S → Calls Try.prog 104 #[.slice aS S.length cS, .int .i64 (fl s (L.take k))] W fun e w' => e = .returned (.bool (hasB S (fl s (L.take k)))) ∧ Below W.heap.size W w') := fun W Bs hW => has_any S _ _ _ W hW
      cases hh : hasB S (fl s (L.take k))
      · have HV : Hid (firstErr a b o s g L = (k : Int) - 1) := by
          show _ = _
          rw [HF.out, if_pos hp1, rfind_yes (k := k) (by omega) hno.out (by rw [HBk.out, hh]; rfl)]
        rw [hh] at HC
        clear hh HBk hp1 hp2 hp3
        generalize fl s (L.take k) = n at *
        go_wp2_with (go_at_call 104; refine (HC.out _ _ hSk.out).mono ?_; rintro e w' ⟨rfl, hb⟩; obtain ⟨hc, hf, hz, hy⟩ := bcell hb; clear hy; (try simp only [World.size_alloc, World.size_setCell, World.size_drew] at hz); (try have gQ0 : w.heap.size < w'.heap.size := by omega); (try have gQ1 : w.heap.size + 1 < w'.heap.size := by omega); (try have gQ2 : w.heap.size + 1 + 1 < w'.heap.size := by omega); (try have gQ3 : w.heap.size + 1 + 1 + 1 < w'.heap.size := by omega); (try have gQ4 : w.heap.size + 1 + 1 + 1 + 1 < w'.heap.size := by omega); (try have gQ5 : w.heap.size + 1 + 1 + 1 + 1 + 1 < w'.heap.size := by omega); (try have dQ0 : _ < w'.heap.size := Nat.lt_of_lt_of_le dQ0 (by omega)); (try have dQ1 : _ < w'.heap.size := Nat.lt_of_lt_of_le dQ1 (by omega)); (try have dQ2 : _ < w'.heap.size := Nat.lt_of_lt_of_le dQ2 (by omega)); (try have dQ3 : _ < w'.heap.size := Nat.lt_of_lt_of_le dQ3 (by omega)); (try have dQ4 : _ < w'.heap.size := Nat.lt_of_lt_of_le dQ4 (by omega)); (try have dQ5 : _ < w'.heap.size := Nat.lt_of_lt_of_le dQ5 (by omega)); (try (have hnQ := Nat.lt_of_succ_le hz; first | (have _x := dQ0; first | (have _x := dQ1; first | (have _x := dQ2; first | (have _x := dQ3; first | (have _x := dQ4; have dQ5 := hnQ) | have dQ4 := hnQ) | have dQ3 := hnQ) | have dQ2 := hnQ) | have dQ1 := hnQ) | have dQ0 := hnQ)); (try (have hmQ := Nat.lt_of_succ_lt (Nat.lt_of_succ_le hz); first | (have _x := dQ0; first | (have _x := dQ1; first | (have _x := dQ2; first | (have _x := dQ3; first | (have _x := dQ4; have dQ5 := hmQ) | have dQ4 := hmQ) | have dQ3 := hmQ) | have dQ2 := hmQ) | have dQ1 := hmQ) | have dQ0 := hmQ)); have hB7 := below_via hb hbw (by omega))
        go_ret
        exact ⟨by simp [HV.out, Int.sub_eq_add_neg], HW4.out.trans (hB7.mono HW4.out.size)⟩
      · have HN := Lib.hid (rfind_no hno.out (by rw [HBk.out, hh]; rfl))
        rw [hh] at HC
        clear hh HBk hp1 hp2 hp3
        generalize fl s (L.take k) = n at *
        go_wp2_with (go_at_call 104; refine (HC.out _ _ hSk.out).mono ?_; rintro e w' ⟨rfl, hb⟩; obtain ⟨hc, hf, hz, hy⟩ := bcell hb; clear hy; (try simp only [World.size_alloc, World.size_setCell, World.size_drew] at hz); (try have gQ0 : w.heap.size < w'.heap.size := by omega); (try have gQ1 : w.heap.size + 1 < w'.heap.size := by omega); (try have gQ2 : w.heap.size + 1 + 1 < w'.heap.size := by omega); (try have gQ3 : w.heap.size + 1 + 1 + 1 < w'.heap.size := by omega); (try have gQ4 : w.heap.size + 1 + 1 + 1 + 1 < w'.heap.size := by omega); (try have gQ5 : w.heap.size + 1 + 1 + 1 + 1 + 1 < w'.heap.size := by omega); (try have dQ0 : _ < w'.heap.size := Nat.lt_of_lt_of_le dQ0 (by omega)); (try have dQ1 : _ < w'.heap.size := Nat.lt_of_lt_of_le dQ1 (by omega)); (try have dQ2 : _ < w'.heap.size := Nat.lt_of_lt_of_le dQ2 (by omega)); (try have dQ3 : _ < w'.heap.size := Nat.lt_of_lt_of_le dQ3 (by omega)); (try have dQ4 : _ < w'.heap.size := Nat.lt_of_lt_of_le dQ4 (by omega)); (try have dQ5 : _ < w'.heap.size := Nat.lt_of_lt_of_le dQ5 (by omega)); (try (have hnQ := Nat.lt_of_succ_le hz; first | (have _x := dQ0; first | (have _x := dQ1; first | (have _x := dQ2; first | (have _x := dQ3; first | (have _x := dQ4; have dQ5 := hnQ) | have dQ4 := hnQ) | have dQ3 := hnQ) | have dQ2 := hnQ) | have dQ1 := hnQ) | have dQ0 := hnQ)); (try (have hmQ := Nat.lt_of_succ_lt (Nat.lt_of_succ_le hz); first | (have _x := dQ0; first | (have _x := dQ1; first | (have _x := dQ2; first | (have _x := dQ3; first | (have _x := dQ4; have dQ5 := hmQ) | have dQ4 := hmQ) | have dQ3 := hmQ) | have dQ2 := hmQ) | have dQ1 := hmQ) | have dQ0 := hmQ)); have hB7 := below_via hb hbw (by omega))
        go_roundw
        case rel => exact ⟨k + 1, by omega, by go_num, HN, hB7⟩
        case measure => simp [intOf]; omega
    · obtain rfl : k = D.length := by omega
      have HV : Hid (firstErr a b o s g L = -1) := by
        show _ = _
        rcases Nat.eq_zero_or_pos D.length with h0 | h0
        · exact HEMP.out h0
        · obtain ⟨hp1, hp2, _⟩ := HPOS.out 0 h0
          rw [HF.out, if_pos hp1, ← hp2, hno.out]
      go_wp2_with fail
      go_ret
      exact ⟨by simp [HV.out], HW4.out.trans (hbw.mono HW4.out.size)⟩
end Go.Proofs.Ytfpofhkggojaoaa
