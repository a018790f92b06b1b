/- PzC: several texts in one (Game1, Lines, BitsG, Jump0). Conditions: those that each theorem names. -/
import Derived.Test.YtledmebhlmpjaaaPzA
import Derived.Test.YtledmebhlmpjaaaBeside
set_option linter.unusedVariables false
set_option linter.unusedSimpArgs false
namespace Peg
def lineTo (a b o k way : Int) : Option Ln :=
  if 0 ≤ stepTo a b o k way then
    if 0 ≤ stepTo a b o (stepTo a b o k way) way then some ⟨k, stepTo a b o k way, stepTo a b o (stepTo a b o k way) way⟩ else none
  else none
/-- the lines from the hole k, in the first q directions -/
def linesPart (a b o k : Int) (q : Nat) : List Ln := (List.range q).filterMap fun way : Nat => lineTo a b o k way
theorem linesPart_succ (a b o k : Int) (q : Nat) : linesPart a b o k (q + 1) = linesPart a b o k q ++ (lineTo a b o k q).toList := by
  simp only [linesPart, List.range_succ, List.filterMap_append]
  cases h : lineTo a b o k q <;> simp [h]
theorem linesPart_length (a b o k : Int) (q : Nat) : (linesPart a b o k q).length ≤ q := by
  unfold linesPart
  have := List.length_filterMap_le (fun way : Nat => lineTo a b o k way) (List.range q)
  simpa using this
def linesFrom (a b o k : Int) : List Ln := linesPart a b o k 4
theorem linesFrom_le (a b o : Int) (H : List Int) : (H.flatMap (linesFrom a b o)).length ≤ 4 * H.length := by
  induction H with
  | nil => simp
  | cons x r ih => have := linesPart_length a b o x 4; simp [linesFrom] at *; omega
theorem flatMap_take_succ {α β : Type} (f : α → List β) (l : List α) (j : Nat) (d : α) (h : j < l.length) : (l.take (j + 1)).flatMap f = (l.take j).flatMap f ++ f (l.getD j d) := by
  rw [List.take_succ_eq_append_getElem h, List.flatMap_append]
  simp [h]
end Peg
namespace Peg
def linesOf (a b o : Int) : List Ln := (holesOf a b o).flatMap (linesFrom a b o)
theorem holesTo_mem {o : Int} {k : Nat} {x : Int} (h : x ∈ holesTo o k) : 0 ≤ x ∧ x < k ∧ tb o x = true := by
  simp only [holesTo, List.mem_map, List.mem_filter, List.mem_range] at h
  obtain ⟨i, ⟨h1, h2⟩, rfl⟩ := h
  exact ⟨by omega, by omega, h2⟩
theorem holesOf_length (a b o : Int) : (holesOf a b o).length ≤ 49 := by
  unfold holesOf
  split
  · rename_i h
    have := holesTo_length o (a * b).toNat
    have := area (boardOk_sides h).1 (boardOk_sides h).2
    omega
  · simp
theorem holesOf_mem {a b o x : Int} (h : x ∈ holesOf a b o) : hasHole a b o x = true ∧ boardOk a b o = true := by
  unfold holesOf at h
  split at h
  · rename_i hb
    obtain ⟨h1, h2, h3⟩ := holesTo_mem h
    have := area (boardOk_sides hb).1 (boardOk_sides hb).2
    refine ⟨?_, hb⟩
    simp only [hasHole, hb, h3, Bool.true_and, Bool.and_true]
    exact inR_iff.2 ⟨h1, by omega⟩
  · simp at h
theorem getD_mem {α : Type} (l : List α) (j : Nat) (d : α) (h : j < l.length) : l.getD j d ∈ l := by
  simp [h]
end Peg
namespace Go.Proofs.Ytledmebhlmpjaaa
open Go.ChangeShapes Go.WideShapes Go.ChangeAt Go.RowKit Peg Go.Sort
theorem beside_r (a b o k way : Int) (hw : 0 ≤ way ∧ way ≤ 3) (w : World) {r : Int} (h : beside a b o k way = r) :
    Calls Try.prog 72 #[.agg #[.int .i64 a, .int .i64 b, .int .i64 o], .int .i64 k, .int .i64 way] w fun e w' => e = .returned (.int .i64 r) ∧ Below w.heap.size w w' := by
  rw [← h]; exact beside_any a b o k way hw w
set_option maxHeartbeats 400000 in
set_option maxRecDepth 100000 in
theorem LinesOf_any (a b o : Int) (w : World) :
    Calls Try.prog 36 #[.agg #[.int .i64 a, .int .i64 b, .int .i64 o]] w (RetLines w (linesOf a b o)) := by
  obtain ⟨H, hH⟩ : ∃ H, H = holesOf a b o := ⟨_, rfl⟩
  have hl49 : H.length ≤ 49 := by rw [hH]; exact holesOf_length a b o
  have HM : Hid (∀ x ∈ H, hasHole a b o x = true ∧ boardOk a b o = true) := by intro x hx; rw [hH] at hx; exact holesOf_mem hx
  have HL : Hid (linesOf a b o = H.flatMap (linesFrom a b o)) := by show _ = _; rw [hH]; rfl
  have HH := Lib.hid hH
  clear hH
  go_enter Try.func36, Try.ntmps36
  go_wp2_with fail
  refine (HolesOf_any _ _ _ _).mono ?_
  rintro e w' ⟨hv, rfl, hownH, hb⟩
  rw [← HH.out] at hownH
  obtain ⟨aH, capH, rfl, hnH, hgetH⟩ := hownH.int
  have HG := Lib.hid hgetH
  clear hgetH
  obtain ⟨hc, hf, hz, hy⟩ := bcell hb; clear hy; (try simp only [World.size_alloc, World.size_setCell, World.size_drew] at hz); (try have gQ0 : w.heap.size < w'.heap.size := by omega); (try have gQ1 : w.heap.size + 1 < w'.heap.size := by omega); (try have gQ2 : w.heap.size + 1 + 1 < w'.heap.size := by omega); (try have gQ3 : w.heap.size + 1 + 1 + 1 < w'.heap.size := by omega); (try have gQ4 : w.heap.size + 1 + 1 + 1 + 1 < w'.heap.size := by omega); (try have gQ5 : w.heap.size + 1 + 1 + 1 + 1 + 1 < w'.heap.size := by omega); (try have dQ0 : _ < w'.heap.size := Nat.lt_of_lt_of_le dQ0 (by omega)); (try have dQ1 : _ < w'.heap.size := Nat.lt_of_lt_of_le dQ1 (by omega)); (try have dQ2 : _ < w'.heap.size := Nat.lt_of_lt_of_le dQ2 (by omega)); (try have dQ3 : _ < w'.heap.size := Nat.lt_of_lt_of_le dQ3 (by omega)); (try have dQ4 : _ < w'.heap.size := Nat.lt_of_lt_of_le dQ4 (by omega)); (try have dQ5 : _ < w'.heap.size := Nat.lt_of_lt_of_le dQ5 (by omega)); (try (have hnQ := Nat.lt_of_succ_le hz; first | (have _x := dQ0; first | (have _x := dQ1; first | (have _x := dQ2; first | (have _x := dQ3; first | (have _x := dQ4; have dQ5 := hnQ) | have dQ4 := hnQ) | have dQ3 := hnQ) | have dQ2 := hnQ) | have dQ1 := hnQ) | have dQ0 := hnQ)); (try (have hmQ := Nat.lt_of_succ_lt (Nat.lt_of_succ_le hz); first | (have _x := dQ0; first | (have _x := dQ1; first | (have _x := dQ2; first | (have _x := dQ3; first | (have _x := dQ4; have dQ5 := hmQ) | have dQ4 := hmQ) | have dQ3 := hmQ) | have dQ2 := hmQ) | have dQ1 := hmQ) | have dQ0 := hmQ))
  obtain ⟨w1, rfl⟩ : ∃ w1 : World, w1 = w' := ⟨_, rfl⟩
  have hbox1 : ∀ j, w1.cell? ⟨w.heap.size, j, none⟩ = #[Value.int .i64 a, .int .i64 b, .int .i64 o][j]? := fun j => by rw [hc _ _ (by simp; omega)]; simp
  go_wp2_with fail
  go_loopw [3, 13] (fun v i wr => ∃ j : Nat, j ≤ H.length ∧ i = .int .i64 j ∧ Own ELine wr w1.heap.size v ((H.take j).flatMap (linesFrom a b o)) ∧ Below w1.heap.size w1 wr) (fun _ i _ => H.length - (intOf i).toNat)
  case atStart => exact ⟨0, by omega, rfl, Own.emptyAny _ _ _ _, Below.refl _ _⟩
  case round =>
    obtain ⟨j, hj, rfl, hown, hbw⟩ := hrel
    obtain ⟨wo, rfl⟩ : ∃ wo : World, wo = wr := ⟨_, rfl⟩
    by_cases hlt : j < H.length
    · obtain ⟨bH, rfl, hb1, hb2, hcell⟩ := HG.out j hlt
      obtain ⟨hk1, hk2⟩ := HM.out _ (getD_mem H j 0 hlt)
      have HE : Hid ((H.take (j + 1)).flatMap (linesFrom a b o) = (H.take j).flatMap (linesFrom a b o) ++ linesFrom a b o (H.getD j 0)) := flatMap_take_succ _ _ _ _ hlt
      have hcw : wo.cell? ⟨bH, j, none⟩ = some (.int .i64 (H.getD j 0)) := (hbw.cell (p := ⟨bH, j, none⟩) hb2).trans hcell
      have hbox : ∀ j, wo.cell? ⟨w.heap.size, j, none⟩ = #[Value.int .i64 a, .int .i64 b, .int .i64 o][j]? := fun j => (hbw.cell (by simp; omega)).trans (hbox1 j)
      have hzo := hbw.size
      have hlo : ((H.take j).flatMap (linesFrom a b o)).length ≤ 4 * 49 := by
        have := linesFrom_le a b o (H.take j)
        have : (H.take j).length ≤ 49 := by simp; omega
        omega
      generalize H.getD j 0 = kk at *
      generalize (H.take j).flatMap (linesFrom a b o) = L at *
      go_wp2_with fail
      go_loopw [3, 6] (fun v i wr => ∃ q : Nat, q ≤ 4 ∧ i = .int .i64 q ∧ Own ELine wr w1.heap.size v (L ++ linesPart a b o kk q) ∧ Below w1.heap.size w1 wr) (fun _ i _ => 4 - (intOf i).toNat)
      case atStart => exact ⟨0, by omega, rfl, by simpa [linesPart] using hown, hbw⟩
      case round =>
        obtain ⟨q, hq, rfl, hown2, hbw2⟩ := hrel
        have hbox2 : ∀ j, wr.cell? ⟨w.heap.size, j, none⟩ = #[Value.int .i64 a, .int .i64 b, .int .i64 o][j]? := fun j => (hbw2.cell (by simp; omega)).trans (hbox1 j)
        have hz2 := hbw2.size
        have gR0 : w.heap.size < wr.heap.size := by omega
        have hlp := linesPart_length a b o kk q
        by_cases hq4 : q < 4
        · obtain ⟨ov, hov⟩ : ∃ ov, ov = stepTo a b o kk q := ⟨_, rfl⟩
          obtain ⟨tt, htt⟩ : ∃ tt, tt = stepTo a b o ov q := ⟨_, rfl⟩
          have hsd := stepTo_bd (o := o) (k := kk) (way := q) (boardOk_sides hk2).1 (boardOk_sides hk2).2
          rw [← hov] at hsd
          obtain ⟨sd1, sd2, sd3⟩ := hsd
          have hB1 : Hid (beside a b o kk q = ov) := by show _ = _; simp [beside, hk1, hov]
          by_cases h1 : 0 ≤ ov
          · have hh : hasHole a b o ov = true := by
              simp only [hasHole, hk2, sd3 h1, Bool.true_and, Bool.and_true]
              exact inR_iff.2 ⟨h1, by omega⟩
            have hB2 : Hid (beside a b o ov q = tt) := by show _ = _; simp [beside, hh, htt]
            have hT := (stepTo_bd (o := o) (k := ov) (way := q) (boardOk_sides hk2).1 (boardOk_sides hk2).2).1
            rw [← htt] at hT
            by_cases h2 : 0 ≤ tt
            · have HP : Hid (linesPart a b o kk (q + 1) = linesPart a b o kk q ++ [⟨kk, ov, tt⟩]) := by
                show _ = _; rw [linesPart_succ]; simp [lineTo, ← hov, ← htt, h1, h2]
              clear hov htt hk1 hk2 sd3 hh
              go_wp2_with fail
              refine (beside_r _ _ _ _ _ (by omega) _ hB1.out).mono ?_
              rintro e w' ⟨rfl, hb⟩; obtain ⟨hc, hf, hz, hy⟩ := bcell hb; clear hy; (try simp only [World.size_alloc, World.size_setCell, World.size_drew] at hz); (try have gQ0 : w.heap.size < w'.heap.size := by omega); (try have gQ1 : w.heap.size + 1 < w'.heap.size := by omega); (try have gQ2 : w.heap.size + 1 + 1 < w'.heap.size := by omega); (try have gQ3 : w.heap.size + 1 + 1 + 1 < w'.heap.size := by omega); (try have gQ4 : w.heap.size + 1 + 1 + 1 + 1 < w'.heap.size := by omega); (try have gQ5 : w.heap.size + 1 + 1 + 1 + 1 + 1 < w'.heap.size := by omega); (try have dQ0 : _ < w'.heap.size := Nat.lt_of_lt_of_le dQ0 (by omega)); (try have dQ1 : _ < w'.heap.size := Nat.lt_of_lt_of_le dQ1 (by omega)); (try have dQ2 : _ < w'.heap.size := Nat.lt_of_lt_of_le dQ2 (by omega)); (try have dQ3 : _ < w'.heap.size := Nat.lt_of_lt_of_le dQ3 (by omega)); (try have dQ4 : _ < w'.heap.size := Nat.lt_of_lt_of_le dQ4 (by omega)); (try have dQ5 : _ < w'.heap.size := Nat.lt_of_lt_of_le dQ5 (by omega)); (try (have hnQ := Nat.lt_of_succ_le hz; first | (have _x := dQ0; first | (have _x := dQ1; first | (have _x := dQ2; first | (have _x := dQ3; first | (have _x := dQ4; have dQ5 := hnQ) | have dQ4 := hnQ) | have dQ3 := hnQ) | have dQ2 := hnQ) | have dQ1 := hnQ) | have dQ0 := hnQ)); (try (have hmQ := Nat.lt_of_succ_lt (Nat.lt_of_succ_le hz); first | (have _x := dQ0; first | (have _x := dQ1; first | (have _x := dQ2; first | (have _x := dQ3; first | (have _x := dQ4; have dQ5 := hmQ) | have dQ4 := hmQ) | have dQ3 := hmQ) | have dQ2 := hmQ) | have dQ1 := hmQ) | have dQ0 := hmQ))
              go_wp2_with fail
              refine (beside_r _ _ _ _ _ (by omega) _ hB2.out).mono ?_
              rintro e w' ⟨rfl, hb⟩; obtain ⟨hc, hf, hz, hy⟩ := bcell hb; clear hy; (try simp only [World.size_alloc, World.size_setCell, World.size_drew] at hz); (try have gQ0 : w.heap.size < w'.heap.size := by omega); (try have gQ1 : w.heap.size + 1 < w'.heap.size := by omega); (try have gQ2 : w.heap.size + 1 + 1 < w'.heap.size := by omega); (try have gQ3 : w.heap.size + 1 + 1 + 1 < w'.heap.size := by omega); (try have gQ4 : w.heap.size + 1 + 1 + 1 + 1 < w'.heap.size := by omega); (try have gQ5 : w.heap.size + 1 + 1 + 1 + 1 + 1 < w'.heap.size := by omega); (try have dQ0 : _ < w'.heap.size := Nat.lt_of_lt_of_le dQ0 (by omega)); (try have dQ1 : _ < w'.heap.size := Nat.lt_of_lt_of_le dQ1 (by omega)); (try have dQ2 : _ < w'.heap.size := Nat.lt_of_lt_of_le dQ2 (by omega)); (try have dQ3 : _ < w'.heap.size := Nat.lt_of_lt_of_le dQ3 (by omega)); (try have dQ4 : _ < w'.heap.size := Nat.lt_of_lt_of_le dQ4 (by omega)); (try have dQ5 : _ < w'.heap.size := Nat.lt_of_lt_of_le dQ5 (by omega)); (try (have hnQ := Nat.lt_of_succ_le hz; first | (have _x := dQ0; first | (have _x := dQ1; first | (have _x := dQ2; first | (have _x := dQ3; first | (have _x := dQ4; have dQ5 := hnQ) | have dQ4 := hnQ) | have dQ3 := hnQ) | have dQ2 := hnQ) | have dQ1 := hnQ) | have dQ0 := hnQ)); (try (have hmQ := Nat.lt_of_succ_lt (Nat.lt_of_succ_le hz); first | (have _x := dQ0; first | (have _x := dQ1; first | (have _x := dQ2; first | (have _x := dQ3; first | (have _x := dQ4; have dQ5 := hmQ) | have dQ4 := hmQ) | have dQ3 := hmQ) | have dQ2 := hmQ) | have dQ1 := hmQ) | have dQ0 := hmQ))
              have hown3 : Own ELine w' _ _ _ := (hown2.keep (by assumption)).keep (by assumption)
              have hlen3 : (L ++ linesPart a b o kk q).length ≤ 1099511627776 := by simp; omega
              go_wp2_with (at_builtin; (refine append1 (E := ELine) (v := u3) (l := L ++ linesPart a b o kk q) rfl rfl _ _ 36 rfl Try.underlying36 rfl hown3 ⟨kk, ov, tt⟩ rfl hlen3 (by omega) ?_); intro v' w2 hown4 hb4 hg4)
              go_roundw
              case rel => exact ⟨q + 1, by omega, by go_num, by rw [HP.out, ← List.append_assoc]; exact hown4, ((hbw2.trans (Below.mono (by assumption) (by omega))).trans (Below.mono (by assumption) (by omega))).trans hb4⟩
              case measure => simp [intOf]; omega
            · have HP : Hid (linesPart a b o kk (q + 1) = linesPart a b o kk q) := by
                show _ = _; rw [linesPart_succ]; simp [lineTo, ← hov, ← htt, h1, h2]
              have h2' : tt < 0 := by omega
              clear hov htt hk1 hk2 sd3 hh h2
              go_wp2_with fail
              refine (beside_r _ _ _ _ _ (by omega) _ hB1.out).mono ?_
              rintro e w' ⟨rfl, hb⟩; obtain ⟨hc, hf, hz, hy⟩ := bcell hb; clear hy; (try simp only [World.size_alloc, World.size_setCell, World.size_drew] at hz); (try have gQ0 : w.heap.size < w'.heap.size := by omega); (try have gQ1 : w.heap.size + 1 < w'.heap.size := by omega); (try have gQ2 : w.heap.size + 1 + 1 < w'.heap.size := by omega); (try have gQ3 : w.heap.size + 1 + 1 + 1 < w'.heap.size := by omega); (try have gQ4 : w.heap.size + 1 + 1 + 1 + 1 < w'.heap.size := by omega); (try have gQ5 : w.heap.size + 1 + 1 + 1 + 1 + 1 < w'.heap.size := by omega); (try have dQ0 : _ < w'.heap.size := Nat.lt_of_lt_of_le dQ0 (by omega)); (try have dQ1 : _ < w'.heap.size := Nat.lt_of_lt_of_le dQ1 (by omega)); (try have dQ2 : _ < w'.heap.size := Nat.lt_of_lt_of_le dQ2 (by omega)); (try have dQ3 : _ < w'.heap.size := Nat.lt_of_lt_of_le dQ3 (by omega)); (try have dQ4 : _ < w'.heap.size := Nat.lt_of_lt_of_le dQ4 (by omega)); (try have dQ5 : _ < w'.heap.size := Nat.lt_of_lt_of_le dQ5 (by omega)); (try (have hnQ := Nat.lt_of_succ_le hz; first | (have _x := dQ0; first | (have _x := dQ1; first | (have _x := dQ2; first | (have _x := dQ3; first | (have _x := dQ4; have dQ5 := hnQ) | have dQ4 := hnQ) | have dQ3 := hnQ) | have dQ2 := hnQ) | have dQ1 := hnQ) | have dQ0 := hnQ)); (try (have hmQ := Nat.lt_of_succ_lt (Nat.lt_of_succ_le hz); first | (have _x := dQ0; first | (have _x := dQ1; first | (have _x := dQ2; first | (have _x := dQ3; first | (have _x := dQ4; have dQ5 := hmQ) | have dQ4 := hmQ) | have dQ3 := hmQ) | have dQ2 := hmQ) | have dQ1 := hmQ) | have dQ0 := hmQ))
              go_wp2_with fail
              refine (beside_r _ _ _ _ _ (by omega) _ hB2.out).mono ?_
              rintro e w' ⟨rfl, hb⟩; obtain ⟨hc, hf, hz, hy⟩ := bcell hb; clear hy; (try simp only [World.size_alloc, World.size_setCell, World.size_drew] at hz); (try have gQ0 : w.heap.size < w'.heap.size := by omega); (try have gQ1 : w.heap.size + 1 < w'.heap.size := by omega); (try have gQ2 : w.heap.size + 1 + 1 < w'.heap.size := by omega); (try have gQ3 : w.heap.size + 1 + 1 + 1 < w'.heap.size := by omega); (try have gQ4 : w.heap.size + 1 + 1 + 1 + 1 < w'.heap.size := by omega); (try have gQ5 : w.heap.size + 1 + 1 + 1 + 1 + 1 < w'.heap.size := by omega); (try have dQ0 : _ < w'.heap.size := Nat.lt_of_lt_of_le dQ0 (by omega)); (try have dQ1 : _ < w'.heap.size := Nat.lt_of_lt_of_le dQ1 (by omega)); (try have dQ2 : _ < w'.heap.size := Nat.lt_of_lt_of_le dQ2 (by omega)); (try have dQ3 : _ < w'.heap.size := Nat.lt_of_lt_of_le dQ3 (by omega)); (try have dQ4 : _ < w'.heap.size := Nat.lt_of_lt_of_le dQ4 (by omega)); (try have dQ5 : _ < w'.heap.size := Nat.lt_of_lt_of_le dQ5 (by omega)); (try (have hnQ := Nat.lt_of_succ_le hz; first | (have _x := dQ0; first | (have _x := dQ1; first | (have _x := dQ2; first | (have _x := dQ3; first | (have _x := dQ4; have dQ5 := hnQ) | have dQ4 := hnQ) | have dQ3 := hnQ) | have dQ2 := hnQ) | have dQ1 := hnQ) | have dQ0 := hnQ)); (try (have hmQ := Nat.lt_of_succ_lt (Nat.lt_of_succ_le hz); first | (have _x := dQ0; first | (have _x := dQ1; first | (have _x := dQ2; first | (have _x := dQ3; first | (have _x := dQ4; have dQ5 := hmQ) | have dQ4 := hmQ) | have dQ3 := hmQ) | have dQ2 := hmQ) | have dQ1 := hmQ) | have dQ0 := hmQ))
              have hown3 : Own ELine w' _ _ _ := (hown2.keep (by assumption)).keep (by assumption)
              go_wp2_with fail
              go_roundw
              case rel => exact ⟨q + 1, by omega, by go_num, by rw [HP.out]; exact hown3, (hbw2.trans (Below.mono (by assumption) (by omega))).trans (Below.mono (by assumption) (by omega))⟩
              case measure => simp [intOf]; omega
          · have hB2 : Hid (beside a b o ov q = -1) := by
              show _ = _
              have : hasHole a b o ov = false := by simp [hasHole, inR, h1]
              simp [beside, this]
            have HP : Hid (linesPart a b o kk (q + 1) = linesPart a b o kk q) := by
              show _ = _; rw [linesPart_succ]; simp [lineTo, ← hov, h1]
            clear hov htt hk1 hk2 sd3
            go_wp2_with fail
            refine (beside_r _ _ _ _ _ (by omega) _ hB1.out).mono ?_
            rintro e w' ⟨rfl, hb⟩; obtain ⟨hc, hf, hz, hy⟩ := bcell hb; clear hy; (try simp only [World.size_alloc, World.size_setCell, World.size_drew] at hz); (try have gQ0 : w.heap.size < w'.heap.size := by omega); (try have gQ1 : w.heap.size + 1 < w'.heap.size := by omega); (try have gQ2 : w.heap.size + 1 + 1 < w'.heap.size := by omega); (try have gQ3 : w.heap.size + 1 + 1 + 1 < w'.heap.size := by omega); (try have gQ4 : w.heap.size + 1 + 1 + 1 + 1 < w'.heap.size := by omega); (try have gQ5 : w.heap.size + 1 + 1 + 1 + 1 + 1 < w'.heap.size := by omega); (try have dQ0 : _ < w'.heap.size := Nat.lt_of_lt_of_le dQ0 (by omega)); (try have dQ1 : _ < w'.heap.size := Nat.lt_of_lt_of_le dQ1 (by omega)); (try have dQ2 : _ < w'.heap.size := Nat.lt_of_lt_of_le dQ2 (by omega)); (try have dQ3 : _ < w'.heap.size := Nat.lt_of_lt_of_le dQ3 (by omega)); (try have dQ4 : _ < w'.heap.size := Nat.lt_of_lt_of_le dQ4 (by omega)); (try have dQ5 : _ < w'.heap.size := Nat.lt_of_lt_of_le dQ5 (by omega)); (try (have hnQ := Nat.lt_of_succ_le hz; first | (have _x := dQ0; first | (have _x := dQ1; first | (have _x := dQ2; first | (have _x := dQ3; first | (have _x := dQ4; have dQ5 := hnQ) | have dQ4 := hnQ) | have dQ3 := hnQ) | have dQ2 := hnQ) | have dQ1 := hnQ) | have dQ0 := hnQ)); (try (have hmQ := Nat.lt_of_succ_lt (Nat.lt_of_succ_le hz); first | (have _x := dQ0; first | (have _x := dQ1; first | (have _x := dQ2; first | (have _x := dQ3; first | (have _x := dQ4; have dQ5 := hmQ) | have dQ4 := hmQ) | have dQ3 := hmQ) | have dQ2 := hmQ) | have dQ1 := hmQ) | have dQ0 := hmQ))
            go_wp2_with fail
            refine (beside_r _ _ _ _ _ (by omega) _ hB2.out).mono ?_
            rintro e w' ⟨rfl, hb⟩; obtain ⟨hc, hf, hz, hy⟩ := bcell hb; clear hy; (try simp only [World.size_alloc, World.size_setCell, World.size_drew] at hz); (try have gQ0 : w.heap.size < w'.heap.size := by omega); (try have gQ1 : w.heap.size + 1 < w'.heap.size := by omega); (try have gQ2 : w.heap.size + 1 + 1 < w'.heap.size := by omega); (try have gQ3 : w.heap.size + 1 + 1 + 1 < w'.heap.size := by omega); (try have gQ4 : w.heap.size + 1 + 1 + 1 + 1 < w'.heap.size := by omega); (try have gQ5 : w.heap.size + 1 + 1 + 1 + 1 + 1 < w'.heap.size := by omega); (try have dQ0 : _ < w'.heap.size := Nat.lt_of_lt_of_le dQ0 (by omega)); (try have dQ1 : _ < w'.heap.size := Nat.lt_of_lt_of_le dQ1 (by omega)); (try have dQ2 : _ < w'.heap.size := Nat.lt_of_lt_of_le dQ2 (by omega)); (try have dQ3 : _ < w'.heap.size := Nat.lt_of_lt_of_le dQ3 (by omega)); (try have dQ4 : _ < w'.heap.size := Nat.lt_of_lt_of_le dQ4 (by omega)); (try have dQ5 : _ < w'.heap.size := Nat.lt_of_lt_of_le dQ5 (by omega)); (try (have hnQ := Nat.lt_of_succ_le hz; first | (have _x := dQ0; first | (have _x := dQ1; first | (have _x := dQ2; first | (have _x := dQ3; first | (have _x := dQ4; have dQ5 := hnQ) | have dQ4 := hnQ) | have dQ3 := hnQ) | have dQ2 := hnQ) | have dQ1 := hnQ) | have dQ0 := hnQ)); (try (have hmQ := Nat.lt_of_succ_lt (Nat.lt_of_succ_le hz); first | (have _x := dQ0; first | (have _x := dQ1; first | (have _x := dQ2; first | (have _x := dQ3; first | (have _x := dQ4; have dQ5 := hmQ) | have dQ4 := hmQ) | have dQ3 := hmQ) | have dQ2 := hmQ) | have dQ1 := hmQ) | have dQ0 := hmQ))
            have hown3 : Own ELine w' _ _ _ := (hown2.keep (by assumption)).keep (by assumption)
            go_wp2_with fail
            go_roundw
            case rel => exact ⟨q + 1, by omega, by go_num, by rw [HP.out]; exact hown3, (hbw2.trans (Below.mono (by assumption) (by omega))).trans (Below.mono (by assumption) (by omega))⟩
            case measure => simp [intOf]; omega
        · have e4 : q = 4 := by omega
          have HE2 : Hid (L ++ linesFrom a b o kk = L ++ linesPart a b o kk q) := by show _ = _; rw [e4]; rfl
          clear e4
          go_wp2_with fail
          go_roundw
          case rel => exact ⟨j + 1, by omega, by go_num, by rw [HE.out, HE2.out]; exact hown2, hbw2⟩
          case measure => simp [intOf]; omega
    · have ej : H.take j = H := List.take_of_length_le (by omega)
      have HF : Hid (linesOf a b o = (H.take j).flatMap (linesFrom a b o)) := by show _ = _; rw [HL.out, ej]
      have hzo := hbw.size
      clear ej
      go_wp2_with fail
      go_ret
      exact ⟨_, rfl, by rw [HF.out]; exact hown.mono (by omega), by (repeat' first | (with_reducible exact Below.refl _ _) | (with_reducible refine Below.alloc ?_ ?_ _) | (with_reducible refine Below.drew ?_) | (with_reducible refine Below.setCell ?_ ?_ _) | (with_reducible refine below_via (by assumption) ?_ ?_) | go_size)⟩
end Go.Proofs.Ytledmebhlmpjaaa
namespace Peg
open Go Go.RowKit
theorem tb_ext {a b : Int} (ha : 0 ≤ a) (hb : 0 ≤ b) (h : ∀ i : Nat, a.toNat.testBit i = b.toNat.testBit i) : a = b := by
  have := Nat.eq_of_testBit_eq h
  omega
theorem band_tb (a b : Int) (i : Nat) : (band a b).toNat.testBit i = (a.toNat.testBit i && b.toNat.testBit i) := by simp [band, Nat.testBit_and]
theorem bor_tb (a b : Int) (i : Nat) : (bor a b).toNat.testBit i = (a.toNat.testBit i || b.toNat.testBit i) := by simp [bor, Nat.testBit_or]
theorem bxor_tb (a b : Int) (i : Nat) : (bxor a b).toNat.testBit i = (a.toNat.testBit i ^^ b.toNat.testBit i) := by simp [bxor, Nat.testBit_xor]
theorem bor_nonneg (a b : Int) : 0 ≤ bor a b := by unfold bor; omega
theorem bxor_nonneg (a b : Int) : 0 ≤ bxor a b := by unfold bxor; omega
theorem and_not_toNat' {n : Nat} (x y : BitVec n) : (x &&& ~~~y).toNat = x.toNat - (x.toNat &&& y.toNat) := by
  have h1 : x = (x &&& ~~~y) + (x &&& y) := by
    rw [BitVec.add_eq_or_of_and_eq_zero]
    · ext i; simp only [BitVec.getElem_or, BitVec.getElem_and, BitVec.getElem_not]; cases x[i] <;> cases y[i] <;> rfl
    · ext i; simp only [BitVec.getElem_zero, BitVec.getElem_and, BitVec.getElem_not]; cases x[i] <;> cases y[i] <;> rfl
  have h2 : (x &&& ~~~y).toNat + (x &&& y).toNat < 2 ^ n := by
    have e : (x &&& ~~~y) &&& (x &&& y) = 0#n := by ext i; simp only [BitVec.getElem_zero, BitVec.getElem_and, BitVec.getElem_not]; cases x[i] <;> cases y[i] <;> rfl
    have := BitVec.toNat_add_of_and_eq_zero e
    rw [← this]
    exact BitVec.isLt _
  have h3 : x.toNat = (x &&& ~~~y).toNat + (x &&& y).toNat := by
    have := congrArg BitVec.toNat h1
    rw [BitVec.toNat_add, Nat.mod_eq_of_lt h2] at this
    exact this
  rw [BitVec.toNat_and] at h3
  have := @Nat.and_le_left x.toNat y.toNat
  simp only [BitVec.toNat_and] at *
  omega
theorem nat_sub_and_testBit (x y i : Nat) : (x - (x &&& y)).testBit i = (x.testBit i && !y.testBit i) := by
  have hx : x < 2 ^ (x + y + i + 1) := Nat.lt_of_lt_of_le (Nat.lt_two_pow_self) (Nat.pow_le_pow_right (by omega) (by omega))
  have hy : y < 2 ^ (x + y + i + 1) := Nat.lt_of_lt_of_le (Nat.lt_two_pow_self) (Nat.pow_le_pow_right (by omega) (by omega))
  have h := and_not_toNat' (BitVec.ofNat (x + y + i + 1) x) (BitVec.ofNat (x + y + i + 1) y)
  have e1 : (BitVec.ofNat (x + y + i + 1) x).toNat = x := by rw [BitVec.toNat_ofNat, Nat.mod_eq_of_lt hx]
  have e2 : (BitVec.ofNat (x + y + i + 1) y).toNat = y := by rw [BitVec.toNat_ofNat, Nat.mod_eq_of_lt hy]
  rw [e1, e2] at h
  rw [← h, BitVec.testBit_toNat, BitVec.getLsbD_and, BitVec.getLsbD_not, ← BitVec.testBit_toNat, ← BitVec.testBit_toNat, e1, e2, decide_eq_true (by omega : i < x + y + i + 1), Bool.true_and]
theorem bdel_tb {a : Int} (ha : 0 ≤ a) (b : Int) (i : Nat) : (bdel a b).toNat.testBit i = (a.toNat.testBit i && !b.toNat.testBit i) := by
  rw [← nat_sub_and_testBit]
  unfold bdel band
  congr 1
  omega
theorem bdel_bd {a : Int} (ha : 0 ≤ a) (b : Int) : 0 ≤ bdel a b ∧ bdel a b ≤ a := by
  have := band_nonneg a b
  have := band_le_left a b ha
  unfold bdel; omega
theorem pw_tb {n : Int} (i : Nat) : (pw n).toNat.testBit i = decide (n.toNat = i) := by
  have : (pw n).toNat = 2 ^ n.toNat := by
    unfold pw
    have e : ((2 : Int) ^ n.toNat) = ((2 ^ n.toNat : Nat) : Int) := by simp
    rw [e, Int.toNat_natCast]
  rw [this, Nat.testBit_two_pow]
theorem pw_nat (k : Nat) : pw k = ((2 ^ k : Nat) : Int) := by unfold pw; simp
theorem toNat_lt_pw {a : Int} {k : Nat} (ha : 0 ≤ a) (h : a < pw k) : a.toNat < 2 ^ k := by rw [pw_nat] at h; omega
theorem lt_pw_of {a : Int} {k : Nat} (h : a.toNat < 2 ^ k) : a < pw k := by rw [pw_nat]; omega
theorem bor_lt {a b : Int} {k : Nat} (ha : 0 ≤ a) (hb : 0 ≤ b) (h1 : a < pw k) (h2 : b < pw k) : bor a b < pw k :=
  lt_pw_of (by have := Nat.or_lt_two_pow (toNat_lt_pw ha h1) (toNat_lt_pw hb h2); simpa [bor] using this)
theorem bxor_lt {a b : Int} {k : Nat} (ha : 0 ≤ a) (hb : 0 ≤ b) (h1 : a < pw k) (h2 : b < pw k) : bxor a b < pw k :=
  lt_pw_of (by have := Nat.xor_lt_two_pow (toNat_lt_pw ha h1) (toNat_lt_pw hb h2); simpa [bxor] using this)
theorem pw_lt {n : Int} {k : Nat} (h0 : 0 ≤ n) (h : n < k) : pw n < pw k := by
  obtain ⟨m, rfl⟩ := Int.eq_ofNat_of_zero_le h0
  rw [pw_nat, pw_nat]
  have : (2 : Nat) ^ m < 2 ^ k := Nat.pow_lt_pow_right (by omega) (by omega)
  omega
end Peg
namespace Peg
/-- the bits of a line's holes -/
def lbits (l : Ln) : Int := bor (bor (pw l.f) (pw l.o)) (pw l.t)
def canJ (p : Int) (l : Ln) : Bool := tb p l.f && tb p l.o && !tb p l.t
def canU (p : Int) (l : Ln) : Bool := !tb p l.f && !tb p l.o && tb p l.t
def can (back : Bool) (p : Int) (l : Ln) : Bool := if back then canU p l else canJ p l
/-- the position behind a jump, or before it -/
def flip (p : Int) (l : Ln) : Int := bxor p (lbits l)
/-- holes on a board of less than 50 holes, and three of them -/
def LnOk (l : Ln) : Prop := (0 ≤ l.f ∧ l.f ≤ 48) ∧ (0 ≤ l.o ∧ l.o ≤ 48) ∧ (0 ≤ l.t ∧ l.t ≤ 48) ∧ l.f ≠ l.o ∧ l.f ≠ l.t ∧ l.o ≠ l.t
theorem tb_nat (p k : Int) : tb p k = p.toNat.testBit k.toNat := rfl
theorem lbits_nonneg (l : Ln) : 0 ≤ lbits l := bor_nonneg _ _
theorem flip_nonneg (p : Int) (l : Ln) : 0 ≤ flip p l := bxor_nonneg _ _
theorem lbits_tb (l : Ln) (i : Nat) : (lbits l).toNat.testBit i = (decide (l.f.toNat = i) || decide (l.o.toNat = i) || decide (l.t.toNat = i)) := by
  simp only [lbits, bor_tb, pw_tb]
theorem flip_tb (p : Int) (l : Ln) (i : Nat) : (flip p l).toNat.testBit i = (p.toNat.testBit i ^^ (decide (l.f.toNat = i) || decide (l.o.toNat = i) || decide (l.t.toNat = i))) := by
  simp only [flip, bxor_tb, lbits_tb]
theorem lnOk_nat {l : Ln} (h : LnOk l) : l.f.toNat ≠ l.o.toNat ∧ l.f.toNat ≠ l.t.toNat ∧ l.o.toNat ≠ l.t.toNat := by
  unfold LnOk at h; omega
theorem jump_eq {p : Int} {l : Ln} (hp : 0 ≤ p) (hl : LnOk l) (h : canJ p l = true) : bor (bdel (bdel p (pw l.f)) (pw l.o)) (pw l.t) = flip p l := by
  obtain ⟨n1, n2, n3⟩ := lnOk_nat hl
  have d1 := bdel_bd hp (pw l.f)
  have d2 := bdel_bd d1.1 (pw l.o)
  refine tb_ext (bor_nonneg _ _) (flip_nonneg _ _) fun i => ?_
  rw [flip_tb, bor_tb, bdel_tb d1.1, bdel_tb hp, pw_tb, pw_tb, pw_tb]
  simp only [canJ, tb_nat, Bool.and_eq_true, Bool.not_eq_true'] at h
  obtain ⟨⟨h1, h2⟩, h3⟩ := h
  by_cases e1 : l.f.toNat = i
  · subst e1; simp [h1, Ne.symm n1, Ne.symm n2]
  · by_cases e2 : l.o.toNat = i
    · subst e2; simp [h2, n1, Ne.symm n3]
    · by_cases e3 : l.t.toNat = i
      · subst e3; simp [h3, n2, n3]
      · simp [e1, e2, e3]
theorem undo_eq {p : Int} {l : Ln} (hp : 0 ≤ p) (hl : LnOk l) (h : canU p l = true) : bor (bor (bdel p (pw l.t)) (pw l.f)) (pw l.o) = flip p l := by
  obtain ⟨n1, n2, n3⟩ := lnOk_nat hl
  have d1 := bdel_bd hp (pw l.t)
  refine tb_ext (bor_nonneg _ _) (flip_nonneg _ _) fun i => ?_
  rw [flip_tb, bor_tb, bor_tb, bdel_tb hp, pw_tb, pw_tb, pw_tb]
  simp only [canU, tb_nat, Bool.and_eq_true, Bool.not_eq_true'] at h
  obtain ⟨⟨h1, h2⟩, h3⟩ := h
  by_cases e1 : l.f.toNat = i
  · subst e1; simp [h1, Ne.symm n1, Ne.symm n2]
  · by_cases e2 : l.o.toNat = i
    · subst e2; simp [h2, n1, Ne.symm n3]
    · by_cases e3 : l.t.toNat = i
      · subst e3; simp [h3, n2, n3]
      · simp [e1, e2, e3]
/-- the reference's tests -/
theorem canJ_iff {p : Int} {l : Ln} (hl : LnOk l) : (band p (lbits l) == bor (pw l.f) (pw l.o)) = canJ p l := by
  obtain ⟨n1, n2, n3⟩ := lnOk_nat hl
  rw [Bool.eq_iff_iff, beq_iff_eq]
  constructor
  · intro h
    have hh : ∀ i : Nat, (p.toNat.testBit i && (decide (l.f.toNat = i) || decide (l.o.toNat = i) || decide (l.t.toNat = i))) = (decide (l.f.toNat = i) || decide (l.o.toNat = i)) := by
      intro i
      rw [← lbits_tb, ← band_tb, h, bor_tb, pw_tb, pw_tb]
    have h1 := hh l.f.toNat
    have h2 := hh l.o.toNat
    have h3 := hh l.t.toNat
    simp [n2, n3] at h1 h2 h3
    simp [canJ, tb_nat, h1, h2, h3]
  · intro h
    simp only [canJ, tb_nat, Bool.and_eq_true, Bool.not_eq_true'] at h
    obtain ⟨⟨h1, h2⟩, h3⟩ := h
    refine tb_ext (band_nonneg _ _) (bor_nonneg _ _) fun i => ?_
    rw [band_tb, lbits_tb, bor_tb, pw_tb, pw_tb]
    by_cases e1 : l.f.toNat = i
    · subst e1; simp [h1]
    · by_cases e2 : l.o.toNat = i
      · subst e2; simp [h2]
      · by_cases e3 : l.t.toNat = i
        · subst e3; simp [h3, n2, n3]
        · simp [e1, e2, e3]
theorem canU_iff {p : Int} {l : Ln} (hl : LnOk l) : (band p (lbits l) == pw l.t) = canU p l := by
  obtain ⟨n1, n2, n3⟩ := lnOk_nat hl
  rw [Bool.eq_iff_iff, beq_iff_eq]
  constructor
  · intro h
    have hh : ∀ i : Nat, (p.toNat.testBit i && (decide (l.f.toNat = i) || decide (l.o.toNat = i) || decide (l.t.toNat = i))) = decide (l.t.toNat = i) := by
      intro i
      rw [← lbits_tb, ← band_tb, h, pw_tb]
    have h1 := hh l.f.toNat
    have h2 := hh l.o.toNat
    have h3 := hh l.t.toNat
    simp [Ne.symm n2, Ne.symm n3] at h1 h2 h3
    simp [canU, tb_nat, h1, h2, h3]
  · intro h
    simp only [canU, tb_nat, Bool.and_eq_true, Bool.not_eq_true'] at h
    obtain ⟨⟨h1, h2⟩, h3⟩ := h
    refine tb_ext (band_nonneg _ _) (by have := pw_pos l.t; omega) fun i => ?_
    rw [band_tb, lbits_tb, pw_tb]
    by_cases e1 : l.f.toNat = i
    · subst e1; simp [h1, Ne.symm n2]
    · by_cases e2 : l.o.toNat = i
      · subst e2; simp [h2, Ne.symm n3]
      · by_cases e3 : l.t.toNat = i
        · subst e3; simp [h3]
        · simp [e1, e2, e3]
theorem lbits_lt {l : Ln} {k : Nat} (h : LnOk l) (hf : l.f < k) (ho : l.o < k) (ht : l.t < k) : lbits l < pw k := by
  unfold LnOk at h
  have p1 := pw_pos l.f; have p2 := pw_pos l.o; have p3 := pw_pos l.t
  exact bor_lt (bor_nonneg _ _) (by omega) (bor_lt (by omega) (by omega) (pw_lt (by omega) hf) (pw_lt (by omega) ho)) (pw_lt (by omega) ht)
theorem flip_lt {p : Int} {l : Ln} {k : Nat} (hp : 0 ≤ p) (hpk : p < pw k) (h : LnOk l) (hf : l.f < k) (ho : l.o < k) (ht : l.t < k) : flip p l < pw k :=
  bxor_lt hp (lbits_nonneg l) hpk (lbits_lt h hf ho ht)
end Peg
