/- Post0: the text of a position, plain; and the slices of strings that the calls hand back. No condition. -/
import Derived.Test.YtkaojpcpfbbicaaTurn
import Derived.Test.YtkaojpcpfbbicaaHoles
import Derived.Test.YtkaojpcpfbbicaaMemS
set_option linter.unusedVariables false
set_option linter.unusedSimpArgs false
namespace Peg
def chr (p o : Int) (k : Nat) : UInt8 := if tb p k = true then 111 else if tb o k = true then 46 else 32
def rowTo (p o : Int) (s x : Nat) : List UInt8 := (List.range x).map fun j => chr p o (s + j)
def rowB (p o : Int) (A y : Nat) : ByteArray := ⟨(rowTo p o (y * A) A).toArray⟩
def rowsB (p o : Int) (A y : Nat) : List ByteArray := (List.range y).map (rowB p o A)
def posText (a b o p : Int) : List ByteArray := if posOk a b o p = true then rowsB p o a.toNat b.toNat else []
theorem rowTo_succ (p o : Int) (s x : Nat) : rowTo p o s (x + 1) = rowTo p o s x ++ [chr p o (s + x)] := by simp [rowTo, List.range_succ]
theorem rowTo_length (p o : Int) (s x : Nat) : (rowTo p o s x).length = x := by simp [rowTo]
theorem rowsB_succ (p o : Int) (A y : Nat) : rowsB p o A (y + 1) = rowsB p o A y ++ [rowB p o A y] := by simp [rowsB, List.range_succ]
theorem rowsB_length (p o : Int) (A y : Nat) : (rowsB p o A y).length = y := by simp [rowsB]
end Peg
namespace Go.Proofs.Ytkaojpcpfbbicaa
open Go.ChangeShapes Go.WideShapes Go.ChangeAt Go.RowKit Peg Go.Sort
def RetStrs (w : World) (l : List ByteArray) (e : Ending) (w' : World) : Prop := ∃ v, e = .returned v ∧ Own EStr w' w.heap.size v l ∧ Below w.heap.size w w'
set_option maxHeartbeats 2000000 in
set_option maxRecDepth 100000 in
theorem PositionText_any (a b o p : Int) (hp : p ≤ 9223372036854775807) (w : World) :
    Calls Try.prog 28 #[.agg #[.int .i64 a, .int .i64 b, .int .i64 o], .int .i64 p] w (RetStrs w (posText a b o p)) := by
  cases h : posOk a b o p
  · have HP : Hid (∀ W, Calls Try.prog 29 #[.agg #[.int .i64 a, .int .i64 b, .int .i64 o], .int .i64 p] W fun e w' => e = .returned (.bool false) ∧ Below W.heap.size W w') := fun W => by rw [← h]; exact PositionOk_any a b o p hp W
    have HR : Hid (posText a b o p = []) := by show _ = _; simp [posText, h]
    clear h
    go_enter Try.func28, Try.ntmps28
    go_wp2_with (first | (go_at_call 29; refine (HP.out _).mono ?_; rintro e w' ⟨rfl, hb⟩; obtain ⟨hc, hf, hz, hy⟩ := bcell hb; clear hy; (try simp only [World.size_alloc, World.size_setCell, World.size_drew] at hz); (try have gQ0 : w.heap.size < w'.heap.size := by omega); (try have gQ1 : w.heap.size + 1 < w'.heap.size := by omega); (try have gQ2 : w.heap.size + 1 + 1 < w'.heap.size := by omega); (try have gQ3 : w.heap.size + 1 + 1 + 1 < w'.heap.size := by omega); (try have gQ4 : w.heap.size + 1 + 1 + 1 + 1 < w'.heap.size := by omega); (try have gQ5 : w.heap.size + 1 + 1 + 1 + 1 + 1 < w'.heap.size := by omega); (try have dQ0 : _ < w'.heap.size := Nat.lt_of_lt_of_le dQ0 (by omega)); (try have dQ1 : _ < w'.heap.size := Nat.lt_of_lt_of_le dQ1 (by omega)); (try have dQ2 : _ < w'.heap.size := Nat.lt_of_lt_of_le dQ2 (by omega)); (try have dQ3 : _ < w'.heap.size := Nat.lt_of_lt_of_le dQ3 (by omega)); (try have dQ4 : _ < w'.heap.size := Nat.lt_of_lt_of_le dQ4 (by omega)); (try have dQ5 : _ < w'.heap.size := Nat.lt_of_lt_of_le dQ5 (by omega)); (try (have hnQ := Nat.lt_of_succ_le hz; first | (have _x := dQ0; first | (have _x := dQ1; first | (have _x := dQ2; first | (have _x := dQ3; first | (have _x := dQ4; have dQ5 := hnQ) | have dQ4 := hnQ) | have dQ3 := hnQ) | have dQ2 := hnQ) | have dQ1 := hnQ) | have dQ0 := hnQ)); (try (have hmQ := Nat.lt_of_succ_lt (Nat.lt_of_succ_le hz); first | (have _x := dQ0; first | (have _x := dQ1; first | (have _x := dQ2; first | (have _x := dQ3; first | (have _x := dQ4; have dQ5 := hmQ) | have dQ4 := hmQ) | have dQ3 := hmQ) | have dQ2 := hmQ) | have dQ1 := hmQ) | have dQ0 := hmQ)); (try have sQ00 : (w'.cell? ⟨w.heap.size, 0, none⟩).isSome = true := by simp [go_sem, *]); (try have sQ01 : (w'.cell? ⟨w.heap.size, 1, none⟩).isSome = true := by simp [go_sem, *]); (try have sQ02 : (w'.cell? ⟨w.heap.size, 2, none⟩).isSome = true := by simp [go_sem, *]); (try have sQ03 : (w'.cell? ⟨w.heap.size, 3, none⟩).isSome = true := by simp [go_sem, *]); (try have sQ04 : (w'.cell? ⟨w.heap.size, 4, none⟩).isSome = true := by simp [go_sem, *]); (try have sQ10 : (w'.cell? ⟨w.heap.size + 1, 0, none⟩).isSome = true := by simp [go_sem, *]); (try have sQ11 : (w'.cell? ⟨w.heap.size + 1, 1, none⟩).isSome = true := by simp [go_sem, *]); (try have sQ12 : (w'.cell? ⟨w.heap.size + 1, 2, none⟩).isSome = true := by simp [go_sem, *]); (try have sQ13 : (w'.cell? ⟨w.heap.size + 1, 3, none⟩).isSome = true := by simp [go_sem, *]); (try have sQ14 : (w'.cell? ⟨w.heap.size + 1, 4, none⟩).isSome = true := by simp [go_sem, *]); (try have sQ20 : (w'.cell? ⟨w.heap.size + 1 + 1, 0, none⟩).isSome = true := by simp [go_sem, *]); (try have sQ21 : (w'.cell? ⟨w.heap.size + 1 + 1, 1, none⟩).isSome = true := by simp [go_sem, *]); (try have sQ22 : (w'.cell? ⟨w.heap.size + 1 + 1, 2, none⟩).isSome = true := by simp [go_sem, *]); (try have sQ23 : (w'.cell? ⟨w.heap.size + 1 + 1, 3, none⟩).isSome = true := by simp [go_sem, *]); (try have sQ24 : (w'.cell? ⟨w.heap.size + 1 + 1, 4, none⟩).isSome = true := by simp [go_sem, *]); (try have fQ0 : ∀ j, w'.frozen? ⟨w.heap.size, j, none⟩ = false := by intro j; simp [go_sem, *]); (try have fQ1 : ∀ j, w'.frozen? ⟨w.heap.size + 1, j, none⟩ = false := by intro j; simp [go_sem, *]); (try have fQ2 : ∀ j, w'.frozen? ⟨w.heap.size + 1 + 1, j, none⟩ = false := by intro j; simp [go_sem, *])) | ((with_reducible refine wp_region_qb ?_ ?_ (fun hq => ?_)); (focus kernel_rfl); (focus kernel_rfl); (repeat (go_big_quiet_step ((first | (go_at_call 29; exact Calls.regrown_of (HP.out _)))))); refine wpQuiet_nil ?_; intro wq hb; obtain ⟨hc, hf, hz, hy⟩ := bcell hb; clear hq hy; (try simp only [World.size_alloc, World.size_setCell, World.size_drew] at hz); (try have gQ0 : w.heap.size < wq.heap.size := by omega); (try have gQ1 : w.heap.size + 1 < wq.heap.size := by omega); (try have gQ2 : w.heap.size + 1 + 1 < wq.heap.size := by omega); (try have gQ3 : w.heap.size + 1 + 1 + 1 < wq.heap.size := by omega); (try have gQ4 : w.heap.size + 1 + 1 + 1 + 1 < wq.heap.size := by omega); (try have gQ5 : w.heap.size + 1 + 1 + 1 + 1 + 1 < wq.heap.size := by omega); (try have dQ0 : _ < wq.heap.size := Nat.lt_of_lt_of_le dQ0 (by omega)); (try have dQ1 : _ < wq.heap.size := Nat.lt_of_lt_of_le dQ1 (by omega)); (try have dQ2 : _ < wq.heap.size := Nat.lt_of_lt_of_le dQ2 (by omega)); (try have dQ3 : _ < wq.heap.size := Nat.lt_of_lt_of_le dQ3 (by omega)); (try have dQ4 : _ < wq.heap.size := Nat.lt_of_lt_of_le dQ4 (by omega)); (try have dQ5 : _ < wq.heap.size := Nat.lt_of_lt_of_le dQ5 (by omega)); (try (have hnQ := Nat.lt_of_succ_le hz; first | (have _x := dQ0; first | (have _x := dQ1; first | (have _x := dQ2; first | (have _x := dQ3; first | (have _x := dQ4; have dQ5 := hnQ) | have dQ4 := hnQ) | have dQ3 := hnQ) | have dQ2 := hnQ) | have dQ1 := hnQ) | have dQ0 := hnQ)); (try (have hmQ := Nat.lt_of_succ_lt (Nat.lt_of_succ_le hz); first | (have _x := dQ0; first | (have _x := dQ1; first | (have _x := dQ2; first | (have _x := dQ3; first | (have _x := dQ4; have dQ5 := hmQ) | have dQ4 := hmQ) | have dQ3 := hmQ) | have dQ2 := hmQ) | have dQ1 := hmQ) | have dQ0 := hmQ))))
    all_goals go_ret
    all_goals exact ⟨_, rfl, by rw [HR.out]; exact Own.emptyAny _ _ _ _, by (repeat' first | (with_reducible exact Below.refl _ _) | (with_reducible refine Below.alloc ?_ ?_ _) | (with_reducible refine Below.drew ?_) | (with_reducible refine Below.setCell ?_ ?_ _) | (with_reducible refine below_via (by assumption) ?_ ?_) | go_size)⟩
  have HP : Hid (∀ W, Calls Try.prog 29 #[.agg #[.int .i64 a, .int .i64 b, .int .i64 o], .int .i64 p] W fun e w' => e = .returned (.bool true) ∧ Below W.heap.size W w') := fun W => by rw [← h]; exact PositionOk_any a b o p hp W
  obtain ⟨hb1, hp0, _⟩ := posOk_bd h
  obtain ⟨ha1, ha2⟩ := inR_iff.1 (boardOk_sides hb1).1
  obtain ⟨hb2, hb3⟩ := inR_iff.1 (boardOk_sides hb1).2
  obtain ⟨ho1, ho2⟩ := holes_lt hb1
  have HR : Hid (posText a b o p = rowsB p o a.toNat b.toNat) := by show _ = _; simp [posText, h]
  clear h hb1
  obtain ⟨A, rfl⟩ : ∃ A : Nat, a = A := ⟨a.toNat, by omega⟩
  obtain ⟨B, rfl⟩ : ∃ B : Nat, b = B := ⟨b.toNat, by omega⟩
  rw [Int.toNat_natCast, Int.toNat_natCast] at HR
  have HB : Hid (∀ (q : Nat) W, Calls Try.prog 38 #[.int .i64 p, .int .i64 q] W fun e w' => e = .returned (.bool (tb p q)) ∧ W = w') := fun q W => hasBit_any p q hp0 hp (by omega) W
  have HO : Hid (∀ (q : Nat) W, Calls Try.prog 38 #[.int .i64 o, .int .i64 q] W fun e w' => e = .returned (.bool (tb o q)) ∧ W = w') := fun q W => hasBit_any o q (by omega) (by omega) (by omega) W
  go_enter Try.func28, Try.ntmps28
  go_wp2_with fail
  refine (HP.out _).mono ?_
  rintro e w3 ⟨rfl, hb⟩
  have hz3 := hb.size
  simp only [World.size_alloc] at hz3
  have hbox0 : ∀ j, w3.cell? ⟨w.heap.size, j, none⟩ = #[Value.int .i64 (A : Int), .int .i64 (B : Int), .int .i64 o][j]? := fun j => (hb.cell (by simp)).trans (by simp)
  have HW3 := Lib.hid (show Below w.heap.size w w3 from ((Below.refl _ _).alloc (Nat.le_refl _) _).trans (hb.mono (by simp)))
  clear hb HP
  go_wp2_with fail
  go_loopw [5, 6] (fun t5 t6 wr => ∃ y : Nat, y ≤ B ∧ t6 = .int .i64 y ∧ Own EStr wr w3.heap.size t5 (rowsB p o A y) ∧ Below w3.heap.size w3 wr) (fun _ t _ => B - (intOf t).toNat)
  case atStart => exact ⟨0, by omega, rfl, Own.emptyAny _ _ _ _, by (repeat' first | (with_reducible exact Below.refl _ _) | (with_reducible refine Below.alloc ?_ ?_ _) | (with_reducible refine Below.drew ?_) | (with_reducible refine Below.setCell ?_ ?_ _) | (with_reducible refine below_via (by assumption) ?_ ?_) | go_size)⟩
  case round =>
    obtain ⟨y, hy, rfl, hown, hbw⟩ := hrel
    have hz := hbw.size
    have gW0 : w.heap.size < wr.heap.size := by omega
    have hbox : ∀ j, wr.cell? ⟨w.heap.size, j, none⟩ = #[Value.int .i64 (A : Int), .int .i64 (B : Int), .int .i64 o][j]? := fun j => (hbw.cell (by simp; omega)).trans (hbox0 j)
    by_cases hlt : y < B
    · have HRS := Lib.hid (rowsB_succ p o A y)
      have HRL := Lib.hid (rowsB_length p o A y)
      have HRB : Hid (rowB p o A y = ⟨(rowTo p o (y * A) A).toArray⟩) := rfl
      obtain ⟨M, hM⟩ : ∃ M : Nat, y * A = M := ⟨_, rfl⟩
      have hM7 : M ≤ 42 := by rw [← hM]; exact Nat.mul_le_mul (show y ≤ 6 by omega) (show A ≤ 7 by omega)
      have hMz : (y : Int) * (A : Int) = (M : Int) := by rw [← hM]; simp
      have hMz2 : ((y : Int) + 1) * (A : Int) = ((M + A : Nat) : Int) := by rw [Int.add_mul, hMz]; simp
      rw [hM] at HRB
      clear hM
      generalize rowsB p o A y = D at *
      obtain ⟨w4, rfl⟩ : ∃ w4 : World, w4 = wr := ⟨_, rfl⟩
      go_wp2_with fail
      go_loopw [7, 8] (fun t7 t8 wz => ∃ x : Nat, x ≤ A ∧ t8 = .int .i64 ((M + x : Nat) : Int) ∧ Own EU8 wz w4.heap.size t7 (rowTo p o M x) ∧ Below w4.heap.size w4 wz) (fun _ t _ => M + A - (intOf t).toNat)
      case atStart => exact ⟨0, by omega, by simp, Own.emptyAny _ _ _ _, by (repeat' first | (with_reducible exact Below.refl _ _) | (with_reducible refine Below.alloc ?_ ?_ _) | (with_reducible refine Below.drew ?_) | (with_reducible refine Below.setCell ?_ ?_ _) | (with_reducible refine below_via (by assumption) ?_ ?_) | go_size)⟩
      case round =>
        obtain ⟨x, hx, rfl, hrow, hbq⟩ := hrel
        have hzq := hbq.size
        have gQ9 : w.heap.size < wr.heap.size := by omega
        have hboxq : ∀ j, wr.cell? ⟨w.heap.size, j, none⟩ = #[Value.int .i64 (A : Int), .int .i64 (B : Int), .int .i64 o][j]? := fun j => (hbq.cell (by simpa using gW0)).trans (hbox j)
        by_cases hxa : x < A
        · have hxi : ((M + x : Nat) : Int) < ((M + A : Nat) : Int) := by omega
          have HSS := Lib.hid (rowTo_succ p o M x)
          have hl := rowTo_length p o M x
          have HBq := Lib.hid (fun W => HB.out (M + x) W)
          have HOq := Lib.hid (fun W => HO.out (M + x) W)
          have HCH : Hid (chr p o (M + x) = if tb p ((M + x : Nat) : Int) = true then 111 else if tb o ((M + x : Nat) : Int) = true then 46 else 32) := rfl
          have hq0 : (0 : Int) ≤ ((M + x : Nat) : Int) := by omega
          have hq1 : ((M + x : Nat) : Int) + 1 = ((M + (x + 1) : Nat) : Int) := by omega
          have hq2 : ((M + x : Nat) : Int) ≤ 49 := by omega
          have hq3 : (((M + x : Nat) : Int)).toNat = M + x := by omega
          generalize rowTo p o M x = R at *
          generalize hQ : ((M + x : Nat) : Int) = Q at *
          generalize tb p Q = bp at *
          generalize tb o Q = bo at *
          cases bp
          · cases bo
            · have HV : Hid (chr p o (M + x) = 32) := by show _ = _; rw [HCH.out]; rfl
              clear HCH
              go_wp2_with (first | (go_at_call 38; first | ((with_reducible refine (HBq.out _).mono ?_); rintro e w' ⟨rfl, rfl⟩) | ((with_reducible refine (HOq.out _).mono ?_); rintro e w' ⟨rfl, rfl⟩)) | (at_builtin; (refine append1 (E := EU8) (l := R) rfl rfl _ _ 38 rfl Try.underlying38 rfl hrow (32 : UInt8) rfl (by omega) (by omega) ?_); intro v' w2 hown2 hb2 hg2))
              go_roundw
              case rel => exact ⟨x + 1, by omega, by first | (push_cast; rfl) | (simp; done) | (simp; omega), by rw [HSS.out, HV.out]; exact hown2, hbq.trans hb2⟩
              case measure => simp [intOf]; omega
            · have HV : Hid (chr p o (M + x) = 46) := by show _ = _; rw [HCH.out]; rfl
              clear HCH
              go_wp2_with (first | (go_at_call 38; first | ((with_reducible refine (HBq.out _).mono ?_); rintro e w' ⟨rfl, rfl⟩) | ((with_reducible refine (HOq.out _).mono ?_); rintro e w' ⟨rfl, rfl⟩)) | (at_builtin; (refine append1 (E := EU8) (l := R) rfl rfl _ _ 38 rfl Try.underlying38 rfl hrow (46 : UInt8) rfl (by omega) (by omega) ?_); intro v' w2 hown2 hb2 hg2))
              go_roundw
              case rel => exact ⟨x + 1, by omega, by first | (push_cast; rfl) | (simp; done) | (simp; omega), by rw [HSS.out, HV.out]; exact hown2, hbq.trans hb2⟩
              case measure => simp [intOf]; omega
          · have HV : Hid (chr p o (M + x) = 111) := by show _ = _; rw [HCH.out]; rfl
            clear HCH
            go_wp2_with (first | (go_at_call 38; first | ((with_reducible refine (HBq.out _).mono ?_); rintro e w' ⟨rfl, rfl⟩) | ((with_reducible refine (HOq.out _).mono ?_); rintro e w' ⟨rfl, rfl⟩)) | (at_builtin; (refine append1 (E := EU8) (l := R) rfl rfl _ _ 38 rfl Try.underlying38 rfl hrow (111 : UInt8) rfl (by omega) (by omega) ?_); intro v' w2 hown2 hb2 hg2))
            go_roundw
            case rel => exact ⟨x + 1, by omega, by first | (push_cast; rfl) | (simp; done) | (simp; omega), by rw [HSS.out, HV.out]; exact hown2, hbq.trans hb2⟩
            case measure => simp [intOf]; omega
        · obtain rfl : x = A := by omega
          have hbk := back_own hrow
          have hlen : D.length ≤ 1048576 := by rw [HRL.out]; omega
          have hown2 := hown.keep hbq
          have hs : (⟨(rowTo p o M x).toArray⟩ : ByteArray) = rowB p o x y := HRB.out.symm
          rw [hs] at hbk
          generalize rowB p o x y = S at *
          clear hrow hs HRB
          go_wp2_with (at_builtin; (refine append1 (E := EStr) (l := D) rfl rfl _ _ 26 rfl Try.underlying26 rfl hown2 S rfl (by omega) (by omega) ?_); intro v' w2 hown3 hb3 hg3)
          go_roundw
          case rel => exact ⟨y + 1, by omega, by go_num, by rw [HRS.out]; exact hown3, hbw.trans ((hbq.mono (by omega)).trans hb3)⟩
          case measure => simp [intOf]; omega
    · obtain rfl : y = B := by omega
      go_wp2_with fail
      all_goals go_ret
      all_goals exact ⟨_, rfl, by rw [HR.out]; exact hown.mono (by omega), HW3.out.trans (hbw.mono (by omega))⟩
end Go.Proofs.Ytkaojpcpfbbicaa
