/- Keys: contracts of ClassOf, KeyOf, SameKey and the reference's. Conditions: numbers in range. -/
import Derived.Test.YtfpofhkggojaoaaSLines
import Derived.Test.YtfpofhkggojaoaaMemR
import Derived.Test.YtfpofhkggojaoaaBitsG
set_option linter.unusedVariables false
set_option linter.unusedSimpArgs false
namespace Peg
def flipAt (c : List Int) (i : Nat) : List Int := c.set i (1 - gD c 0 i)
def clsStep (a : Int) (c : List Int) (k : Int) : List Int := flipAt (flipAt c ((k % a + k / a) % 3).toNat) (3 + (k % a + 2 * (k / a)) % 3).toNat
def cls (a : Int) (l : List Int) : List Int := l.foldl (clsStep a) [0, 0, 0, 0, 0, 0]
def classOf (a b o p : Int) : List Int := if posOk a b o p = true then cls a (holesTo p 49) else []
def Bits6 (c : List Int) : Prop := c.length = 6 ∧ ∀ i, i < 6 → gD c 0 i = 0 ∨ gD c 0 i = 1
theorem gD_setI (l : List Int) (x : Int) (k i : Nat) (hk : k < l.length) : gD (l.set k x) 0 i = if i = k then x else gD l 0 i := by
  unfold gD
  by_cases h : i = k
  · subst h; simp [hk]
  · simp [h, List.getElem?_set, Ne.symm h]
theorem Bits6.flip {c : List Int} (h : Bits6 c) {i : Nat} (hi : i < 6) : Bits6 (flipAt c i) := by
  refine ⟨by simp [flipAt, h.1], fun j hj => ?_⟩
  unfold flipAt
  rw [gD_setI _ _ _ _ (by rw [h.1]; exact hi)]
  split
  · have := h.2 i hi; omega
  · exact h.2 j hj
theorem cls_bits (a : Int) : ∀ (l : List Int) (c : List Int), Bits6 c → Bits6 (l.foldl (clsStep a) c) := by
  intro l
  induction l with
  | nil => intro c h; exact h
  | cons x l ih =>
    intro c h
    exact ih _ ((h.flip (by omega)).flip (by omega))
theorem bits6_zero : Bits6 [0, 0, 0, 0, 0, 0] := by
  refine ⟨rfl, fun i hi => .inl ?_⟩
  have : i = 0 ∨ i = 1 ∨ i = 2 ∨ i = 3 ∨ i = 4 ∨ i = 5 := by omega
  rcases this with rfl | rfl | rfl | rfl | rfl | rfl <;> rfl
theorem cls_snoc (a : Int) (l : List Int) (k : Int) : cls a (l ++ [k]) = clsStep a (cls a l) k := by simp [cls]
/-- the pegs of a position are the holes of the board that hold one -/
theorem holes_filter {a b o p : Int} (h : posOk a b o p = true) (k : Nat) : (holesTo o k).filter (tb p) = holesTo p k := by
  have h2 := (posOk_bd h).2.2
  have key : ∀ i : Nat, tb p (i : Int) = true → tb o (i : Int) = true := by
    intro i hi
    have h3 := band_tb p o i
    rw [h2] at h3
    have e1 : tb p (i : Int) = p.toNat.testBit i := by simp [tb]
    have e2 : tb o (i : Int) = o.toNat.testBit i := by simp [tb]
    rw [e1] at hi
    rw [e2]
    rw [hi] at h3
    simpa using h3.symm
  unfold holesTo
  rw [List.filter_map, List.filter_filter]
  congr 1
  apply List.filter_congr
  intro i _
  show (tb p (i : Int) && tb o (i : Int)) = tb p (i : Int)
  cases ht : tb p (i : Int)
  · rfl
  · rw [key i ht]; rfl
end Peg
namespace Go.Proofs.Ytfpofhkggojaoaa
open Go.ChangeShapes Go.WideShapes Go.ChangeAt Go.RowKit Peg Go.Sort
theorem xor1 {v : Int} (h : v = 0 ∨ v = 1) : bits BinOp.xor IntKind.i64 v 1 = 1 - v := by
  rcases h with rfl | rfl <;> decide
theorem run_make6 (w : World) : (Instr.makeSlice 33 (.int .i64 6) (.int .i64 6)).run Try.prog w = .ok (.slice (some ⟨w.heap.size, 0, none⟩) 6 6) (w.alloc (.cells #[.int .i64 0, .int .i64 0, .int .i64 0, .int .i64 0, .int .i64 0, .int .i64 0] 3)) ∧
    Own EInt (w.alloc (.cells #[.int .i64 0, .int .i64 0, .int .i64 0, .int .i64 0, .int .i64 0, .int .i64 0] 3)) w.heap.size (.slice (some ⟨w.heap.size, 0, none⟩) 6 6) [0, 0, 0, 0, 0, 0] := by
  have h := run_make_elt EInt 0 _ info_int rfl 33 Try.underlying33 6 (by omega) w
  have e : madeCells (Value.int .i64 0).cells (6 * EInt.size) = #[.int .i64 0, .int .i64 0, .int .i64 0, .int .i64 0, .int .i64 0, .int .i64 0] := by kernel_rfl
  rw [e] at h
  exact h
set_option maxHeartbeats 1000000 in
set_option maxRecDepth 100000 in
theorem ClassOf_any (a b o p : Int) (hp : p ≤ 9223372036854775807) (w : World) :
    Calls Try.prog 251 #[.agg #[.int .i64 a, .int .i64 b, .int .i64 o], .int .i64 p] w (RetInts w (classOf a b o p)) := by
  have HP : Hid (∀ W', Calls Try.prog 108 #[.agg #[.int .i64 a, .int .i64 b, .int .i64 o], .int .i64 p] W' fun e w' => e = .returned (.bool (posOk a b o p)) ∧ Below W'.heap.size W' w') := fun W' => PositionOk_any a b o p hp W'
  have HF : Hid (classOf a b o p = if posOk a b o p = true then cls a (holesTo p 49) else []) := rfl
  cases hpk : posOk a b o p
  · have HE : Hid (classOf a b o p = []) := by show _ = _; rw [HF.out, hpk]; rfl
    rw [hpk] at HP
    clear hpk
    go_enter Try.func251, Try.ntmps251
    go_wp2_with (go_at_call 108; refine (HP.out _).mono ?_; rintro e w' ⟨rfl, hb⟩; obtain ⟨hc, hf, hz, hy⟩ := bcell hb; clear hy; (try simp only [World.size_alloc, World.size_setCell, World.size_drew] at hz); (try have gQ0 : w.heap.size < w'.heap.size := by omega); (try have gQ1 : w.heap.size + 1 < w'.heap.size := by omega); (try have gQ2 : w.heap.size + 1 + 1 < w'.heap.size := by omega); (try have gQ3 : w.heap.size + 1 + 1 + 1 < w'.heap.size := by omega); (try have gQ4 : w.heap.size + 1 + 1 + 1 + 1 < w'.heap.size := by omega); (try have gQ5 : w.heap.size + 1 + 1 + 1 + 1 + 1 < w'.heap.size := by omega); (try have dQ0 : _ < w'.heap.size := Nat.lt_of_lt_of_le dQ0 (by omega)); (try have dQ1 : _ < w'.heap.size := Nat.lt_of_lt_of_le dQ1 (by omega)); (try have dQ2 : _ < w'.heap.size := Nat.lt_of_lt_of_le dQ2 (by omega)); (try have dQ3 : _ < w'.heap.size := Nat.lt_of_lt_of_le dQ3 (by omega)); (try have dQ4 : _ < w'.heap.size := Nat.lt_of_lt_of_le dQ4 (by omega)); (try have dQ5 : _ < w'.heap.size := Nat.lt_of_lt_of_le dQ5 (by omega)); (try (have hnQ := Nat.lt_of_succ_le hz; first | (have _x := dQ0; first | (have _x := dQ1; first | (have _x := dQ2; first | (have _x := dQ3; first | (have _x := dQ4; have dQ5 := hnQ) | have dQ4 := hnQ) | have dQ3 := hnQ) | have dQ2 := hnQ) | have dQ1 := hnQ) | have dQ0 := hnQ)); (try (have hmQ := Nat.lt_of_succ_lt (Nat.lt_of_succ_le hz); first | (have _x := dQ0; first | (have _x := dQ1; first | (have _x := dQ2; first | (have _x := dQ3; first | (have _x := dQ4; have dQ5 := hmQ) | have dQ4 := hmQ) | have dQ3 := hmQ) | have dQ2 := hmQ) | have dQ1 := hmQ) | have dQ0 := hmQ)))
    all_goals go_ret
    all_goals exact ⟨_, rfl, by rw [HE.out]; exact Own.emptyAny _ _ _ _, by (repeat' first | (with_reducible exact Below.refl _ _) | (with_reducible refine Below.alloc ?_ ?_ _) | (with_reducible refine Below.drew ?_) | (with_reducible refine Below.setCell ?_ ?_ _) | (with_reducible refine below_via (by assumption) ?_ ?_) | go_size)⟩
  have HE : Hid (classOf a b o p = cls a (holesTo p 49)) := by show _ = _; rw [HF.out, hpk]; rfl
  have hb0 := (posOk_bd hpk).1
  rw [hpk] at HP
  have hs1 := inR_iff.1 (boardOk_sides hb0).1
  have hfl : Hid ((holesOf a b o).filter (tb p) = holesTo p 49) := by show _ = _; rw [holesOf_49 hb0]; exact holes_filter hpk 49
  have HM : Hid (∀ k, k < (holesOf a b o).length → 0 ≤ gD (holesOf a b o) 0 k ∧ gD (holesOf a b o) 0 k ≤ 48) := fun k hk => by
    rw [holesOf_49 hb0] at hk ⊢
    have := holesTo_mem (gD_mem _ 0 k hk)
    omega
  have hl49 := holesOf_length a b o
  have hpb := pos_lt hpk
  have HMK : ∀ W, (Instr.makeSlice 33 (.int .i64 6) (.int .i64 6)).run Try.prog W = .ok (.slice (some ⟨W.heap.size, 0, none⟩) 6 6) (W.alloc (.cells #[.int .i64 0, .int .i64 0, .int .i64 0, .int .i64 0, .int .i64 0, .int .i64 0] 3)) := fun W => (run_make6 W).1
  have HMO := Lib.hid (fun W => (run_make6 W).2)
  clear hpk
  go_enter Try.func251, Try.ntmps251
  go_wp2_with (go_at_call 108; refine (HP.out _).mono ?_; rintro e w' ⟨rfl, hb⟩; obtain ⟨hc, hf, hz, hy⟩ := bcell hb; clear hy; (try simp only [World.size_alloc, World.size_setCell, World.size_drew] at hz); (try have gQ0 : w.heap.size < w'.heap.size := by omega); (try have gQ1 : w.heap.size + 1 < w'.heap.size := by omega); (try have gQ2 : w.heap.size + 1 + 1 < w'.heap.size := by omega); (try have gQ3 : w.heap.size + 1 + 1 + 1 < w'.heap.size := by omega); (try have gQ4 : w.heap.size + 1 + 1 + 1 + 1 < w'.heap.size := by omega); (try have gQ5 : w.heap.size + 1 + 1 + 1 + 1 + 1 < w'.heap.size := by omega); (try have dQ0 : _ < w'.heap.size := Nat.lt_of_lt_of_le dQ0 (by omega)); (try have dQ1 : _ < w'.heap.size := Nat.lt_of_lt_of_le dQ1 (by omega)); (try have dQ2 : _ < w'.heap.size := Nat.lt_of_lt_of_le dQ2 (by omega)); (try have dQ3 : _ < w'.heap.size := Nat.lt_of_lt_of_le dQ3 (by omega)); (try have dQ4 : _ < w'.heap.size := Nat.lt_of_lt_of_le dQ4 (by omega)); (try have dQ5 : _ < w'.heap.size := Nat.lt_of_lt_of_le dQ5 (by omega)); (try (have hnQ := Nat.lt_of_succ_le hz; first | (have _x := dQ0; first | (have _x := dQ1; first | (have _x := dQ2; first | (have _x := dQ3; first | (have _x := dQ4; have dQ5 := hnQ) | have dQ4 := hnQ) | have dQ3 := hnQ) | have dQ2 := hnQ) | have dQ1 := hnQ) | have dQ0 := hnQ)); (try (have hmQ := Nat.lt_of_succ_lt (Nat.lt_of_succ_le hz); first | (have _x := dQ0; first | (have _x := dQ1; first | (have _x := dQ2; first | (have _x := dQ3; first | (have _x := dQ4; have dQ5 := hmQ) | have dQ4 := hmQ) | have dQ3 := hmQ) | have dQ2 := hmQ) | have dQ1 := hmQ) | have dQ0 := hmQ)))
  obtain ⟨w2, rfl⟩ : ∃ w2 : World, w2 = w' := ⟨_, rfl⟩
  have hbx : ∀ j, w2.cell? ⟨w.heap.size, j, none⟩ = #[Value.int .i64 a, .int .i64 b, .int .i64 o][j]? := fun j => (hb.cell (by simp)).trans (by simp)
  have HW2 : Hid (Below w.heap.size w w2) := by show Below _ _ _; (repeat' first | (with_reducible exact Below.refl _ _) | (with_reducible refine Below.alloc ?_ ?_ _) | (with_reducible refine Below.drew ?_) | (with_reducible refine Below.setCell ?_ ?_ _) | (with_reducible refine below_via (by assumption) ?_ ?_) | go_size)
  have hz2 : w.heap.size < w2.heap.size := by omega
  have HO2 := Lib.hid (HMO.out w2)
  clear hc hf hb
  refine (HolesOf_any _ _ _ _).mono ?_
  rintro e w' ⟨vL, rfl, hownL, hb⟩
  generalize holesOf a b o = H at *
  have HL3 := Lib.hid (hownL.mono (B := w2.heap.size + 1) (by simp))
  have HO3 := Lib.hid (HO2.out.keep hb)
  obtain ⟨aL, capL, rfl, hmL, _⟩ := hownL.intG
  obtain ⟨w3, rfl⟩ : ∃ w3 : World, w3 = w' := ⟨_, rfl⟩
  have HB3 : Hid (Below w2.heap.size w2 w3) := by show Below _ _ _; (repeat' first | (with_reducible exact Below.refl _ _) | (with_reducible refine Below.alloc ?_ ?_ _) | (with_reducible refine Below.drew ?_) | (with_reducible refine Below.setCell ?_ ?_ _) | (with_reducible refine below_via (by assumption) ?_ ?_) | go_size)
  clear hb hownL
  have HC0 : Hid (cls a ((H.take 0).filter (tb p)) = [0, 0, 0, 0, 0, 0]) := rfl
  go_wp2_with fail
  go_loopw [18] (fun i wr => ∃ k : Nat, k ≤ H.length ∧ i = .int .i64 k ∧ Own EInt wr w2.heap.size (.slice (some ⟨w2.heap.size, 0, none⟩) 6 6) (cls a ((H.take k).filter (tb p))) ∧ Own EInt wr (w2.heap.size + 1) (.slice aL H.length capL) H ∧ Below w2.heap.size w2 wr) (fun i _ => H.length - (intOf i).toNat)
  case atStart => exact ⟨0, by omega, rfl, by rw [HC0.out]; exact HO3.out, HL3.out, HB3.out⟩
  case round =>
    obtain ⟨k, hk, rfl, hown, hownL, hbw⟩ := hrel
    have hz := hbw.size
    by_cases hlt : k < H.length
    rotate_left
    · obtain rfl : k = H.length := by omega
      have HR : Hid (classOf a b o p = cls a ((H.take H.length).filter (tb p))) := by show _ = _; rw [HE.out, List.take_length, hfl.out]
      go_wp2_with fail
      go_ret
      exact ⟨_, rfl, by rw [HR.out]; exact hown.mono (Nat.le_of_lt hz2), HW2.out.trans (hbw.mono (Nat.le_of_lt hz2))⟩
    have hbx' : ∀ j, wr.cell? ⟨w.heap.size, j, none⟩ = #[Value.int .i64 a, .int .i64 b, .int .i64 o][j]? := fun j => (hbw.cell (by exact hz2)).trans (hbx j)
    have gB : w.heap.size < wr.heap.size := by omega
    obtain ⟨a', c', hv', _, hgetL⟩ := hownL.intG
    obtain ⟨rfl, rfl⟩ : aL = a' ∧ capL = c' := by simpa using hv'
    obtain ⟨bL, rfl, hbL0, hbL, hcL⟩ := hgetL k hlt
    have hKb := HM.out k hlt
    have HTK := Lib.hid (take_gD H 0 k hlt)
    have HT : Hid (∀ W', Calls Try.prog 123 #[.int .i64 p, .int .i64 (gD H 0 k)] W' fun e w' => e = .returned (.bool (tb p (gD H 0 k))) ∧ W' = w') := fun W' => hasBit_any p _ hpb.1 hp hKb.1 W'
    clear hv' hgetL
    generalize gD H 0 k = K at *
    cases htb : tb p K
    · have HN : Hid (cls a ((H.take (k + 1)).filter (tb p)) = cls a ((H.take k).filter (tb p))) := by show _ = _; rw [HTK.out, List.filter_append]; simp [htb]
      rw [htb] at HT
      clear htb
      go_wp2_with (go_at_call 123; (with_reducible refine (HT.out _).mono ?_); rintro e w' ⟨rfl, rfl⟩)
      go_roundw
      case rel => exact ⟨k + 1, by omega, by go_num, by rw [HN.out]; exact hown, hownL, hbw⟩
      case measure => simp [intOf]; omega
    have HN : Hid (cls a ((H.take (k + 1)).filter (tb p)) = clsStep a (cls a ((H.take k).filter (tb p))) K) := by show _ = _; rw [HTK.out, List.filter_append, ← cls_snoc]; simp [htb]
    rw [htb] at HT
    have hbits : Bits6 (cls a ((H.take k).filter (tb p))) := cls_bits a _ _ bits6_zero
    generalize cls a ((H.take k).filter (tb p)) = c at *
    have m1 : 0 ≤ K % a := Int.emod_nonneg _ (by omega)
    have m2 : K % a < a := Int.emod_lt_of_pos _ (by omega)
    have m3 : 0 ≤ K / a := Int.ediv_nonneg hKb.1 (by omega)
    have m4 : K / a ≤ K := Int.ediv_le_self _ hKb.1
    obtain ⟨i1, hi1⟩ : ∃ i1 : Nat, (K % a + K / a) % 3 = (i1 : Int) := ⟨((K % a + K / a) % 3).toNat, by omega⟩
    obtain ⟨i2, hi2⟩ : ∃ i2 : Nat, (K % a + 2 * (K / a)) % 3 = (i2 : Int) := ⟨((K % a + 2 * (K / a)) % 3).toNat, by omega⟩
    have l1 : i1 < 3 := by omega
    have l2 : i2 < 3 := by omega
    have HST : Hid (clsStep a c K = flipAt (flipAt c i1) (3 + i2)) := by
      show _ = _
      unfold clsStep
      rw [hi1, hi2]
      rfl
    have e32 : ((3 : Int) + (i2 : Int)).toNat = 3 + i2 := by omega
    have hb1 := hbits.2 i1 (by omega)
    have hb2 := hbits.2 (3 + i2) (by omega)
    have hx1 := xor1 hb1
    have hx2 := xor1 hb2
    have HF1 : Hid (flipAt c i1 = c.set i1 (1 - gD c 0 i1)) := rfl
    have HF2 : Hid (flipAt (flipAt c i1) (3 + i2) = (flipAt c i1).set (3 + i2) (1 - gD c 0 (3 + i2))) := by
      show _ = _
      unfold flipAt
      rw [gD_setI _ _ _ _ (by rw [hbits.1]; omega), if_neg (by omega)]
    have hclen := hbits.1
    obtain ⟨_, _, hvc, _, hgetC⟩ := hown.intG
    obtain ⟨b9, e9, _, hbC, hcc1⟩ := hgetC i1 (by omega)
    obtain ⟨b8, e8, _, _, hcc2⟩ := hgetC (3 + i2) (by omega)
    simp only [Value.slice.injEq] at hvc
    rw [e9] at hvc
    obtain rfl : w2.heap.size = b9 := by simpa using hvc.1
    obtain rfl : w2.heap.size = b8 := by rw [e9] at e8; simpa using e8
    have HOW := Lib.hid hown
    have HOL := Lib.hid hownL
    have HCC1 := Lib.hid hcc1
    have HCC2 := Lib.hid hcc2
    have HHT := Lib.hid hi1
    clear hvc e8 e9 hgetC hown hownL hcc1 hcc2 htb hbits hclen
    have hcl6 : Hid (c.length = 6) := by
      have := HOW.out.intG
      obtain ⟨_, _, hv, _⟩ := this
      simp at hv
      show _ = _
      omega
    generalize gD c 0 i1 = v1 at *
    generalize gD c 0 (3 + i2) = v2 at *
    have gC : w2.heap.size < wr.heap.size := by omega
    go_wp2_with (first | (go_at_call 123; (with_reducible refine (HT.out _).mono ?_); rintro e w' ⟨rfl, rfl⟩) | ((with_reducible refine wp_region_qb ?_ ?_ (fun hq => ?_)); (focus kernel_rfl); (focus kernel_rfl); (repeat (go_big_quiet_step (fail))); refine wpQuiet_nil ?_; intro wq hBQ; have OWQ := Lib.hid (HOW.out.keep hBQ); have OLQ := Lib.hid (HOL.out.keep hBQ); have hq1 := (hBQ.cell (p := ⟨w2.heap.size, i1, none⟩) gC).trans HCC1.out; have hq2 := (hBQ.cell (p := ⟨w2.heap.size, 3 + i2, none⟩) gC).trans HCC2.out; have fzq : (∀ j, wq.frozen? ⟨w2.heap.size, j, none⟩ = false) := OWQ.out.fz (by have := hcl6.out; omega); have gCq : w2.heap.size < wq.heap.size := Nat.lt_of_lt_of_le gC hBQ.size; have ne12 : ¬ (3 + i2 = i1) := (by omega); have ne21 : ¬ (i1 = 3 + i2) := (by omega)))
    have S1 := OWQ.out.st1 rfl i1 (by have := hcl6.out; omega) (1 - v1) (.int .i64 (1 - v1)) rfl
    have S2 := S1.1.st1 rfl (3 + i2) (by have := hcl6.out; simp; omega) (1 - v2) (.int .i64 (1 - v2)) rfl
    go_roundw
    case rel => exact ⟨k + 1, by omega, by go_num, by rw [HN.out, HST.out, HF2.out, HF1.out]; exact S2.1, Own.setCell (a := ⟨w2.heap.size, 3 + i2, none⟩) (Own.setCell (a := ⟨w2.heap.size, i1, none⟩) OLQ.out (by simp [Value.ownBlock]; omega) _) (by simp [Value.ownBlock]; omega) _, ((hbw.trans (hBQ.mono hz)).setCell (by simp) _).setCell (by simp) _⟩
    case measure => simp [intOf]; omega
set_option maxHeartbeats 1000000 in
set_option maxRecDepth 100000 in
theorem sClassOf_any (a b o p : Int) (hp : p ≤ 9223372036854775807) (w : World) :
    Calls Try.prog 266 #[.agg #[.int .i64 a, .int .i64 b, .int .i64 o], .int .i64 p] w (RetInts w (classOf a b o p)) := by
  have HP : Hid (∀ W', Calls Try.prog 106 #[.agg #[.int .i64 a, .int .i64 b, .int .i64 o], .int .i64 p] W' fun e w' => e = .returned (.bool (posOk a b o p)) ∧ Below W'.heap.size W' w') := fun W' => sPositionOk_any a b o p hp W'
  have HF : Hid (classOf a b o p = if posOk a b o p = true then cls a (holesTo p 49) else []) := rfl
  cases hpk : posOk a b o p
  · have HE : Hid (classOf a b o p = []) := by show _ = _; rw [HF.out, hpk]; rfl
    rw [hpk] at HP
    clear hpk
    go_enter Try.func266, Try.ntmps266
    go_wp2_with (go_at_call 106; refine (HP.out _).mono ?_; rintro e w' ⟨rfl, hb⟩; obtain ⟨hc, hf, hz, hy⟩ := bcell hb; clear hy; (try simp only [World.size_alloc, World.size_setCell, World.size_drew] at hz); (try have gQ0 : w.heap.size < w'.heap.size := by omega); (try have gQ1 : w.heap.size + 1 < w'.heap.size := by omega); (try have gQ2 : w.heap.size + 1 + 1 < w'.heap.size := by omega); (try have gQ3 : w.heap.size + 1 + 1 + 1 < w'.heap.size := by omega); (try have gQ4 : w.heap.size + 1 + 1 + 1 + 1 < w'.heap.size := by omega); (try have gQ5 : w.heap.size + 1 + 1 + 1 + 1 + 1 < w'.heap.size := by omega); (try have dQ0 : _ < w'.heap.size := Nat.lt_of_lt_of_le dQ0 (by omega)); (try have dQ1 : _ < w'.heap.size := Nat.lt_of_lt_of_le dQ1 (by omega)); (try have dQ2 : _ < w'.heap.size := Nat.lt_of_lt_of_le dQ2 (by omega)); (try have dQ3 : _ < w'.heap.size := Nat.lt_of_lt_of_le dQ3 (by omega)); (try have dQ4 : _ < w'.heap.size := Nat.lt_of_lt_of_le dQ4 (by omega)); (try have dQ5 : _ < w'.heap.size := Nat.lt_of_lt_of_le dQ5 (by omega)); (try (have hnQ := Nat.lt_of_succ_le hz; first | (have _x := dQ0; first | (have _x := dQ1; first | (have _x := dQ2; first | (have _x := dQ3; first | (have _x := dQ4; have dQ5 := hnQ) | have dQ4 := hnQ) | have dQ3 := hnQ) | have dQ2 := hnQ) | have dQ1 := hnQ) | have dQ0 := hnQ)); (try (have hmQ := Nat.lt_of_succ_lt (Nat.lt_of_succ_le hz); first | (have _x := dQ0; first | (have _x := dQ1; first | (have _x := dQ2; first | (have _x := dQ3; first | (have _x := dQ4; have dQ5 := hmQ) | have dQ4 := hmQ) | have dQ3 := hmQ) | have dQ2 := hmQ) | have dQ1 := hmQ) | have dQ0 := hmQ)))
    all_goals go_ret
    all_goals exact ⟨_, rfl, by rw [HE.out]; exact Own.emptyAny _ _ _ _, by (repeat' first | (with_reducible exact Below.refl _ _) | (with_reducible refine Below.alloc ?_ ?_ _) | (with_reducible refine Below.drew ?_) | (with_reducible refine Below.setCell ?_ ?_ _) | (with_reducible refine below_via (by assumption) ?_ ?_) | go_size)⟩
  have HE : Hid (classOf a b o p = cls a (holesTo p 49)) := by show _ = _; rw [HF.out, hpk]; rfl
  have hb0 := (posOk_bd hpk).1
  rw [hpk] at HP
  have hs1 := inR_iff.1 (boardOk_sides hb0).1
  have HM : Hid (∀ k, k < (holesTo p 49).length → 0 ≤ gD (holesTo p 49) 0 k ∧ gD (holesTo p 49) 0 k ≤ 48) := fun k hk => by
    have := holesTo_mem (gD_mem _ 0 k hk)
    omega
  have hl49 := holesTo_length p 49
  have hpb := pos_lt hpk
  have HMK : ∀ W, (Instr.makeSlice 33 (.int .i64 6) (.int .i64 6)).run Try.prog W = .ok (.slice (some ⟨W.heap.size, 0, none⟩) 6 6) (W.alloc (.cells #[.int .i64 0, .int .i64 0, .int .i64 0, .int .i64 0, .int .i64 0, .int .i64 0] 3)) := fun W => (run_make6 W).1
  have HMO := Lib.hid (fun W => (run_make6 W).2)
  clear hpk
  go_enter Try.func266, Try.ntmps266
  go_wp2_with (go_at_call 106; refine (HP.out _).mono ?_; rintro e w' ⟨rfl, hb⟩; obtain ⟨hc, hf, hz, hy⟩ := bcell hb; clear hy; (try simp only [World.size_alloc, World.size_setCell, World.size_drew] at hz); (try have gQ0 : w.heap.size < w'.heap.size := by omega); (try have gQ1 : w.heap.size + 1 < w'.heap.size := by omega); (try have gQ2 : w.heap.size + 1 + 1 < w'.heap.size := by omega); (try have gQ3 : w.heap.size + 1 + 1 + 1 < w'.heap.size := by omega); (try have gQ4 : w.heap.size + 1 + 1 + 1 + 1 < w'.heap.size := by omega); (try have gQ5 : w.heap.size + 1 + 1 + 1 + 1 + 1 < w'.heap.size := by omega); (try have dQ0 : _ < w'.heap.size := Nat.lt_of_lt_of_le dQ0 (by omega)); (try have dQ1 : _ < w'.heap.size := Nat.lt_of_lt_of_le dQ1 (by omega)); (try have dQ2 : _ < w'.heap.size := Nat.lt_of_lt_of_le dQ2 (by omega)); (try have dQ3 : _ < w'.heap.size := Nat.lt_of_lt_of_le dQ3 (by omega)); (try have dQ4 : _ < w'.heap.size := Nat.lt_of_lt_of_le dQ4 (by omega)); (try have dQ5 : _ < w'.heap.size := Nat.lt_of_lt_of_le dQ5 (by omega)); (try (have hnQ := Nat.lt_of_succ_le hz; first | (have _x := dQ0; first | (have _x := dQ1; first | (have _x := dQ2; first | (have _x := dQ3; first | (have _x := dQ4; have dQ5 := hnQ) | have dQ4 := hnQ) | have dQ3 := hnQ) | have dQ2 := hnQ) | have dQ1 := hnQ) | have dQ0 := hnQ)); (try (have hmQ := Nat.lt_of_succ_lt (Nat.lt_of_succ_le hz); first | (have _x := dQ0; first | (have _x := dQ1; first | (have _x := dQ2; first | (have _x := dQ3; first | (have _x := dQ4; have dQ5 := hmQ) | have dQ4 := hmQ) | have dQ3 := hmQ) | have dQ2 := hmQ) | have dQ1 := hmQ) | have dQ0 := hmQ)))
  obtain ⟨w2, rfl⟩ : ∃ w2 : World, w2 = w' := ⟨_, rfl⟩
  have hbx : ∀ j, w2.cell? ⟨w.heap.size, j, none⟩ = #[Value.int .i64 a, .int .i64 b, .int .i64 o][j]? := fun j => (hb.cell (by simp)).trans (by simp)
  have HW2 : Hid (Below w.heap.size w w2) := by show Below _ _ _; (repeat' first | (with_reducible exact Below.refl _ _) | (with_reducible refine Below.alloc ?_ ?_ _) | (with_reducible refine Below.drew ?_) | (with_reducible refine Below.setCell ?_ ?_ _) | (with_reducible refine below_via (by assumption) ?_ ?_) | go_size)
  have hz2 : w.heap.size < w2.heap.size := by omega
  have HO2 := Lib.hid (HMO.out w2)
  clear hc hf hb
  refine (l02List_any _ hpb.1 hp _).mono ?_
  rintro e w' ⟨vL, rfl, hownL, hb⟩
  generalize holesTo p 49 = H at *
  have HL3 := Lib.hid (hownL.mono (B := w2.heap.size + 1) (by simp))
  have HO3 := Lib.hid (HO2.out.keep hb)
  obtain ⟨aL, capL, rfl, hmL, _⟩ := hownL.intG
  obtain ⟨w3, rfl⟩ : ∃ w3 : World, w3 = w' := ⟨_, rfl⟩
  have HB3 : Hid (Below w2.heap.size w2 w3) := by show Below _ _ _; (repeat' first | (with_reducible exact Below.refl _ _) | (with_reducible refine Below.alloc ?_ ?_ _) | (with_reducible refine Below.drew ?_) | (with_reducible refine Below.setCell ?_ ?_ _) | (with_reducible refine below_via (by assumption) ?_ ?_) | go_size)
  clear hb hownL
  have HC0 : Hid (cls a (H.take 0) = [0, 0, 0, 0, 0, 0]) := rfl
  go_wp2_with fail
  go_loopw [7] (fun i wr => ∃ k : Nat, k ≤ H.length ∧ i = .int .i64 k ∧ Own EInt wr w2.heap.size (.slice (some ⟨w2.heap.size, 0, none⟩) 6 6) (cls a (H.take k)) ∧ Own EInt wr (w2.heap.size + 1) (.slice aL H.length capL) H ∧ Below w2.heap.size w2 wr) (fun i _ => H.length - (intOf i).toNat)
  case atStart => exact ⟨0, by omega, rfl, by rw [HC0.out]; exact HO3.out, HL3.out, HB3.out⟩
  case round =>
    obtain ⟨k, hk, rfl, hown, hownL, hbw⟩ := hrel
    have hz := hbw.size
    by_cases hlt : k < H.length
    rotate_left
    · obtain rfl : k = H.length := by omega
      have HR : Hid (classOf a b o p = cls a (H.take H.length)) := by show _ = _; rw [HE.out, List.take_length]
      go_wp2_with fail
      go_ret
      exact ⟨_, rfl, by rw [HR.out]; exact hown.mono (Nat.le_of_lt hz2), HW2.out.trans (hbw.mono (Nat.le_of_lt hz2))⟩
    have hbx' : ∀ j, wr.cell? ⟨w.heap.size, j, none⟩ = #[Value.int .i64 a, .int .i64 b, .int .i64 o][j]? := fun j => (hbw.cell (by exact hz2)).trans (hbx j)
    have gB : w.heap.size < wr.heap.size := by omega
    obtain ⟨a', c', hv', _, hgetL⟩ := hownL.intG
    obtain ⟨rfl, rfl⟩ : aL = a' ∧ capL = c' := by simpa using hv'
    obtain ⟨bL, rfl, hbL0, hbL, hcL⟩ := hgetL k hlt
    have hKb := HM.out k hlt
    have HTK := Lib.hid (take_gD H 0 k hlt)
    clear hv' hgetL
    generalize gD H 0 k = K at *
    have HN : Hid (cls a (H.take (k + 1)) = clsStep a (cls a (H.take k)) K) := by show _ = _; rw [HTK.out, ← cls_snoc]
    have hbits : Bits6 (cls a (H.take k)) := cls_bits a _ _ bits6_zero
    generalize cls a (H.take k) = c at *
    have m1 : 0 ≤ K % a := Int.emod_nonneg _ (by omega)
    have m2 : K % a < a := Int.emod_lt_of_pos _ (by omega)
    have m3 : 0 ≤ K / a := Int.ediv_nonneg hKb.1 (by omega)
    have m4 : K / a ≤ K := Int.ediv_le_self _ hKb.1
    obtain ⟨i1, hi1⟩ : ∃ i1 : Nat, (K % a + K / a) % 3 = (i1 : Int) := ⟨((K % a + K / a) % 3).toNat, by omega⟩
    obtain ⟨i2, hi2⟩ : ∃ i2 : Nat, (K % a + 2 * (K / a)) % 3 = (i2 : Int) := ⟨((K % a + 2 * (K / a)) % 3).toNat, by omega⟩
    have l1 : i1 < 3 := by omega
    have l2 : i2 < 3 := by omega
    have HST : Hid (clsStep a c K = flipAt (flipAt c i1) (3 + i2)) := by
      show _ = _
      unfold clsStep
      rw [hi1, hi2]
      rfl
    have e32 : ((3 : Int) + (i2 : Int)).toNat = 3 + i2 := by omega
    have hb1 := hbits.2 i1 (by omega)
    have hb2 := hbits.2 (3 + i2) (by omega)
    have HF1 : Hid (flipAt c i1 = c.set i1 (1 - gD c 0 i1)) := rfl
    have HF2 : Hid (flipAt (flipAt c i1) (3 + i2) = (flipAt c i1).set (3 + i2) (1 - gD c 0 (3 + i2))) := by
      show _ = _
      unfold flipAt
      rw [gD_setI _ _ _ _ (by rw [hbits.1]; omega), if_neg (by omega)]
    have hclen := hbits.1
    obtain ⟨_, _, hvc, _, hgetC⟩ := hown.intG
    obtain ⟨b9, e9, _, hbC, hcc1⟩ := hgetC i1 (by omega)
    obtain ⟨b8, e8, _, _, hcc2⟩ := hgetC (3 + i2) (by omega)
    simp only [Value.slice.injEq] at hvc
    rw [e9] at hvc
    obtain rfl : w2.heap.size = b9 := by simpa using hvc.1
    obtain rfl : w2.heap.size = b8 := by rw [e9] at e8; simpa using e8
    have HOW := Lib.hid hown
    have HOL := Lib.hid hownL
    have HCC1 := Lib.hid hcc1
    have HCC2 := Lib.hid hcc2
    have HHT := Lib.hid hi1
    clear hvc e8 e9 hgetC hown hownL hcc1 hcc2 hbits hclen
    have hcl6 : Hid (c.length = 6) := by
      have := HOW.out.intG
      obtain ⟨_, _, hv, _⟩ := this
      simp at hv
      show _ = _
      omega
    generalize gD c 0 i1 = v1 at *
    generalize gD c 0 (3 + i2) = v2 at *
    have gC : w2.heap.size < wr.heap.size := by omega
    have hcLw := hcL
    go_wp2_with fail
    (with_reducible refine wp_region_qb ?_ ?_ (fun hq => ?_)); (focus kernel_rfl); (focus kernel_rfl); (repeat (go_big_quiet_step (fail))); refine wpQuiet_nil ?_
    intro wp hBP
    have HOW2 := Lib.hid (HOW.out.keep hBP)
    have HOL2 := Lib.hid (HOL.out.keep hBP)
    have hbx2 : ∀ j, wp.cell? ⟨w.heap.size, j, none⟩ = #[Value.int .i64 a, .int .i64 b, .int .i64 o][j]? := fun j => (hBP.cell (by exact gB)).trans (hbx' j)
    have hcL2 := (hBP.cell (p := ⟨bL, k, none⟩) hbL).trans hcL
    have gBp : w.heap.size < wp.heap.size := Nat.lt_of_lt_of_le gB hBP.size
    have gLp : bL < wp.heap.size := Nat.lt_of_lt_of_le hbL hBP.size
    have gCp : w2.heap.size < wp.heap.size := Nat.lt_of_lt_of_le gC hBP.size
    have HCP1 := Lib.hid ((hBP.cell (p := ⟨w2.heap.size, i1, none⟩) gC).trans HCC1.out)
    have HCP2 := Lib.hid ((hBP.cell (p := ⟨w2.heap.size, 3 + i2, none⟩) gC).trans HCC2.out)
    clear hq
    go_wp2_with fail
    (with_reducible refine wp_region_qb ?_ ?_ (fun hq => ?_)); (focus kernel_rfl); (focus kernel_rfl); (repeat (go_big_quiet_step (fail))); refine wpQuiet_nil ?_
    intro wq hBQ
    have OWQ := Lib.hid (HOW2.out.keep hBQ)
    have OLQ := Lib.hid (HOL2.out.keep hBQ)
    have hq1 := (hBQ.cell (p := ⟨w2.heap.size, i1, none⟩) gCp).trans HCP1.out
    have hq2 := (hBQ.cell (p := ⟨w2.heap.size, 3 + i2, none⟩) gCp).trans HCP2.out
    have fzq : ∀ j, wq.frozen? ⟨w2.heap.size, j, none⟩ = false := OWQ.out.fz (by have := hcl6.out; omega)
    have gCq : w2.heap.size < wq.heap.size := Nat.lt_of_lt_of_le gCp hBQ.size
    have ne12 : ¬ (3 + i2 = i1) := by omega
    have ne21 : ¬ (i1 = 3 + i2) := by omega
    have HBQ := Lib.hid ((hbw.trans (hBP.mono hz)).trans (hBQ.mono (Nat.le_trans hz hBP.size)))
    clear hq hBQ hBP
    go_wp2_with fail
    have S1 := OWQ.out.st1 rfl i1 (by have := hcl6.out; omega) (1 - v1) (.int .i64 (1 - v1)) rfl
    have S2 := S1.1.st1 rfl (3 + i2) (by have := hcl6.out; simp; omega) (1 - v2) (.int .i64 (1 - v2)) rfl
    go_roundw
    case rel => exact ⟨k + 1, by omega, by go_num, by rw [HN.out, HST.out, HF2.out, HF1.out]; exact S2.1, Own.setCell (a := ⟨w2.heap.size, 3 + i2, none⟩) (Own.setCell (a := ⟨w2.heap.size, i1, none⟩) OLQ.out (by simp [Value.ownBlock]; omega) _) (by simp [Value.ownBlock]; omega) _, (HBQ.out.setCell (by simp) _).setCell (by simp) _⟩
    case measure => simp [intOf]; omega
end Go.Proofs.Ytfpofhkggojaoaa
