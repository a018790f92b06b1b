/- ClK: several texts in one (Keys, Keys2, Keys3). Conditions: those that each theorem names. -/
import Derived.Test.YtfmplmlilmalpaaGreatSLines
import Derived.Test.YtfmplmlilmalpaaGreatClO
import Derived.Test.YtfmplmlilmalpaaGreatBitsG
import Derived.StillTail
import Derived.Deep.RegionWith
set_option linter.unusedVariables false
set_option linter.unusedSimpArgs false
namespace Peg
def flipAt (c : List Int) (i : Nat) : List Int := c.set i (1 - gD c 0 i)
def clsStep (a : Int) (c : List Int) (k : Int) : List Int := flipAt (flipAt c ((k % a + k / a) % 3).toNat) (3 + (k % a + 2 * (k / a)) % 3).toNat
def cls (a : Int) (l : List Int) : List Int := l.foldl (clsStep a) [0, 0, 0, 0, 0, 0]
def classOf (a b o p : Int) : List Int := if posOk a b o p = true then cls a (holesTo p 49) else []
def Bits6 (c : List Int) : Prop := c.length = 6 ∧ ∀ i, i < 6 → gD c 0 i = 0 ∨ gD c 0 i = 1
theorem gD_setI (l : List Int) (x : Int) (k i : Nat) (hk : k < l.length) : gD (l.set k x) 0 i = if i = k then x else gD l 0 i := by
  unfold gD
  by_cases h : i = k
  · subst h; simp [hk]
  · simp [h, List.getElem?_set, Ne.symm h]
theorem Bits6.flip {c : List Int} (h : Bits6 c) {i : Nat} (hi : i < 6) : Bits6 (flipAt c i) := by
  refine ⟨by simp [flipAt, h.1], fun j hj => ?_⟩
  unfold flipAt
  rw [gD_setI _ _ _ _ (by rw [h.1]; exact hi)]
  split
  · have := h.2 i hi; omega
  · exact h.2 j hj
theorem cls_bits (a : Int) : ∀ (l : List Int) (c : List Int), Bits6 c → Bits6 (l.foldl (clsStep a) c) := by
  intro l
  induction l with
  | nil => intro c h; exact h
  | cons x l ih =>
    intro c h
    exact ih _ ((h.flip (by omega)).flip (by omega))
theorem bits6_zero : Bits6 [0, 0, 0, 0, 0, 0] := by
  refine ⟨rfl, fun i hi => .inl ?_⟩
  have : i = 0 ∨ i = 1 ∨ i = 2 ∨ i = 3 ∨ i = 4 ∨ i = 5 := by omega
  rcases this with rfl | rfl | rfl | rfl | rfl | rfl <;> rfl
theorem cls_snoc (a : Int) (l : List Int) (k : Int) : cls a (l ++ [k]) = clsStep a (cls a l) k := by simp [cls]
/-- the pegs of a position are the holes of the board that hold one -/
theorem holes_filter {a b o p : Int} (h : posOk a b o p = true) (k : Nat) : (holesTo o k).filter (tb p) = holesTo p k := by
  have h2 := (posOk_bd h).2.2
  have key : ∀ i : Nat, tb p (i : Int) = true → tb o (i : Int) = true := by
    intro i hi
    have h3 := band_tb p o i
    rw [h2] at h3
    have e1 : tb p (i : Int) = p.toNat.testBit i := by simp [tb]
    have e2 : tb o (i : Int) = o.toNat.testBit i := by simp [tb]
    rw [e1] at hi
    rw [e2]
    rw [hi] at h3
    simpa using h3.symm
  unfold holesTo
  rw [List.filter_map, List.filter_filter]
  congr 1
  apply List.filter_congr
  intro i _
  show (tb p (i : Int) && tb o (i : Int)) = tb p (i : Int)
  cases ht : tb p (i : Int)
  · rfl
  · rw [key i ht]; rfl
end Peg
namespace Go.Proofs.YtfmplmlilmalpaaGreat
open Go.ChangeShapes Go.WideShapes Go.ChangeAt Go.RowKit Peg Go.Sort
theorem xor1 {v : Int} (h : v = 0 ∨ v = 1) : bits BinOp.xor IntKind.i64 v 1 = 1 - v := by
  rcases h with rfl | rfl <;> decide
theorem run_make6 (w : World) : (Instr.makeSlice 29 (.int .i64 6) (.int .i64 6)).run Tryz.prog w = .ok (.slice (some ⟨w.heap.size, 0, none⟩) 6 6) (w.alloc (.cells #[.int .i64 0, .int .i64 0, .int .i64 0, .int .i64 0, .int .i64 0, .int .i64 0] 3)) ∧
    Own EInt (w.alloc (.cells #[.int .i64 0, .int .i64 0, .int .i64 0, .int .i64 0, .int .i64 0, .int .i64 0] 3)) w.heap.size (.slice (some ⟨w.heap.size, 0, none⟩) 6 6) [0, 0, 0, 0, 0, 0] := by
  have h := run_make_elt EInt 0 _ info_int rfl 29 Tryz.underlying29 6 (by omega) w
  have e : madeCells (Value.int .i64 0).cells (6 * EInt.size) = #[.int .i64 0, .int .i64 0, .int .i64 0, .int .i64 0, .int .i64 0, .int .i64 0] := by kernel_rfl
  rw [e] at h
  exact h
set_option maxHeartbeats 1000000 in
set_option maxRecDepth 100000 in
theorem ClassOf_any (a b o p : Int) (hp : p ≤ 9223372036854775807) (w : World) :
    Calls Tryz.prog 90 #[.agg #[.int .i64 a, .int .i64 b, .int .i64 o], .int .i64 p] w (RetInts w (classOf a b o p)) := by
  have HP : Hid (∀ W', Calls Tryz.prog 50 #[.agg #[.int .i64 a, .int .i64 b, .int .i64 o], .int .i64 p] W' fun e w' => e = .returned (.bool (posOk a b o p)) ∧ Below W'.heap.size W' w') := fun W' => PositionOk_any a b o p hp W'
  have HF : Hid (classOf a b o p = if posOk a b o p = true then cls a (holesTo p 49) else []) := rfl
  cases hpk : posOk a b o p
  · have HE : Hid (classOf a b o p = []) := by show _ = _; rw [HF.out, hpk]; rfl
    rw [hpk] at HP
    clear hpk
    go_enter Tryz.func90, Tryz.ntmps90
    go_wp2_with (go_at_call 50; refine (HP.out _).mono ?_; rintro e w' ⟨rfl, hb⟩; obtain ⟨hc, hf, hz, hy⟩ := bcell hb; clear hy; (try simp only [World.size_alloc, World.size_setCell, World.size_drew] at hz); (try have gQ0 : w.heap.size < w'.heap.size := by omega); (try have gQ1 : w.heap.size + 1 < w'.heap.size := by omega); (try have gQ2 : w.heap.size + 1 + 1 < w'.heap.size := by omega); (try have gQ3 : w.heap.size + 1 + 1 + 1 < w'.heap.size := by omega); (try have gQ4 : w.heap.size + 1 + 1 + 1 + 1 < w'.heap.size := by omega); (try have gQ5 : w.heap.size + 1 + 1 + 1 + 1 + 1 < w'.heap.size := by omega); (try have dQ0 : _ < w'.heap.size := Nat.lt_of_lt_of_le dQ0 (by omega)); (try have dQ1 : _ < w'.heap.size := Nat.lt_of_lt_of_le dQ1 (by omega)); (try have dQ2 : _ < w'.heap.size := Nat.lt_of_lt_of_le dQ2 (by omega)); (try have dQ3 : _ < w'.heap.size := Nat.lt_of_lt_of_le dQ3 (by omega)); (try have dQ4 : _ < w'.heap.size := Nat.lt_of_lt_of_le dQ4 (by omega)); (try have dQ5 : _ < w'.heap.size := Nat.lt_of_lt_of_le dQ5 (by omega)); (try (have hnQ := Nat.lt_of_succ_le hz; first | (have _x := dQ0; first | (have _x := dQ1; first | (have _x := dQ2; first | (have _x := dQ3; first | (have _x := dQ4; have dQ5 := hnQ) | have dQ4 := hnQ) | have dQ3 := hnQ) | have dQ2 := hnQ) | have dQ1 := hnQ) | have dQ0 := hnQ)); (try (have hmQ := Nat.lt_of_succ_lt (Nat.lt_of_succ_le hz); first | (have _x := dQ0; first | (have _x := dQ1; first | (have _x := dQ2; first | (have _x := dQ3; first | (have _x := dQ4; have dQ5 := hmQ) | have dQ4 := hmQ) | have dQ3 := hmQ) | have dQ2 := hmQ) | have dQ1 := hmQ) | have dQ0 := hmQ)))
    all_goals go_ret
    all_goals exact ⟨_, rfl, by rw [HE.out]; exact Own.emptyAny _ _ _ _, by (repeat' first | (with_reducible exact Below.refl _ _) | (with_reducible refine Below.alloc ?_ ?_ _) | (with_reducible refine Below.drew ?_) | (with_reducible refine Below.setCell ?_ ?_ _) | (with_reducible refine below_via (by assumption) ?_ ?_) | go_size)⟩
  have HE : Hid (classOf a b o p = cls a (holesTo p 49)) := by show _ = _; rw [HF.out, hpk]; rfl
  have hb0 := (posOk_bd hpk).1
  rw [hpk] at HP
  have hs1 := inR_iff.1 (boardOk_sides hb0).1
  have hfl : Hid ((holesOf a b o).filter (tb p) = holesTo p 49) := by show _ = _; rw [holesOf_49 hb0]; exact holes_filter hpk 49
  have HM : Hid (∀ k, k < (holesOf a b o).length → 0 ≤ gD (holesOf a b o) 0 k ∧ gD (holesOf a b o) 0 k ≤ 48) := fun k hk => by
    rw [holesOf_49 hb0] at hk ⊢
    have := holesTo_mem (gD_mem _ 0 k hk)
    omega
  have hl49 := holesOf_length a b o
  have hpb := pos_lt hpk
  have HMK : ∀ W, (Instr.makeSlice 29 (.int .i64 6) (.int .i64 6)).run Tryz.prog W = .ok (.slice (some ⟨W.heap.size, 0, none⟩) 6 6) (W.alloc (.cells #[.int .i64 0, .int .i64 0, .int .i64 0, .int .i64 0, .int .i64 0, .int .i64 0] 3)) := fun W => (run_make6 W).1
  have HMO := Lib.hid (fun W => (run_make6 W).2)
  clear hpk
  go_enter Tryz.func90, Tryz.ntmps90
  go_wp2_with (go_at_call 50; refine (HP.out _).mono ?_; rintro e w' ⟨rfl, hb⟩; obtain ⟨hc, hf, hz, hy⟩ := bcell hb; clear hy; (try simp only [World.size_alloc, World.size_setCell, World.size_drew] at hz); (try have gQ0 : w.heap.size < w'.heap.size := by omega); (try have gQ1 : w.heap.size + 1 < w'.heap.size := by omega); (try have gQ2 : w.heap.size + 1 + 1 < w'.heap.size := by omega); (try have gQ3 : w.heap.size + 1 + 1 + 1 < w'.heap.size := by omega); (try have gQ4 : w.heap.size + 1 + 1 + 1 + 1 < w'.heap.size := by omega); (try have gQ5 : w.heap.size + 1 + 1 + 1 + 1 + 1 < w'.heap.size := by omega); (try have dQ0 : _ < w'.heap.size := Nat.lt_of_lt_of_le dQ0 (by omega)); (try have dQ1 : _ < w'.heap.size := Nat.lt_of_lt_of_le dQ1 (by omega)); (try have dQ2 : _ < w'.heap.size := Nat.lt_of_lt_of_le dQ2 (by omega)); (try have dQ3 : _ < w'.heap.size := Nat.lt_of_lt_of_le dQ3 (by omega)); (try have dQ4 : _ < w'.heap.size := Nat.lt_of_lt_of_le dQ4 (by omega)); (try have dQ5 : _ < w'.heap.size := Nat.lt_of_lt_of_le dQ5 (by omega)); (try (have hnQ := Nat.lt_of_succ_le hz; first | (have _x := dQ0; first | (have _x := dQ1; first | (have _x := dQ2; first | (have _x := dQ3; first | (have _x := dQ4; have dQ5 := hnQ) | have dQ4 := hnQ) | have dQ3 := hnQ) | have dQ2 := hnQ) | have dQ1 := hnQ) | have dQ0 := hnQ)); (try (have hmQ := Nat.lt_of_succ_lt (Nat.lt_of_succ_le hz); first | (have _x := dQ0; first | (have _x := dQ1; first | (have _x := dQ2; first | (have _x := dQ3; first | (have _x := dQ4; have dQ5 := hmQ) | have dQ4 := hmQ) | have dQ3 := hmQ) | have dQ2 := hmQ) | have dQ1 := hmQ) | have dQ0 := hmQ)))
  obtain ⟨w2, rfl⟩ : ∃ w2 : World, w2 = w' := ⟨_, rfl⟩
  have hbx : ∀ j, w2.cell? ⟨w.heap.size, j, none⟩ = #[Value.int .i64 a, .int .i64 b, .int .i64 o][j]? := fun j => (hb.cell (by simp)).trans (by simp)
  have HW2 : Hid (Below w.heap.size w w2) := by show Below _ _ _; (repeat' first | (with_reducible exact Below.refl _ _) | (with_reducible refine Below.alloc ?_ ?_ _) | (with_reducible refine Below.drew ?_) | (with_reducible refine Below.setCell ?_ ?_ _) | (with_reducible refine below_via (by assumption) ?_ ?_) | go_size)
  have hz2 : w.heap.size < w2.heap.size := by omega
  have HO2 := Lib.hid (HMO.out w2)
  clear hc hf hb
  refine (HolesOf_any _ _ _ _).mono ?_
  rintro e w' ⟨vL, rfl, hownL, hb⟩
  generalize holesOf a b o = H at *
  have HL3 := Lib.hid (hownL.mono (B := w2.heap.size + 1) (by simp))
  have HO3 := Lib.hid (HO2.out.keep hb)
  obtain ⟨aL, capL, rfl, hmL, _⟩ := hownL.intG
  obtain ⟨w3, rfl⟩ : ∃ w3 : World, w3 = w' := ⟨_, rfl⟩
  have HB3 : Hid (Below w2.heap.size w2 w3) := by show Below _ _ _; (repeat' first | (with_reducible exact Below.refl _ _) | (with_reducible refine Below.alloc ?_ ?_ _) | (with_reducible refine Below.drew ?_) | (with_reducible refine Below.setCell ?_ ?_ _) | (with_reducible refine below_via (by assumption) ?_ ?_) | go_size)
  clear hb hownL
  have HC0 : Hid (cls a ((H.take 0).filter (tb p)) = [0, 0, 0, 0, 0, 0]) := rfl
  go_wp2_with fail
  go_loopw [18] (fun i wr => ∃ k : Nat, k ≤ H.length ∧ i = .int .i64 k ∧ Own EInt wr w2.heap.size (.slice (some ⟨w2.heap.size, 0, none⟩) 6 6) (cls a ((H.take k).filter (tb p))) ∧ Own EInt wr (w2.heap.size + 1) (.slice aL H.length capL) H ∧ Below w2.heap.size w2 wr) (fun i _ => H.length - (intOf i).toNat)
  case atStart => exact ⟨0, by omega, rfl, by rw [HC0.out]; exact HO3.out, HL3.out, HB3.out⟩
  case round =>
    obtain ⟨k, hk, rfl, hown, hownL, hbw⟩ := hrel
    have hz := hbw.size
    by_cases hlt : k < H.length
    rotate_left
    · obtain rfl : k = H.length := by omega
      have HR : Hid (classOf a b o p = cls a ((H.take H.length).filter (tb p))) := by show _ = _; rw [HE.out, List.take_length, hfl.out]
      go_wp2_with fail
      go_ret
      exact ⟨_, rfl, by rw [HR.out]; exact hown.mono (Nat.le_of_lt hz2), HW2.out.trans (hbw.mono (Nat.le_of_lt hz2))⟩
    have hbx' : ∀ j, wr.cell? ⟨w.heap.size, j, none⟩ = #[Value.int .i64 a, .int .i64 b, .int .i64 o][j]? := fun j => (hbw.cell (by exact hz2)).trans (hbx j)
    have gB : w.heap.size < wr.heap.size := by omega
    obtain ⟨a', c', hv', _, hgetL⟩ := hownL.intG
    obtain ⟨rfl, rfl⟩ : aL = a' ∧ capL = c' := by simpa using hv'
    obtain ⟨bL, rfl, hbL0, hbL, hcL⟩ := hgetL k hlt
    have hKb := HM.out k hlt
    have HTK := Lib.hid (take_gD H 0 k hlt)
    have HT : Hid (∀ W', Calls Tryz.prog 89 #[.int .i64 p, .int .i64 (gD H 0 k)] W' fun e w' => e = .returned (.bool (tb p (gD H 0 k))) ∧ W' = w') := fun W' => hasBit_any p _ hpb.1 hp hKb.1 W'
    clear hv' hgetL
    generalize gD H 0 k = K at *
    cases htb : tb p K
    · have HN : Hid (cls a ((H.take (k + 1)).filter (tb p)) = cls a ((H.take k).filter (tb p))) := by show _ = _; rw [HTK.out, List.filter_append]; simp [htb]
      rw [htb] at HT
      clear htb
      go_wp2_with (go_at_call 89; (with_reducible refine (HT.out _).mono ?_); rintro e w' ⟨rfl, rfl⟩)
      go_roundw
      case rel => exact ⟨k + 1, by omega, by go_num, by rw [HN.out]; exact hown, hownL, hbw⟩
      case measure => simp [intOf]; omega
    have HN : Hid (cls a ((H.take (k + 1)).filter (tb p)) = clsStep a (cls a ((H.take k).filter (tb p))) K) := by show _ = _; rw [HTK.out, List.filter_append, ← cls_snoc]; simp [htb]
    rw [htb] at HT
    have hbits : Bits6 (cls a ((H.take k).filter (tb p))) := cls_bits a _ _ bits6_zero
    generalize cls a ((H.take k).filter (tb p)) = c at *
    have m1 : 0 ≤ K % a := Int.emod_nonneg _ (by omega)
    have m2 : K % a < a := Int.emod_lt_of_pos _ (by omega)
    have m3 : 0 ≤ K / a := Int.ediv_nonneg hKb.1 (by omega)
    have m4 : K / a ≤ K := Int.ediv_le_self _ hKb.1
    obtain ⟨i1, hi1⟩ : ∃ i1 : Nat, (K % a + K / a) % 3 = (i1 : Int) := ⟨((K % a + K / a) % 3).toNat, by omega⟩
    obtain ⟨i2, hi2⟩ : ∃ i2 : Nat, (K % a + 2 * (K / a)) % 3 = (i2 : Int) := ⟨((K % a + 2 * (K / a)) % 3).toNat, by omega⟩
    have l1 : i1 < 3 := by omega
    have l2 : i2 < 3 := by omega
    have HST : Hid (clsStep a c K = flipAt (flipAt c i1) (3 + i2)) := by
      show _ = _
      unfold clsStep
      rw [hi1, hi2]
      rfl
    have e32 : ((3 : Int) + (i2 : Int)).toNat = 3 + i2 := by omega
    have hb1 := hbits.2 i1 (by omega)
    have hb2 := hbits.2 (3 + i2) (by omega)
    have hx1 := xor1 hb1
    have hx2 := xor1 hb2
    have HF1 : Hid (flipAt c i1 = c.set i1 (1 - gD c 0 i1)) := rfl
    have HF2 : Hid (flipAt (flipAt c i1) (3 + i2) = (flipAt c i1).set (3 + i2) (1 - gD c 0 (3 + i2))) := by
      show _ = _
      unfold flipAt
      rw [gD_setI _ _ _ _ (by rw [hbits.1]; omega), if_neg (by omega)]
    have hclen := hbits.1
    obtain ⟨_, _, hvc, _, hgetC⟩ := hown.intG
    obtain ⟨b9, e9, _, hbC, hcc1⟩ := hgetC i1 (by omega)
    obtain ⟨b8, e8, _, _, hcc2⟩ := hgetC (3 + i2) (by omega)
    simp only [Value.slice.injEq] at hvc
    rw [e9] at hvc
    obtain rfl : w2.heap.size = b9 := by simpa using hvc.1
    obtain rfl : w2.heap.size = b8 := by rw [e9] at e8; simpa using e8
    have HOW := Lib.hid hown
    have HOL := Lib.hid hownL
    have HCC1 := Lib.hid hcc1
    have HCC2 := Lib.hid hcc2
    have HHT := Lib.hid hi1
    clear hvc e8 e9 hgetC hown hownL hcc1 hcc2 htb hbits hclen
    have hcl6 : Hid (c.length = 6) := by
      have := HOW.out.intG
      obtain ⟨_, _, hv, _⟩ := this
      simp at hv
      show _ = _
      omega
    generalize gD c 0 i1 = v1 at *
    generalize gD c 0 (3 + i2) = v2 at *
    have gC : w2.heap.size < wr.heap.size := by omega
    go_wp2_with (first | (go_at_call 89; (with_reducible refine (HT.out _).mono ?_); rintro e w' ⟨rfl, rfl⟩) | ((with_reducible refine wp_region_qb ?_ ?_ (fun hq => ?_)); (focus kernel_rfl); (focus kernel_rfl); (repeat (go_big_quiet_step (fail))); refine wpQuiet_nil ?_; intro wq hBQ; have OWQ := Lib.hid (HOW.out.keep hBQ); have OLQ := Lib.hid (HOL.out.keep hBQ); have hq1 := (hBQ.cell (p := ⟨w2.heap.size, i1, none⟩) gC).trans HCC1.out; have hq2 := (hBQ.cell (p := ⟨w2.heap.size, 3 + i2, none⟩) gC).trans HCC2.out; have fzq : (∀ j, wq.frozen? ⟨w2.heap.size, j, none⟩ = false) := OWQ.out.fz (by have := hcl6.out; omega); have gCq : w2.heap.size < wq.heap.size := Nat.lt_of_lt_of_le gC hBQ.size; have ne12 : ¬ (3 + i2 = i1) := (by omega); have ne21 : ¬ (i1 = 3 + i2) := (by omega)))
    have S1 := OWQ.out.st1 rfl i1 (by have := hcl6.out; omega) (1 - v1) (.int .i64 (1 - v1)) rfl
    have S2 := S1.1.st1 rfl (3 + i2) (by have := hcl6.out; simp; omega) (1 - v2) (.int .i64 (1 - v2)) rfl
    go_roundw
    case rel => exact ⟨k + 1, by omega, by go_num, by rw [HN.out, HST.out, HF2.out, HF1.out]; exact S2.1, Own.setCell (a := ⟨w2.heap.size, 3 + i2, none⟩) (Own.setCell (a := ⟨w2.heap.size, i1, none⟩) OLQ.out (by simp [Value.ownBlock]; omega) _) (by simp [Value.ownBlock]; omega) _, ((hbw.trans (hBQ.mono hz)).setCell (by simp) _).setCell (by simp) _⟩
    case measure => simp [intOf]; omega
set_option maxHeartbeats 1000000 in
set_option maxRecDepth 100000 in
theorem sClassOf_any (a b o p : Int) (hp : p ≤ 9223372036854775807) (w : World) :
    Calls Tryz.prog 116 #[.agg #[.int .i64 a, .int .i64 b, .int .i64 o], .int .i64 p] w (RetInts w (classOf a b o p)) := by
  have HP : Hid (∀ W', Calls Tryz.prog 40 #[.agg #[.int .i64 a, .int .i64 b, .int .i64 o], .int .i64 p] W' fun e w' => e = .returned (.bool (posOk a b o p)) ∧ Below W'.heap.size W' w') := fun W' => sPositionOk_any a b o p hp W'
  have HF : Hid (classOf a b o p = if posOk a b o p = true then cls a (holesTo p 49) else []) := rfl
  cases hpk : posOk a b o p
  · have HE : Hid (classOf a b o p = []) := by show _ = _; rw [HF.out, hpk]; rfl
    rw [hpk] at HP
    clear hpk
    go_enter Tryz.func116, Tryz.ntmps116
    go_wp2_with (go_at_call 40; refine (HP.out _).mono ?_; rintro e w' ⟨rfl, hb⟩; obtain ⟨hc, hf, hz, hy⟩ := bcell hb; clear hy; (try simp only [World.size_alloc, World.size_setCell, World.size_drew] at hz); (try have gQ0 : w.heap.size < w'.heap.size := by omega); (try have gQ1 : w.heap.size + 1 < w'.heap.size := by omega); (try have gQ2 : w.heap.size + 1 + 1 < w'.heap.size := by omega); (try have gQ3 : w.heap.size + 1 + 1 + 1 < w'.heap.size := by omega); (try have gQ4 : w.heap.size + 1 + 1 + 1 + 1 < w'.heap.size := by omega); (try have gQ5 : w.heap.size + 1 + 1 + 1 + 1 + 1 < w'.heap.size := by omega); (try have dQ0 : _ < w'.heap.size := Nat.lt_of_lt_of_le dQ0 (by omega)); (try have dQ1 : _ < w'.heap.size := Nat.lt_of_lt_of_le dQ1 (by omega)); (try have dQ2 : _ < w'.heap.size := Nat.lt_of_lt_of_le dQ2 (by omega)); (try have dQ3 : _ < w'.heap.size := Nat.lt_of_lt_of_le dQ3 (by omega)); (try have dQ4 : _ < w'.heap.size := Nat.lt_of_lt_of_le dQ4 (by omega)); (try have dQ5 : _ < w'.heap.size := Nat.lt_of_lt_of_le dQ5 (by omega)); (try (have hnQ := Nat.lt_of_succ_le hz; first | (have _x := dQ0; first | (have _x := dQ1; first | (have _x := dQ2; first | (have _x := dQ3; first | (have _x := dQ4; have dQ5 := hnQ) | have dQ4 := hnQ) | have dQ3 := hnQ) | have dQ2 := hnQ) | have dQ1 := hnQ) | have dQ0 := hnQ)); (try (have hmQ := Nat.lt_of_succ_lt (Nat.lt_of_succ_le hz); first | (have _x := dQ0; first | (have _x := dQ1; first | (have _x := dQ2; first | (have _x := dQ3; first | (have _x := dQ4; have dQ5 := hmQ) | have dQ4 := hmQ) | have dQ3 := hmQ) | have dQ2 := hmQ) | have dQ1 := hmQ) | have dQ0 := hmQ)))
    all_goals go_ret
    all_goals exact ⟨_, rfl, by rw [HE.out]; exact Own.emptyAny _ _ _ _, by (repeat' first | (with_reducible exact Below.refl _ _) | (with_reducible refine Below.alloc ?_ ?_ _) | (with_reducible refine Below.drew ?_) | (with_reducible refine Below.setCell ?_ ?_ _) | (with_reducible refine below_via (by assumption) ?_ ?_) | go_size)⟩
  have HE : Hid (classOf a b o p = cls a (holesTo p 49)) := by show _ = _; rw [HF.out, hpk]; rfl
  have hb0 := (posOk_bd hpk).1
  rw [hpk] at HP
  have hs1 := inR_iff.1 (boardOk_sides hb0).1
  have HM : Hid (∀ k, k < (holesTo p 49).length → 0 ≤ gD (holesTo p 49) 0 k ∧ gD (holesTo p 49) 0 k ≤ 48) := fun k hk => by
    have := holesTo_mem (gD_mem _ 0 k hk)
    omega
  have hl49 := holesTo_length p 49
  have hpb := pos_lt hpk
  have HMK : ∀ W, (Instr.makeSlice 29 (.int .i64 6) (.int .i64 6)).run Tryz.prog W = .ok (.slice (some ⟨W.heap.size, 0, none⟩) 6 6) (W.alloc (.cells #[.int .i64 0, .int .i64 0, .int .i64 0, .int .i64 0, .int .i64 0, .int .i64 0] 3)) := fun W => (run_make6 W).1
  have HMO := Lib.hid (fun W => (run_make6 W).2)
  clear hpk
  go_enter Tryz.func116, Tryz.ntmps116
  go_wp2_with (go_at_call 40; refine (HP.out _).mono ?_; rintro e w' ⟨rfl, hb⟩; obtain ⟨hc, hf, hz, hy⟩ := bcell hb; clear hy; (try simp only [World.size_alloc, World.size_setCell, World.size_drew] at hz); (try have gQ0 : w.heap.size < w'.heap.size := by omega); (try have gQ1 : w.heap.size + 1 < w'.heap.size := by omega); (try have gQ2 : w.heap.size + 1 + 1 < w'.heap.size := by omega); (try have gQ3 : w.heap.size + 1 + 1 + 1 < w'.heap.size := by omega); (try have gQ4 : w.heap.size + 1 + 1 + 1 + 1 < w'.heap.size := by omega); (try have gQ5 : w.heap.size + 1 + 1 + 1 + 1 + 1 < w'.heap.size := by omega); (try have dQ0 : _ < w'.heap.size := Nat.lt_of_lt_of_le dQ0 (by omega)); (try have dQ1 : _ < w'.heap.size := Nat.lt_of_lt_of_le dQ1 (by omega)); (try have dQ2 : _ < w'.heap.size := Nat.lt_of_lt_of_le dQ2 (by omega)); (try have dQ3 : _ < w'.heap.size := Nat.lt_of_lt_of_le dQ3 (by omega)); (try have dQ4 : _ < w'.heap.size := Nat.lt_of_lt_of_le dQ4 (by omega)); (try have dQ5 : _ < w'.heap.size := Nat.lt_of_lt_of_le dQ5 (by omega)); (try (have hnQ := Nat.lt_of_succ_le hz; first | (have _x := dQ0; first | (have _x := dQ1; first | (have _x := dQ2; first | (have _x := dQ3; first | (have _x := dQ4; have dQ5 := hnQ) | have dQ4 := hnQ) | have dQ3 := hnQ) | have dQ2 := hnQ) | have dQ1 := hnQ) | have dQ0 := hnQ)); (try (have hmQ := Nat.lt_of_succ_lt (Nat.lt_of_succ_le hz); first | (have _x := dQ0; first | (have _x := dQ1; first | (have _x := dQ2; first | (have _x := dQ3; first | (have _x := dQ4; have dQ5 := hmQ) | have dQ4 := hmQ) | have dQ3 := hmQ) | have dQ2 := hmQ) | have dQ1 := hmQ) | have dQ0 := hmQ)))
  obtain ⟨w2, rfl⟩ : ∃ w2 : World, w2 = w' := ⟨_, rfl⟩
  have hbx : ∀ j, w2.cell? ⟨w.heap.size, j, none⟩ = #[Value.int .i64 a, .int .i64 b, .int .i64 o][j]? := fun j => (hb.cell (by simp)).trans (by simp)
  have HW2 : Hid (Below w.heap.size w w2) := by show Below _ _ _; (repeat' first | (with_reducible exact Below.refl _ _) | (with_reducible refine Below.alloc ?_ ?_ _) | (with_reducible refine Below.drew ?_) | (with_reducible refine Below.setCell ?_ ?_ _) | (with_reducible refine below_via (by assumption) ?_ ?_) | go_size)
  have hz2 : w.heap.size < w2.heap.size := by omega
  have HO2 := Lib.hid (HMO.out w2)
  clear hc hf hb
  refine (l02List_any _ hpb.1 hp _).mono ?_
  rintro e w' ⟨vL, rfl, hownL, hb⟩
  generalize holesTo p 49 = H at *
  have HL3 := Lib.hid (hownL.mono (B := w2.heap.size + 1) (by simp))
  have HO3 := Lib.hid (HO2.out.keep hb)
  obtain ⟨aL, capL, rfl, hmL, _⟩ := hownL.intG
  obtain ⟨w3, rfl⟩ : ∃ w3 : World, w3 = w' := ⟨_, rfl⟩
  have HB3 : Hid (Below w2.heap.size w2 w3) := by show Below _ _ _; (repeat' first | (with_reducible exact Below.refl _ _) | (with_reducible refine Below.alloc ?_ ?_ _) | (with_reducible refine Below.drew ?_) | (with_reducible refine Below.setCell ?_ ?_ _) | (with_reducible refine below_via (by assumption) ?_ ?_) | go_size)
  clear hb hownL
  have HC0 : Hid (cls a (H.take 0) = [0, 0, 0, 0, 0, 0]) := rfl
  go_wp2_with fail
  go_loopw [7] (fun i wr => ∃ k : Nat, k ≤ H.length ∧ i = .int .i64 k ∧ Own EInt wr w2.heap.size (.slice (some ⟨w2.heap.size, 0, none⟩) 6 6) (cls a (H.take k)) ∧ Own EInt wr (w2.heap.size + 1) (.slice aL H.length capL) H ∧ Below w2.heap.size w2 wr) (fun i _ => H.length - (intOf i).toNat)
  case atStart => exact ⟨0, by omega, rfl, by rw [HC0.out]; exact HO3.out, HL3.out, HB3.out⟩
  case round =>
    obtain ⟨k, hk, rfl, hown, hownL, hbw⟩ := hrel
    have hz := hbw.size
    by_cases hlt : k < H.length
    rotate_left
    · obtain rfl : k = H.length := by omega
      have HR : Hid (classOf a b o p = cls a (H.take H.length)) := by show _ = _; rw [HE.out, List.take_length]
      go_wp2_with fail
      go_ret
      exact ⟨_, rfl, by rw [HR.out]; exact hown.mono (Nat.le_of_lt hz2), HW2.out.trans (hbw.mono (Nat.le_of_lt hz2))⟩
    have hbx' : ∀ j, wr.cell? ⟨w.heap.size, j, none⟩ = #[Value.int .i64 a, .int .i64 b, .int .i64 o][j]? := fun j => (hbw.cell (by exact hz2)).trans (hbx j)
    have gB : w.heap.size < wr.heap.size := by omega
    obtain ⟨a', c', hv', _, hgetL⟩ := hownL.intG
    obtain ⟨rfl, rfl⟩ : aL = a' ∧ capL = c' := by simpa using hv'
    obtain ⟨bL, rfl, hbL0, hbL, hcL⟩ := hgetL k hlt
    have hKb := HM.out k hlt
    have HTK := Lib.hid (take_gD H 0 k hlt)
    clear hv' hgetL
    generalize gD H 0 k = K at *
    have HN : Hid (cls a (H.take (k + 1)) = clsStep a (cls a (H.take k)) K) := by show _ = _; rw [HTK.out, ← cls_snoc]
    have hbits : Bits6 (cls a (H.take k)) := cls_bits a _ _ bits6_zero
    generalize cls a (H.take k) = c at *
    have m1 : 0 ≤ K % a := Int.emod_nonneg _ (by omega)
    have m2 : K % a < a := Int.emod_lt_of_pos _ (by omega)
    have m3 : 0 ≤ K / a := Int.ediv_nonneg hKb.1 (by omega)
    have m4 : K / a ≤ K := Int.ediv_le_self _ hKb.1
    obtain ⟨i1, hi1⟩ : ∃ i1 : Nat, (K % a + K / a) % 3 = (i1 : Int) := ⟨((K % a + K / a) % 3).toNat, by omega⟩
    obtain ⟨i2, hi2⟩ : ∃ i2 : Nat, (K % a + 2 * (K / a)) % 3 = (i2 : Int) := ⟨((K % a + 2 * (K / a)) % 3).toNat, by omega⟩
    have l1 : i1 < 3 := by omega
    have l2 : i2 < 3 := by omega
    have HST : Hid (clsStep a c K = flipAt (flipAt c i1) (3 + i2)) := by
      show _ = _
      unfold clsStep
      rw [hi1, hi2]
      rfl
    have e32 : ((3 : Int) + (i2 : Int)).toNat = 3 + i2 := by omega
    have hb1 := hbits.2 i1 (by omega)
    have hb2 := hbits.2 (3 + i2) (by omega)
    have HF1 : Hid (flipAt c i1 = c.set i1 (1 - gD c 0 i1)) := rfl
    have HF2 : Hid (flipAt (flipAt c i1) (3 + i2) = (flipAt c i1).set (3 + i2) (1 - gD c 0 (3 + i2))) := by
      show _ = _
      unfold flipAt
      rw [gD_setI _ _ _ _ (by rw [hbits.1]; omega), if_neg (by omega)]
    have hclen := hbits.1
    obtain ⟨_, _, hvc, _, hgetC⟩ := hown.intG
    obtain ⟨b9, e9, _, hbC, hcc1⟩ := hgetC i1 (by omega)
    obtain ⟨b8, e8, _, _, hcc2⟩ := hgetC (3 + i2) (by omega)
    simp only [Value.slice.injEq] at hvc
    rw [e9] at hvc
    obtain rfl : w2.heap.size = b9 := by simpa using hvc.1
    obtain rfl : w2.heap.size = b8 := by rw [e9] at e8; simpa using e8
    have HOW := Lib.hid hown
    have HOL := Lib.hid hownL
    have HCC1 := Lib.hid hcc1
    have HCC2 := Lib.hid hcc2
    have HHT := Lib.hid hi1
    clear hvc e8 e9 hgetC hown hownL hcc1 hcc2 hbits hclen
    have hcl6 : Hid (c.length = 6) := by
      have := HOW.out.intG
      obtain ⟨_, _, hv, _⟩ := this
      simp at hv
      show _ = _
      omega
    generalize gD c 0 i1 = v1 at *
    generalize gD c 0 (3 + i2) = v2 at *
    have gC : w2.heap.size < wr.heap.size := by omega
    have hcLw := hcL
    go_wp2_with fail
    (with_reducible refine wp_region_qb ?_ ?_ (fun hq => ?_)); (focus kernel_rfl); (focus kernel_rfl); (repeat (go_big_quiet_step (fail))); refine wpQuiet_nil ?_
    intro wp hBP
    have HOW2 := Lib.hid (HOW.out.keep hBP)
    have HOL2 := Lib.hid (HOL.out.keep hBP)
    have hbx2 : ∀ j, wp.cell? ⟨w.heap.size, j, none⟩ = #[Value.int .i64 a, .int .i64 b, .int .i64 o][j]? := fun j => (hBP.cell (by exact gB)).trans (hbx' j)
    have hcL2 := (hBP.cell (p := ⟨bL, k, none⟩) hbL).trans hcL
    have gBp : w.heap.size < wp.heap.size := Nat.lt_of_lt_of_le gB hBP.size
    have gLp : bL < wp.heap.size := Nat.lt_of_lt_of_le hbL hBP.size
    have gCp : w2.heap.size < wp.heap.size := Nat.lt_of_lt_of_le gC hBP.size
    have HCP1 := Lib.hid ((hBP.cell (p := ⟨w2.heap.size, i1, none⟩) gC).trans HCC1.out)
    have HCP2 := Lib.hid ((hBP.cell (p := ⟨w2.heap.size, 3 + i2, none⟩) gC).trans HCC2.out)
    clear hq
    go_wp2_with fail
    (with_reducible refine wp_region_qb ?_ ?_ (fun hq => ?_)); (focus kernel_rfl); (focus kernel_rfl); (repeat (go_big_quiet_step (fail))); refine wpQuiet_nil ?_
    intro wq hBQ
    have OWQ := Lib.hid (HOW2.out.keep hBQ)
    have OLQ := Lib.hid (HOL2.out.keep hBQ)
    have hq1 := (hBQ.cell (p := ⟨w2.heap.size, i1, none⟩) gCp).trans HCP1.out
    have hq2 := (hBQ.cell (p := ⟨w2.heap.size, 3 + i2, none⟩) gCp).trans HCP2.out
    have fzq : ∀ j, wq.frozen? ⟨w2.heap.size, j, none⟩ = false := OWQ.out.fz (by have := hcl6.out; omega)
    have gCq : w2.heap.size < wq.heap.size := Nat.lt_of_lt_of_le gCp hBQ.size
    have ne12 : ¬ (3 + i2 = i1) := by omega
    have ne21 : ¬ (i1 = 3 + i2) := by omega
    have HBQ := Lib.hid ((hbw.trans (hBP.mono hz)).trans (hBQ.mono (Nat.le_trans hz hBP.size)))
    clear hq hBQ hBP
    go_wp2_with fail
    have S1 := OWQ.out.st1 rfl i1 (by have := hcl6.out; omega) (1 - v1) (.int .i64 (1 - v1)) rfl
    have S2 := S1.1.st1 rfl (3 + i2) (by have := hcl6.out; simp; omega) (1 - v2) (.int .i64 (1 - v2)) rfl
    go_roundw
    case rel => exact ⟨k + 1, by omega, by go_num, by rw [HN.out, HST.out, HF2.out, HF1.out]; exact S2.1, Own.setCell (a := ⟨w2.heap.size, 3 + i2, none⟩) (Own.setCell (a := ⟨w2.heap.size, i1, none⟩) OLQ.out (by simp [Value.ownBlock]; omega) _) (by simp [Value.ownBlock]; omega) _, (HBQ.out.setCell (by simp) _).setCell (by simp) _⟩
    case measure => simp [intOf]; omega
end Go.Proofs.YtfmplmlilmalpaaGreat
namespace Go.Proofs.YtfmplmlilmalpaaGreat
open Go Go.Sort Go.RowKit
section
variable {P : Program} {ops : Array Oper} {md : Region.Mode} {C : World → Prop}
def headQ (P : Program) (md : Region.Mode) (ops : Array Oper) (C : World → Prop) (n : Nat) (L : Array Bool → Act → Prop) : Nat → Array Bool → Act → Prop
  | 0, listed, a => L listed a
  | f + 1, listed, a => Region.ready md ops listed ≠ [] ∧ ∀ i ∈ Region.ready md ops listed, i < n ∧ qOp P ops C i (headQ P md ops C n L f (listed.setIfInBounds i true)) a
theorem any_of_headQ {n g : Nat} {L : Array Bool → Act → Prop} {Q' : Exit → Act → World → Prop} (hL : ∀ listed a w, C w → L listed a → wpAny P md ops Q' g listed a w) :
    ∀ (f : Nat) (listed : Array Bool) (a : Act) (w : World), C w → headQ P md ops C n L f listed a → wpAny P md ops Q' (f + g) listed a w
  | 0, listed, a, w, hw, h => by rw [Nat.zero_add]; exact hL _ _ _ hw h
  | f + 1, listed, a, w, hw, h => by
    rw [show f + 1 + g = (f + g) + 1 by omega]
    exact ⟨fun h0 => absurd h0 h.1, fun i hi => wpOp_of_qOp hw (fun a' w' hw' h' => any_of_headQ hL f _ a' w' hw' h') (h.2 i hi).2⟩
theorem headQ_first {n i : Nat} {oi : Oper} {v : Value} {L : Array Bool → Act → Prop} (hi : ops[i]? = some oi) (hsel : ∀ (j : Nat) (o : Oper) cs b, ops[j]? = some o → o.op ≠ .select cs b)
    (hs : Region.sinkB md ops n = true) (hc : Region.chainB md ops n = true) (hn : n < ops.size) (hin : i < n)
    (hdone : ∀ listed a, L listed a → ∀ j ∈ Region.ready md ops listed, n ≤ j) :
    ∀ (f : Nat) (listed : Array Bool) (a : Act), HeadInv md ops n listed →
      (∀ j oj, ops[j]? = some oj → j ≠ i → listed.getD j true = false → (∀ e ∈ oj.after, Region.binds md e = true → e.on ≠ i) → oi.apart ops oj = true) →
      i ∈ Region.ready md ops listed → YieldsIn P ops C oi v a →
      headQ P md ops C n L f (listed.setIfInBounds i true) (a.put oi.dst v) → headQ P md ops C n L (f + 1) listed a := by
  intro f
  induction f with
  | zero =>
    intro listed a inv _ hr hy H
    have hun := (mem_ready.1 hr).1
    refine ⟨fun h => (by rw [h] at hr; cases hr), fun j hj => ?_⟩
    have hjn : j < n := by
      rcases Nat.lt_or_ge j n with h | h
      · exact h
      · exact absurd hj (tail_waits hs hc hn inv _ i rfl hin hun j h)
    refine ⟨hjn, ?_⟩
    by_cases hji : j = i
    · subst hji; exact hy.qOp hi H
    · have := hdone _ _ H j (ready_mono hj hji)
      omega
  | succ f ih =>
    intro listed a inv hfree hr hy H
    have hun := (mem_ready.1 hr).1
    refine ⟨fun h => (by rw [h] at hr; cases hr), fun j hj => ?_⟩
    have hjn : j < n := by
      rcases Nat.lt_or_ge j n with h | h
      · exact h
      · exact absurd hj (tail_waits hs hc hn inv _ i rfl hin hun j h)
    refine ⟨hjn, ?_⟩
    by_cases hji : j = i
    · subst hji; exact hy.qOp hi H
    · have h1 := (H.2 j (ready_mono hj hji)).2
      obtain ⟨hjun, oj, hoj, hall⟩ := mem_ready.1 hj
      have hnot : ∀ e ∈ oj.after, Region.binds md e = true → e.on ≠ i := fun e he hb heq => by
        have h1 := hall e he hb
        rw [heq, getD_both hun] at h1
        cases h1
      have h2 := qOp_put hoj (hfree j oj hoj hji hjun hnot) (fun cs b => hsel i oi cs b hi) (fun cs b => hsel j oj cs b hoj) hy h1
      have hfree' : ∀ k ok, ops[k]? = some ok → k ≠ i → (listed.setIfInBounds j true).getD k true = false →
          (∀ e ∈ ok.after, Region.binds md e = true → e.on ≠ i) → oi.apart ops ok = true := fun k ok hk hki hun hno => by
        refine hfree k ok hk hki ?_ hno
        by_cases hjk : j = k
        · subst hjk; exact hjun
        · rw [getD_set_ne true hjk] at hun; exact hun
      refine qOp_mono (fun a' h3 => ih (listed.setIfInBounds j true) a' (inv.set hj hjn) hfree' (ready_mono hr (Ne.symm hji)) h3.1 ?_) h2
      rw [Array.setIfInBounds_comm _ _ hji]
      exact h3.2
theorem headQ_lex {n g : Nat} {Lq : Act → Prop} (hsel : Region.noSelect ops = true) (hs : Region.sinkB md ops n = true) (hc : Region.chainB md ops n = true) (hn : n < ops.size) :
    ∀ (l : List Oper) (k : Nat) (listed : Array Bool) (a : Act), (∀ j, j < l.length → l[j]? = ops[k + j]?) → k + l.length = n → HeadInv md ops n listed →
    Region.lexHead md ops g l.length k listed = true → wpQuiet P ops C Lq l a →
    headQ P md ops C n (fun listed' a' => Region.seqB md ops g n listed' = true ∧ Lq a') l.length listed a
  | [], k, listed, a, _, hk, _, hB, h => by
    have : k = n := by simpa using hk
    subst this
    exact ⟨by simpa [Region.lexHead] using hB, h⟩
  | o :: l, k, listed, a, hl, hk, inv, hB, h => by
    have h0 : ops[k]? = some o := by simpa using (hl 0 (by simp)).symm
    simp only [List.length_cons, Region.lexHead, Bool.and_eq_true] at hB
    obtain ⟨⟨hr, hf⟩, hB'⟩ := hB
    have hkn : k < n := by simp only [List.length_cons] at hk; omega
    have hr' : k ∈ Region.ready md ops listed := by simpa using hr
    have hst : qOp P ops C k (wpQuiet P ops C Lq l) a := by unfold qOp; simp only [h0]; exact h
    obtain ⟨v, hy, hK⟩ := yieldsIn_of_qOp h0 hst
    exact headQ_first h0 (Region.noSelect_spec hsel) hs hc hn hkn (fun listed' a' hL => seqB_ready hL.1) l.length listed a inv (Region.free_spec h0 hf) hr' hy
      (headQ_lex hsel hs hc hn l (k + 1) _ _ (fun j hj => by have := hl (j + 1) (by simp; omega); simpa [Nat.add_assoc, Nat.add_comm 1 j] using this) (by simp only [List.length_cons] at hk; omega) (inv.set hr' hkn) hB' hK)
theorem wp_region_quiet_tail {id : Nat} {Q : Exit → Act → World → Prop} {a : Act} {w : World} {l : List Oper} (n : Nat) (hm : P.follows .mixedOrders = true) (hB : Region.lexTailB .any l.toArray n = true) (hC : C { w with drawn := w.drawn + 1 })
    (h : wpQuiet P l.toArray C (fun a' => ∀ w', C w' → wpList P l.toArray Q (l.drop n) a' w') (l.take n) a) : (Code.region id l.toArray true).wp P Q a w := by
  simp only [Region.lexTailB, Bool.and_eq_true, decide_eq_true_eq] at hB
  obtain ⟨⟨⟨⟨hsel, hn⟩, hs⟩, hc⟩, hlex⟩ := hB
  have hn' : n < l.length := by simpa using hn
  have htl : (l.take n).length = n := by simp; omega
  have hdl : (l.drop n).length = l.toArray.size - n := by simp
  have inv0 : HeadInv .any l.toArray n (Array.replicate l.toArray.size false) :=
    ⟨by simp, fun j oj _ hl => (by rw [getD_replicate_false] at hl; cases hl), fun t _ ht => getD_in (by simpa using ht) (getD_replicate_false _ _)⟩
  have H := headQ_lex (md := .any) (g := l.toArray.size - n) hsel hs hc hn (l.take n) 0 _ a (fun j hj => by
    have hj' : j < n := by rw [htl] at hj; exact hj
    simp [hj']) (by simpa using htl) inv0 (by rw [htl]; exact hlex) h
  refine wp_region_any hm ?_
  have := any_of_headQ (Q' := Q) (g := l.toArray.size - n) (fun listed a' w' hw' hL => by
    have := wpAny_of_seq (md := .any) (Q' := Q) (l.drop n) n listed a' w' (fun j => by simp [List.getElem?_drop]) (by rw [hdl]; exact hL.1) (hL.2 w' hw')
    rwa [hdl] at this) _ _ _ _ hC H
  rw [htl, show n + (l.toArray.size - n) = l.toArray.size by omega] at this
  exact this
end
/-- the same where callees make memory: behind the head stands a world that is the old one but for new blocks and draws -/
theorem wp_region_qt {P : Program} {id : Nat} {Q : Exit → Act → World → Prop} {a : Act} {w : World} {l : List Oper} (n : Nat) (hm : P.follows .mixedOrders = true) (hB : Region.lexTailB .any l.toArray n = true)
    (h : (∀ b o d os, b < w.heap.size → (grow (redrawn w d) os).cell? ⟨b, o, none⟩ = w.cell? ⟨b, o, none⟩) →
      wpQuiet P l.toArray (fun w' => ∃ p : Regrown, w' = grow (redrawn w p.d) p.os) (fun a' => ∀ w', Below w.heap.size w w' → wpList P l.toArray Q (l.drop n) a' w') (l.take n) a) : (Code.region id l.toArray true).wp P Q a w := by
  refine wp_region_quiet_tail (C := fun w' => ∃ p : Regrown, w' = grow (redrawn w p.d) p.os) n hm hB ⟨⟨w.drawn + 1, #[]⟩, by rw [grow_empty]; rfl⟩ ?_
  have h1 := h (fun b o d os hlt => (below_regrown w d os).cell (p := ⟨b, o, none⟩) hlt)
  have mono : ∀ (l' : List Oper) (Q1 Q2 : Act → Prop) (a : Act), (∀ a, Q1 a → Q2 a) → wpQuiet P l.toArray (fun w' => ∃ p : Regrown, w' = grow (redrawn w p.d) p.os) Q1 l' a → wpQuiet P l.toArray (fun w' => ∃ p : Regrown, w' = grow (redrawn w p.d) p.os) Q2 l' a := by
    intro l'
    induction l' with
    | nil => intro Q1 Q2 a hq hh; exact hq _ hh
    | cons o r ih =>
      intro Q1 Q2 a hq hh
      unfold wpQuiet at hh ⊢
      split at hh
      · rename_i hw; rw [if_pos hw]; exact Oper.quiet_mono (fun a => ih _ _ a hq) hh
      · rename_i hw; rw [if_neg hw]; exact ih _ _ _ hq hh
  exact mono _ _ _ a (fun a' hq w' ⟨p, hp⟩ => by subst hp; exact hq _ (below_regrown w p.d p.os)) h1
end Go.Proofs.YtfmplmlilmalpaaGreat
namespace Peg
def dif (u v : Int) : Int := if u = v then 0 else 1
def keyL (c : List Int) : List Int := [dif (gD c 0 0) (gD c 0 1), dif (gD c 0 1) (gD c 0 2), dif (gD c 0 3) (gD c 0 4), dif (gD c 0 4) (gD c 0 5)]
def pegKey (a b o p : Int) : List Int := if posOk a b o p = true then keyL (cls a (holesTo p 49)) else []
def keyNum (l : List Int) : Int := gD l 0 0 + 2 * gD l 0 1 + 4 * gD l 0 2 + 8 * gD l 0 3
def sameKey (a b o p q : Int) : Bool := posOk a b o p && (posOk a b o q && decide (pegKey a b o p = pegKey a b o q))
theorem dif_bit (u v : Int) : dif u v = 0 ∨ dif u v = 1 := by unfold dif; split <;> simp
theorem keyNum_iff (c d : List Int) : keyNum (keyL c) = keyNum (keyL d) ↔ keyL c = keyL d := by
  constructor
  · intro h
    have h1 := dif_bit (gD c 0 0) (gD c 0 1)
    have h2 := dif_bit (gD c 0 1) (gD c 0 2)
    have h3 := dif_bit (gD c 0 3) (gD c 0 4)
    have h4 := dif_bit (gD c 0 4) (gD c 0 5)
    have g1 := dif_bit (gD d 0 0) (gD d 0 1)
    have g2 := dif_bit (gD d 0 1) (gD d 0 2)
    have g3 := dif_bit (gD d 0 3) (gD d 0 4)
    have g4 := dif_bit (gD d 0 4) (gD d 0 5)
    unfold keyL at *
    generalize dif (gD c 0 0) (gD c 0 1) = p1 at *
    generalize dif (gD c 0 1) (gD c 0 2) = p2 at *
    generalize dif (gD c 0 3) (gD c 0 4) = p3 at *
    generalize dif (gD c 0 4) (gD c 0 5) = p4 at *
    generalize dif (gD d 0 0) (gD d 0 1) = q1 at *
    generalize dif (gD d 0 1) (gD d 0 2) = q2 at *
    generalize dif (gD d 0 3) (gD d 0 4) = q3 at *
    generalize dif (gD d 0 4) (gD d 0 5) = q4 at *
    have e : p1 + 2 * p2 + 4 * p3 + 8 * p4 = q1 + 2 * q2 + 4 * q3 + 8 * q4 := h
    have : p1 = q1 ∧ p2 = q2 ∧ p3 = q3 ∧ p4 = q4 := by omega
    obtain ⟨rfl, rfl, rfl, rfl⟩ := this
    rfl
  · intro h; rw [h]
end Peg
namespace Go.Proofs.YtfmplmlilmalpaaGreat
open Go.ChangeShapes Go.WideShapes Go.ChangeAt Go.RowKit Peg Go.Sort
theorem xorD {u v : Int} (h : u = 0 ∨ u = 1) (g : v = 0 ∨ v = 1) : bits BinOp.xor IntKind.i64 u v = dif u v := by
  rcases h with rfl | rfl <;> rcases g with rfl | rfl <;> decide
theorem Own.lit4 (a b c d : Int) (w : World) (base : Nat) (hb : base ≤ w.heap.size) : Own EInt (w.alloc (.cells #[.int .i64 a, .int .i64 b, .int .i64 c, .int .i64 d] 3)) base (.slice (some ⟨w.heap.size, 0, none⟩) 4 4) [a, b, c, d] := by
  right
  refine ⟨by rw [flat_length], .inr ⟨w.heap.size, 4, #[.int .i64 a, .int .i64 b, .int .i64 c, .int .i64 d], rfl, hb, heap_alloc_new w _, by simp, by decide, by simp [EInt], ?_⟩⟩
  simp [EInt]
set_option maxHeartbeats 1000000 in
set_option maxRecDepth 100000 in
theorem KeyOf_any (a b o p : Int) (hp : p ≤ 9223372036854775807) (w : World) :
    Calls Tryz.prog 55 #[.agg #[.int .i64 a, .int .i64 b, .int .i64 o], .int .i64 p] w (RetInts w (pegKey a b o p)) := by
  have HC : Hid (∀ W', Calls Tryz.prog 90 #[.agg #[.int .i64 a, .int .i64 b, .int .i64 o], .int .i64 p] W' (RetInts W' (classOf a b o p))) := fun W' => ClassOf_any a b o p hp W'
  have HF : Hid (pegKey a b o p = if posOk a b o p = true then keyL (cls a (holesTo p 49)) else []) := rfl
  have HG : Hid (classOf a b o p = if posOk a b o p = true then cls a (holesTo p 49) else []) := rfl
  cases hpk : posOk a b o p
  · have HE : Hid (pegKey a b o p = []) := by show _ = _; rw [HF.out, hpk]; rfl
    have HE2 : Hid (classOf a b o p = []) := by show _ = _; rw [HG.out, hpk]; rfl
    rw [HE2.out] at HC
    clear hpk
    go_enter Tryz.func55, Tryz.ntmps55
    go_wp2_with fail
    refine (HC.out _).mono ?_
    rintro e w' ⟨v, rfl, hown, hb⟩
    obtain ⟨aC, capC, rfl, _⟩ := hown.intG
    have hsz : w.heap.size ≤ w'.heap.size := by have := hb.size; simp at this; omega
    go_wp2_with fail
    all_goals go_ret
    all_goals exact ⟨_, rfl, by rw [HE.out]; exact Own.emptyAny _ _ _ _, by (repeat' first | (with_reducible exact Below.refl _ _) | (with_reducible refine Below.alloc ?_ ?_ _) | (with_reducible refine Below.drew ?_) | (with_reducible refine Below.setCell ?_ ?_ _) | (with_reducible refine below_via (by assumption) ?_ ?_) | go_size)⟩
  have hbits : Bits6 (cls a (holesTo p 49)) := cls_bits a _ _ bits6_zero
  have HE : Hid (pegKey a b o p = keyL (cls a (holesTo p 49))) := by show _ = _; rw [HF.out, hpk]; rfl
  have HE2 : Hid (classOf a b o p = cls a (holesTo p 49)) := by show _ = _; rw [HG.out, hpk]; rfl
  rw [HE2.out] at HC
  clear hpk
  generalize cls a (holesTo p 49) = c at *
  have x1 := xorD (hbits.2 0 (by omega)) (hbits.2 1 (by omega))
  have x2 := xorD (hbits.2 1 (by omega)) (hbits.2 2 (by omega))
  have x3 := xorD (hbits.2 3 (by omega)) (hbits.2 4 (by omega))
  have x4 := xorD (hbits.2 4 (by omega)) (hbits.2 5 (by omega))
  have HK : Hid (keyL c = [dif (gD c 0 0) (gD c 0 1), dif (gD c 0 1) (gD c 0 2), dif (gD c 0 3) (gD c 0 4), dif (gD c 0 4) (gD c 0 5)]) := rfl
  have h6 := hbits.1
  clear hbits
  go_enter Tryz.func55, Tryz.ntmps55
  go_wp2_with fail
  refine (HC.out _).mono ?_
  rintro e w' ⟨v, rfl, hown, hb⟩
  obtain ⟨aC, capC, rfl, _, hget⟩ := hown.intG
  rw [h6] at *
  obtain ⟨bC, rfl, _, hbC, c0⟩ := hget 0 (by omega)
  obtain ⟨bC', e1, _, _, c1⟩ := hget 1 (by omega)
  obtain rfl : bC = bC' := by simpa using e1
  obtain ⟨bC', e2, _, _, c2⟩ := hget 2 (by omega)
  obtain rfl : bC = bC' := by simpa using e2
  obtain ⟨bC', e3, _, _, c3⟩ := hget 3 (by omega)
  obtain rfl : bC = bC' := by simpa using e3
  obtain ⟨bC', e4, _, _, c4⟩ := hget 4 (by omega)
  obtain rfl : bC = bC' := by simpa using e4
  obtain ⟨bC', e5, _, _, c5⟩ := hget 5 (by omega)
  obtain rfl : bC = bC' := by simpa using e5
  have HB := Lib.hid (show Below w.heap.size w w' by (repeat' first | (with_reducible exact Below.refl _ _) | (with_reducible refine Below.alloc ?_ ?_ _) | (with_reducible refine Below.drew ?_) | (with_reducible refine Below.setCell ?_ ?_ _) | (with_reducible refine below_via (by assumption) ?_ ?_) | go_size))
  clear e1 e2 e3 e4 e5 hget hown hb
  generalize gD c 0 0 = d0 at *
  generalize gD c 0 1 = d1 at *
  generalize gD c 0 2 = d2 at *
  generalize gD c 0 3 = d3 at *
  generalize gD c 0 4 = d4 at *
  generalize gD c 0 5 = d5 at *
  go_wp2_with fail
  (with_reducible refine wp_region_qt 28 ?_ ?_ (fun hq => ?_)); (focus kernel_rfl); (focus kernel_rfl); simp only [List.take_succ_cons, List.take_zero, List.drop_succ_cons, List.drop_zero]; (repeat (go_big_quiet_step (fail))); refine wpQuiet_nil ?_
  intro wq hBQ
  have HBQ := Lib.hid (HB.out.trans (hBQ.mono HB.out.size))
  clear hq hBQ
  go_wp2_with fail
  go_ret
  exact ⟨_, rfl, by rw [HE.out, HK.out]; exact Own.lit4 _ _ _ _ _ _ HBQ.out.size, HBQ.out.alloc HBQ.out.size _⟩
theorem l07Differ_any (u v : Int) (w : World) : Calls Tryz.prog 117 #[.int .i64 u, .int .i64 v] w fun e w' => e = .returned (.int .i64 (dif u v)) ∧ w = w' := by
  by_cases h : u = v
  · have HE : Hid (dif u v = 0) := by show _ = _; simp [dif, h]
    have hd : (u != v) = false := by simpa using h
    go_enter Tryz.func117, Tryz.ntmps117
    go_wp2_with fail
    all_goals go_ret
    all_goals exact ⟨by simp [HE.out], rfl⟩
  · have HE : Hid (dif u v = 1) := by show _ = _; simp [dif, h]
    have hd : (u != v) = true := by simpa using h
    go_enter Tryz.func117, Tryz.ntmps117
    go_wp2_with fail
    all_goals go_ret
    all_goals exact ⟨by simp [HE.out], rfl⟩
set_option maxHeartbeats 1000000 in
set_option maxRecDepth 100000 in
theorem sKeyOf_any (a b o p : Int) (hp : p ≤ 9223372036854775807) (w : World) :
    Calls Tryz.prog 99 #[.agg #[.int .i64 a, .int .i64 b, .int .i64 o], .int .i64 p] w (RetInts w (pegKey a b o p)) := by
  have HC : Hid (∀ W', Calls Tryz.prog 116 #[.agg #[.int .i64 a, .int .i64 b, .int .i64 o], .int .i64 p] W' (RetInts W' (classOf a b o p))) := fun W' => sClassOf_any a b o p hp W'
  have HF : Hid (pegKey a b o p = if posOk a b o p = true then keyL (cls a (holesTo p 49)) else []) := rfl
  have HG : Hid (classOf a b o p = if posOk a b o p = true then cls a (holesTo p 49) else []) := rfl
  cases hpk : posOk a b o p
  · have HE : Hid (pegKey a b o p = []) := by show _ = _; rw [HF.out, hpk]; rfl
    have HE2 : Hid (classOf a b o p = []) := by show _ = _; rw [HG.out, hpk]; rfl
    rw [HE2.out] at HC
    clear hpk
    go_enter Tryz.func99, Tryz.ntmps99
    go_wp2_with fail
    refine (HC.out _).mono ?_
    rintro e w' ⟨v, rfl, hown, hb⟩
    obtain ⟨aC, capC, rfl, _⟩ := hown.intG
    have hsz : w.heap.size ≤ w'.heap.size := by have := hb.size; simp at this; omega
    go_wp2_with fail
    all_goals go_ret
    all_goals exact ⟨_, rfl, by rw [HE.out]; exact Own.emptyAny _ _ _ _, by (repeat' first | (with_reducible exact Below.refl _ _) | (with_reducible refine Below.alloc ?_ ?_ _) | (with_reducible refine Below.drew ?_) | (with_reducible refine Below.setCell ?_ ?_ _) | (with_reducible refine below_via (by assumption) ?_ ?_) | go_size)⟩
  have hbits : Bits6 (cls a (holesTo p 49)) := cls_bits a _ _ bits6_zero
  have HE : Hid (pegKey a b o p = keyL (cls a (holesTo p 49))) := by show _ = _; rw [HF.out, hpk]; rfl
  have HE2 : Hid (classOf a b o p = cls a (holesTo p 49)) := by show _ = _; rw [HG.out, hpk]; rfl
  rw [HE2.out] at HC
  clear hpk
  generalize cls a (holesTo p 49) = c at *
  have HK : Hid (keyL c = [dif (gD c 0 0) (gD c 0 1), dif (gD c 0 1) (gD c 0 2), dif (gD c 0 3) (gD c 0 4), dif (gD c 0 4) (gD c 0 5)]) := rfl
  have h6 := hbits.1
  clear hbits
  go_enter Tryz.func99, Tryz.ntmps99
  go_wp2_with fail
  refine (HC.out _).mono ?_
  rintro e w' ⟨v, rfl, hown, hb⟩
  obtain ⟨aC, capC, rfl, _, hget⟩ := hown.intG
  rw [h6] at *
  obtain ⟨bC, rfl, _, hbC, c0⟩ := hget 0 (by omega)
  obtain ⟨bC', e1, _, _, c1⟩ := hget 1 (by omega)
  obtain rfl : bC = bC' := by simpa using e1
  obtain ⟨bC', e2, _, _, c2⟩ := hget 2 (by omega)
  obtain rfl : bC = bC' := by simpa using e2
  obtain ⟨bC', e3, _, _, c3⟩ := hget 3 (by omega)
  obtain rfl : bC = bC' := by simpa using e3
  obtain ⟨bC', e4, _, _, c4⟩ := hget 4 (by omega)
  obtain rfl : bC = bC' := by simpa using e4
  obtain ⟨bC', e5, _, _, c5⟩ := hget 5 (by omega)
  obtain rfl : bC = bC' := by simpa using e5
  have HB := Lib.hid (show Below w.heap.size w w' by (repeat' first | (with_reducible exact Below.refl _ _) | (with_reducible refine Below.alloc ?_ ?_ _) | (with_reducible refine Below.drew ?_) | (with_reducible refine Below.setCell ?_ ?_ _) | (with_reducible refine below_via (by assumption) ?_ ?_) | go_size))
  clear e1 e2 e3 e4 e5 hget hown hb
  generalize gD c 0 0 = d0 at *
  generalize gD c 0 1 = d1 at *
  generalize gD c 0 2 = d2 at *
  generalize gD c 0 3 = d3 at *
  generalize gD c 0 4 = d4 at *
  generalize gD c 0 5 = d5 at *
  go_wp2_with fail
  (with_reducible refine wp_region_qt 28 ?_ ?_ (fun hq => ?_)); (focus kernel_rfl); (focus kernel_rfl); simp only [List.take_succ_cons, List.take_zero, List.drop_succ_cons, List.drop_zero]; (repeat (go_big_quiet_step ((go_at_call 117; exact calls_qp (l07Differ_any _ _ _))))); refine wpQuiet_nil ?_
  intro wq hBQ
  have HBQ := Lib.hid (HB.out.trans (hBQ.mono HB.out.size))
  clear hq hBQ
  go_wp2_with fail
  go_ret
  exact ⟨_, rfl, by rw [HE.out, HK.out]; exact Own.lit4 _ _ _ _ _ _ HBQ.out.size, HBQ.out.alloc HBQ.out.size _⟩
set_option maxHeartbeats 1000000 in
set_option maxRecDepth 100000 in
theorem KeyNumber_any (a b o p : Int) (hp : p ≤ 9223372036854775807) (w : World) :
    Calls Tryz.prog 66 #[.agg #[.int .i64 a, .int .i64 b, .int .i64 o], .int .i64 p] w fun e w' => e = .returned (.int .i64 (if posOk a b o p = true then keyNum (keyL (cls a (holesTo p 49))) else -1)) ∧ Below w.heap.size w w' := by
  have HC : Hid (∀ W', Calls Tryz.prog 99 #[.agg #[.int .i64 a, .int .i64 b, .int .i64 o], .int .i64 p] W' (RetInts W' (pegKey a b o p))) := fun W' => sKeyOf_any a b o p hp W'
  have HF : Hid (pegKey a b o p = if posOk a b o p = true then keyL (cls a (holesTo p 49)) else []) := rfl
  cases hpk : posOk a b o p
  · have HE : Hid (pegKey a b o p = []) := by show _ = _; rw [HF.out, hpk]; rfl
    rw [HE.out] at HC
    clear hpk
    go_enter Tryz.func66, Tryz.ntmps66
    go_wp2_with fail
    refine (HC.out _).mono ?_
    rintro e w' ⟨v, rfl, hown, hb⟩
    obtain ⟨aC, capC, rfl, _⟩ := hown.intG
    have hsz : w.heap.size ≤ w'.heap.size := by have := hb.size; simp at this; omega
    go_wp2_with fail
    all_goals go_ret
    all_goals exact ⟨by simp, by (repeat' first | (with_reducible exact Below.refl _ _) | (with_reducible refine Below.alloc ?_ ?_ _) | (with_reducible refine Below.drew ?_) | (with_reducible refine Below.setCell ?_ ?_ _) | (with_reducible refine below_via (by assumption) ?_ ?_) | go_size)⟩
  have HE : Hid (pegKey a b o p = keyL (cls a (holesTo p 49))) := by show _ = _; rw [HF.out, hpk]; rfl
  rw [HE.out] at HC
  clear hpk
  have hlen : (keyL (cls a (holesTo p 49))).length = 4 := rfl
  have b0 : gD (keyL (cls a (holesTo p 49))) 0 0 = 0 ∨ gD (keyL (cls a (holesTo p 49))) 0 0 = 1 := dif_bit _ _
  have b1 : gD (keyL (cls a (holesTo p 49))) 0 1 = 0 ∨ gD (keyL (cls a (holesTo p 49))) 0 1 = 1 := dif_bit _ _
  have b2 : gD (keyL (cls a (holesTo p 49))) 0 2 = 0 ∨ gD (keyL (cls a (holesTo p 49))) 0 2 = 1 := dif_bit _ _
  have b3 : gD (keyL (cls a (holesTo p 49))) 0 3 = 0 ∨ gD (keyL (cls a (holesTo p 49))) 0 3 = 1 := dif_bit _ _
  have HN : Hid (keyNum (keyL (cls a (holesTo p 49))) = gD (keyL (cls a (holesTo p 49))) 0 0 + 2 * gD (keyL (cls a (holesTo p 49))) 0 1 + 4 * gD (keyL (cls a (holesTo p 49))) 0 2 + 8 * gD (keyL (cls a (holesTo p 49))) 0 3) := rfl
  generalize keyL (cls a (holesTo p 49)) = c at *
  go_enter Tryz.func66, Tryz.ntmps66
  go_wp2_with fail
  refine (HC.out _).mono ?_
  rintro e w' ⟨v, rfl, hown, hb⟩
  obtain ⟨aC, capC, rfl, _, hget⟩ := hown.intG
  rw [hlen] at *
  obtain ⟨bC, rfl, _, hbC, c0⟩ := hget 0 (by omega)
  obtain ⟨bC', e1, _, _, c1⟩ := hget 1 (by omega)
  obtain rfl : bC = bC' := by simpa using e1
  obtain ⟨bC', e2, _, _, c2⟩ := hget 2 (by omega)
  obtain rfl : bC = bC' := by simpa using e2
  obtain ⟨bC', e3, _, _, c3⟩ := hget 3 (by omega)
  obtain rfl : bC = bC' := by simpa using e3
  have HB := Lib.hid (show Below w.heap.size w w' by (repeat' first | (with_reducible exact Below.refl _ _) | (with_reducible refine Below.alloc ?_ ?_ _) | (with_reducible refine Below.drew ?_) | (with_reducible refine Below.setCell ?_ ?_ _) | (with_reducible refine below_via (by assumption) ?_ ?_) | go_size))
  clear e1 e2 e3 hget hown hb
  generalize gD c 0 0 = d0 at *
  generalize gD c 0 1 = d1 at *
  generalize gD c 0 2 = d2 at *
  generalize gD c 0 3 = d3 at *
  have r0 : 0 ≤ d0 ∧ d0 ≤ 1 := by omega
  have r1 : 0 ≤ d1 ∧ d1 ≤ 1 := by omega
  have r2 : 0 ≤ d2 ∧ d2 ≤ 1 := by omega
  have r3 : 0 ≤ d3 ∧ d3 ≤ 1 := by omega
  clear b0 b1 b2 b3
  go_wp2_with ((with_reducible refine wp_region_qb ?_ ?_ (fun hq => ?_)); (focus kernel_rfl); (focus kernel_rfl); (repeat (go_big_quiet_step (fail))); refine wpQuiet_nil ?_; intro wq hBQ; have HBQ := Lib.hid (HB.out.trans (hBQ.mono HB.out.size)); clear hBQ)
  go_ret
  exact ⟨by simp [HN.out], HBQ.out⟩
set_option maxRecDepth 100000 in
theorem sameInts_any (v1 v2 : Value) (l1 l2 : List Int) (w : World) {B1 B2 : Nat} (h1 : Own EInt w B1 v1 l1) (h2 : Own EInt w B2 v2 l2) :
    Calls Tryz.prog 54 #[v1, v2] w fun e w' => e = .returned (.bool (decide (l1 = l2))) ∧ w = w' := by
  obtain ⟨a1, cap1, rfl, hm1, hget1⟩ := h1.intG
  obtain ⟨a2, cap2, rfl, hm2, hget2⟩ := h2.intG
  have HG1 := Lib.hid hget1
  have HG2 := Lib.hid hget2
  clear hget1 hget2 h1 h2
  by_cases hl : l1.length = l2.length
  rotate_left
  · have HE : Hid (decide (l1 = l2) = false) := by show _ = _; exact decide_eq_false (fun h => hl (by rw [h]))
    have hn : ((l1.length : Int) != (l2.length : Int)) = true := by simp; omega
    go_enter Tryz.func54, Tryz.ntmps54
    go_wp2_with fail
    all_goals go_ret
    all_goals exact ⟨by simp [HE.out], rfl⟩
  have HLQ := Lib.hid hl
  rw [← hl]
  clear hl
  go_enter Tryz.func54, Tryz.ntmps54
  go_wp2_with fail
  go_loop [14] (fun i => ∃ k : Nat, k ≤ l1.length ∧ i = .int .i64 k ∧ Hid (∀ j, j < k → gD l1 0 j = gD l2 0 j)) (fun i => l1.length - (intOf i).toNat)
  case atStart => exact ⟨0, by omega, rfl, fun j hj => by omega⟩
  case round =>
    obtain ⟨k, hk, rfl, hall⟩ := hrel
    by_cases hlt : k < l1.length
    · obtain ⟨b1, rfl, _, hb1, c1⟩ := HG1.out k hlt
      obtain ⟨b2, rfl, _, hb2, c2⟩ := HG2.out k (by have := HLQ.out; omega)
      by_cases hq : gD l1 0 k = gD l2 0 k
      · have HN : Hid (∀ j, j < k + 1 → gD l1 0 j = gD l2 0 j) := fun j hj => by
          by_cases hjk : j = k
          · subst hjk; exact hq
          · exact hall.out j (by omega)
        have hne : (gD l1 0 k != gD l2 0 k) = false := by simpa using hq
        clear hq
        generalize gD l1 0 k = x at *
        generalize gD l2 0 k = y at *
        go_wp2_with fail
        go_round
        case rel => exact ⟨k + 1, by omega, by go_num, HN⟩
        case measure => simp [intOf]; omega
      · have HE : Hid (decide (l1 = l2) = false) := by show _ = _; exact decide_eq_false (fun h => hq (by rw [h]))
        have hne : (gD l1 0 k != gD l2 0 k) = true := by simpa using hq
        clear hq
        generalize gD l1 0 k = x at *
        generalize gD l2 0 k = y at *
        go_wp2_with fail
        go_ret
        exact ⟨by simp [HE.out], rfl⟩
    · have HE : Hid (decide (l1 = l2) = true) := by
        show _ = _
        refine decide_eq_true ?_
        apply List.ext_getElem HLQ.out
        intro i hi1 hi2
        have := hall.out i (by omega)
        rwa [gD_lt _ _ _ hi1, gD_lt _ _ _ hi2] at this
      go_wp2_with fail
      go_ret
      exact ⟨by simp [HE.out], rfl⟩
end Go.Proofs.YtfmplmlilmalpaaGreat
namespace Go.Proofs.YtfmplmlilmalpaaGreat
open Go.ChangeShapes Go.WideShapes Go.ChangeAt Go.RowKit Peg Go.Sort
set_option maxHeartbeats 1000000 in
set_option maxRecDepth 100000 in
theorem SameKey_any (a b o p q : Int) (hp : p ≤ 9223372036854775807) (hq0 : q ≤ 9223372036854775807) (w : World) :
    Calls Tryz.prog 20 #[.agg #[.int .i64 a, .int .i64 b, .int .i64 o], .int .i64 p, .int .i64 q] w fun e w' => e = .returned (.bool (sameKey a b o p q)) ∧ Below w.heap.size w w' := by
  have HP : Hid (∀ W', Calls Tryz.prog 50 #[.agg #[.int .i64 a, .int .i64 b, .int .i64 o], .int .i64 p] W' fun e w' => e = .returned (.bool (posOk a b o p)) ∧ Below W'.heap.size W' w') := fun W' => PositionOk_any a b o p hp W'
  have HQ : Hid (∀ W', Calls Tryz.prog 50 #[.agg #[.int .i64 a, .int .i64 b, .int .i64 o], .int .i64 q] W' fun e w' => e = .returned (.bool (posOk a b o q)) ∧ Below W'.heap.size W' w') := fun W' => PositionOk_any a b o q hq0 W'
  have HF : Hid (sameKey a b o p q = (posOk a b o p && (posOk a b o q && decide (pegKey a b o p = pegKey a b o q)))) := rfl
  cases h1 : posOk a b o p
  · have HE : Hid (sameKey a b o p q = false) := by show _ = _; rw [HF.out, h1]; rfl
    rw [h1] at HP
    clear h1 HF
    generalize posOk a b o q = z at *
    go_enter Tryz.func20, Tryz.ntmps20
    go_wp2_with ((with_reducible refine wp_region_qb ?_ ?_ (fun hq => ?_)); (focus kernel_rfl); (focus kernel_rfl); (repeat (go_big_quiet_step ((go_at_call 50; first | (with_reducible exact Calls.regrown_of (HP.out _)) | (with_reducible exact Calls.regrown_of (HQ.out _)))))); refine wpQuiet_nil ?_; intro wq hb; obtain ⟨hc, hf, hz, hy⟩ := bcell hb; clear hq hy; (try simp only [World.size_alloc, World.size_setCell, World.size_drew] at hz); (try have gQ0 : w.heap.size < wq.heap.size := by omega); (try have gQ1 : w.heap.size + 1 < wq.heap.size := by omega); (try have gQ2 : w.heap.size + 1 + 1 < wq.heap.size := by omega); (try have gQ3 : w.heap.size + 1 + 1 + 1 < wq.heap.size := by omega); (try have gQ4 : w.heap.size + 1 + 1 + 1 + 1 < wq.heap.size := by omega); (try have gQ5 : w.heap.size + 1 + 1 + 1 + 1 + 1 < wq.heap.size := by omega); (try have dQ0 : _ < wq.heap.size := Nat.lt_of_lt_of_le dQ0 (by omega)); (try have dQ1 : _ < wq.heap.size := Nat.lt_of_lt_of_le dQ1 (by omega)); (try have dQ2 : _ < wq.heap.size := Nat.lt_of_lt_of_le dQ2 (by omega)); (try have dQ3 : _ < wq.heap.size := Nat.lt_of_lt_of_le dQ3 (by omega)); (try have dQ4 : _ < wq.heap.size := Nat.lt_of_lt_of_le dQ4 (by omega)); (try have dQ5 : _ < wq.heap.size := Nat.lt_of_lt_of_le dQ5 (by omega)); (try (have hnQ := Nat.lt_of_succ_le hz; first | (have _x := dQ0; first | (have _x := dQ1; first | (have _x := dQ2; first | (have _x := dQ3; first | (have _x := dQ4; have dQ5 := hnQ) | have dQ4 := hnQ) | have dQ3 := hnQ) | have dQ2 := hnQ) | have dQ1 := hnQ) | have dQ0 := hnQ)); (try (have hmQ := Nat.lt_of_succ_lt (Nat.lt_of_succ_le hz); first | (have _x := dQ0; first | (have _x := dQ1; first | (have _x := dQ2; first | (have _x := dQ3; first | (have _x := dQ4; have dQ5 := hmQ) | have dQ4 := hmQ) | have dQ3 := hmQ) | have dQ2 := hmQ) | have dQ1 := hmQ) | have dQ0 := hmQ)))
    all_goals go_ret
    all_goals exact ⟨by simp [HE.out], by (repeat' first | (with_reducible exact Below.refl _ _) | (with_reducible refine Below.alloc ?_ ?_ _) | (with_reducible refine Below.drew ?_) | (with_reducible refine Below.setCell ?_ ?_ _) | (with_reducible refine below_via (by assumption) ?_ ?_) | go_size)⟩
  cases h2 : posOk a b o q
  · have HE : Hid (sameKey a b o p q = false) := by show _ = _; rw [HF.out, h1, h2]; rfl
    rw [h1] at HP
    rw [h2] at HQ
    clear h1 h2 HF
    go_enter Tryz.func20, Tryz.ntmps20
    go_wp2_with ((with_reducible refine wp_region_qb ?_ ?_ (fun hq => ?_)); (focus kernel_rfl); (focus kernel_rfl); (repeat (go_big_quiet_step ((go_at_call 50; first | (with_reducible exact Calls.regrown_of (HP.out _)) | (with_reducible exact Calls.regrown_of (HQ.out _)))))); refine wpQuiet_nil ?_; intro wq hb; obtain ⟨hc, hf, hz, hy⟩ := bcell hb; clear hq hy; (try simp only [World.size_alloc, World.size_setCell, World.size_drew] at hz); (try have gQ0 : w.heap.size < wq.heap.size := by omega); (try have gQ1 : w.heap.size + 1 < wq.heap.size := by omega); (try have gQ2 : w.heap.size + 1 + 1 < wq.heap.size := by omega); (try have gQ3 : w.heap.size + 1 + 1 + 1 < wq.heap.size := by omega); (try have gQ4 : w.heap.size + 1 + 1 + 1 + 1 < wq.heap.size := by omega); (try have gQ5 : w.heap.size + 1 + 1 + 1 + 1 + 1 < wq.heap.size := by omega); (try have dQ0 : _ < wq.heap.size := Nat.lt_of_lt_of_le dQ0 (by omega)); (try have dQ1 : _ < wq.heap.size := Nat.lt_of_lt_of_le dQ1 (by omega)); (try have dQ2 : _ < wq.heap.size := Nat.lt_of_lt_of_le dQ2 (by omega)); (try have dQ3 : _ < wq.heap.size := Nat.lt_of_lt_of_le dQ3 (by omega)); (try have dQ4 : _ < wq.heap.size := Nat.lt_of_lt_of_le dQ4 (by omega)); (try have dQ5 : _ < wq.heap.size := Nat.lt_of_lt_of_le dQ5 (by omega)); (try (have hnQ := Nat.lt_of_succ_le hz; first | (have _x := dQ0; first | (have _x := dQ1; first | (have _x := dQ2; first | (have _x := dQ3; first | (have _x := dQ4; have dQ5 := hnQ) | have dQ4 := hnQ) | have dQ3 := hnQ) | have dQ2 := hnQ) | have dQ1 := hnQ) | have dQ0 := hnQ)); (try (have hmQ := Nat.lt_of_succ_lt (Nat.lt_of_succ_le hz); first | (have _x := dQ0; first | (have _x := dQ1; first | (have _x := dQ2; first | (have _x := dQ3; first | (have _x := dQ4; have dQ5 := hmQ) | have dQ4 := hmQ) | have dQ3 := hmQ) | have dQ2 := hmQ) | have dQ1 := hmQ) | have dQ0 := hmQ)))
    all_goals go_ret
    all_goals exact ⟨by simp [HE.out], by (repeat' first | (with_reducible exact Below.refl _ _) | (with_reducible refine Below.alloc ?_ ?_ _) | (with_reducible refine Below.drew ?_) | (with_reducible refine Below.setCell ?_ ?_ _) | (with_reducible refine below_via (by assumption) ?_ ?_) | go_size)⟩
  have HE : Hid (sameKey a b o p q = decide (pegKey a b o p = pegKey a b o q)) := by show _ = _; rw [HF.out, h1, h2]; rfl
  rw [h1] at HP
  rw [h2] at HQ
  have HKP : Hid (∀ W', Calls Tryz.prog 55 #[.agg #[.int .i64 a, .int .i64 b, .int .i64 o], .int .i64 p] W' (RetInts W' (pegKey a b o p))) := fun W' => KeyOf_any a b o p hp W'
  have HKQ : Hid (∀ W', Calls Tryz.prog 55 #[.agg #[.int .i64 a, .int .i64 b, .int .i64 o], .int .i64 q] W' (RetInts W' (pegKey a b o q))) := fun W' => KeyOf_any a b o q hq0 W'
  clear h1 h2 HF
  generalize pegKey a b o p = kp at *
  generalize pegKey a b o q = kq at *
  have HB0 : Hid (Below w.heap.size w w) := Below.refl _ _
  go_enter Tryz.func20, Tryz.ntmps20
  go_wp2_with fail
  go_region_with (first
    | (go_at_call 50; (first | (with_reducible refine (HP.out _).mono ?_) | (with_reducible refine (HQ.out _).mono ?_)); rintro e w' ⟨rfl, hb⟩; obtain ⟨hc, hf, hz, hy⟩ := bcell hb; clear hy; (try simp only [World.size_alloc, World.size_setCell, World.size_drew] at hz); (try have gQ0 : w.heap.size < w'.heap.size := by omega); (try have gQ1 : w.heap.size + 1 < w'.heap.size := by omega); (try have gQ2 : w.heap.size + 1 + 1 < w'.heap.size := by omega); (try have gQ3 : w.heap.size + 1 + 1 + 1 < w'.heap.size := by omega); (try have gQ4 : w.heap.size + 1 + 1 + 1 + 1 < w'.heap.size := by omega); (try have gQ5 : w.heap.size + 1 + 1 + 1 + 1 + 1 < w'.heap.size := by omega); (try have dQ0 : _ < w'.heap.size := Nat.lt_of_lt_of_le dQ0 (by omega)); (try have dQ1 : _ < w'.heap.size := Nat.lt_of_lt_of_le dQ1 (by omega)); (try have dQ2 : _ < w'.heap.size := Nat.lt_of_lt_of_le dQ2 (by omega)); (try have dQ3 : _ < w'.heap.size := Nat.lt_of_lt_of_le dQ3 (by omega)); (try have dQ4 : _ < w'.heap.size := Nat.lt_of_lt_of_le dQ4 (by omega)); (try have dQ5 : _ < w'.heap.size := Nat.lt_of_lt_of_le dQ5 (by omega)); (try (have hnQ := Nat.lt_of_succ_le hz; first | (have _x := dQ0; first | (have _x := dQ1; first | (have _x := dQ2; first | (have _x := dQ3; first | (have _x := dQ4; have dQ5 := hnQ) | have dQ4 := hnQ) | have dQ3 := hnQ) | have dQ2 := hnQ) | have dQ1 := hnQ) | have dQ0 := hnQ)); (try (have hmQ := Nat.lt_of_succ_lt (Nat.lt_of_succ_le hz); first | (have _x := dQ0; first | (have _x := dQ1; first | (have _x := dQ2; first | (have _x := dQ3; first | (have _x := dQ4; have dQ5 := hmQ) | have dQ4 := hmQ) | have dQ3 := hmQ) | have dQ2 := hmQ) | have dQ1 := hmQ) | have dQ0 := hmQ)))
    | (go_at_call 55; first
        | ((with_reducible refine (HKP.out _).mono ?_); rintro e w' ⟨vP, rfl, hOP, hb⟩; (try have hOQ := Own.keep hOQ hb); obtain ⟨hc, hf, hz, hy⟩ := bcell hb; clear hy; (try simp only [World.size_alloc, World.size_setCell, World.size_drew] at hz); (try have gQ0 : w.heap.size < w'.heap.size := by omega); (try have gQ1 : w.heap.size + 1 < w'.heap.size := by omega); (try have gQ2 : w.heap.size + 1 + 1 < w'.heap.size := by omega); (try have gQ3 : w.heap.size + 1 + 1 + 1 < w'.heap.size := by omega); (try have gQ4 : w.heap.size + 1 + 1 + 1 + 1 < w'.heap.size := by omega); (try have gQ5 : w.heap.size + 1 + 1 + 1 + 1 + 1 < w'.heap.size := by omega); (try have dQ0 : _ < w'.heap.size := Nat.lt_of_lt_of_le dQ0 (by omega)); (try have dQ1 : _ < w'.heap.size := Nat.lt_of_lt_of_le dQ1 (by omega)); (try have dQ2 : _ < w'.heap.size := Nat.lt_of_lt_of_le dQ2 (by omega)); (try have dQ3 : _ < w'.heap.size := Nat.lt_of_lt_of_le dQ3 (by omega)); (try have dQ4 : _ < w'.heap.size := Nat.lt_of_lt_of_le dQ4 (by omega)); (try have dQ5 : _ < w'.heap.size := Nat.lt_of_lt_of_le dQ5 (by omega)); (try (have hnQ := Nat.lt_of_succ_le hz; first | (have _x := dQ0; first | (have _x := dQ1; first | (have _x := dQ2; first | (have _x := dQ3; first | (have _x := dQ4; have dQ5 := hnQ) | have dQ4 := hnQ) | have dQ3 := hnQ) | have dQ2 := hnQ) | have dQ1 := hnQ) | have dQ0 := hnQ)); (try (have hmQ := Nat.lt_of_succ_lt (Nat.lt_of_succ_le hz); first | (have _x := dQ0; first | (have _x := dQ1; first | (have _x := dQ2; first | (have _x := dQ3; first | (have _x := dQ4; have dQ5 := hmQ) | have dQ4 := hmQ) | have dQ3 := hmQ) | have dQ2 := hmQ) | have dQ1 := hmQ) | have dQ0 := hmQ)))
        | ((with_reducible refine (HKQ.out _).mono ?_); rintro e w' ⟨vQ, rfl, hOQ, hb⟩; (try have hOP := Own.keep hOP hb); obtain ⟨hc, hf, hz, hy⟩ := bcell hb; clear hy; (try simp only [World.size_alloc, World.size_setCell, World.size_drew] at hz); (try have gQ0 : w.heap.size < w'.heap.size := by omega); (try have gQ1 : w.heap.size + 1 < w'.heap.size := by omega); (try have gQ2 : w.heap.size + 1 + 1 < w'.heap.size := by omega); (try have gQ3 : w.heap.size + 1 + 1 + 1 < w'.heap.size := by omega); (try have gQ4 : w.heap.size + 1 + 1 + 1 + 1 < w'.heap.size := by omega); (try have gQ5 : w.heap.size + 1 + 1 + 1 + 1 + 1 < w'.heap.size := by omega); (try have dQ0 : _ < w'.heap.size := Nat.lt_of_lt_of_le dQ0 (by omega)); (try have dQ1 : _ < w'.heap.size := Nat.lt_of_lt_of_le dQ1 (by omega)); (try have dQ2 : _ < w'.heap.size := Nat.lt_of_lt_of_le dQ2 (by omega)); (try have dQ3 : _ < w'.heap.size := Nat.lt_of_lt_of_le dQ3 (by omega)); (try have dQ4 : _ < w'.heap.size := Nat.lt_of_lt_of_le dQ4 (by omega)); (try have dQ5 : _ < w'.heap.size := Nat.lt_of_lt_of_le dQ5 (by omega)); (try (have hnQ := Nat.lt_of_succ_le hz; first | (have _x := dQ0; first | (have _x := dQ1; first | (have _x := dQ2; first | (have _x := dQ3; first | (have _x := dQ4; have dQ5 := hnQ) | have dQ4 := hnQ) | have dQ3 := hnQ) | have dQ2 := hnQ) | have dQ1 := hnQ) | have dQ0 := hnQ)); (try (have hmQ := Nat.lt_of_succ_lt (Nat.lt_of_succ_le hz); first | (have _x := dQ0; first | (have _x := dQ1; first | (have _x := dQ2; first | (have _x := dQ3; first | (have _x := dQ4; have dQ5 := hmQ) | have dQ4 := hmQ) | have dQ3 := hmQ) | have dQ2 := hmQ) | have dQ1 := hmQ) | have dQ0 := hmQ))))
    | (go_at_call 54; refine (sameInts_any _ _ _ _ _ hOP hOQ).mono ?_; rintro e w' ⟨rfl, rfl⟩))
  all_goals go_wp2_with fail
  all_goals go_ret
  all_goals exact ⟨by simp [HE.out, go_sem], by (repeat' first | (with_reducible exact Below.refl _ _) | (with_reducible refine Below.alloc ?_ ?_ _) | (with_reducible refine Below.drew ?_) | (with_reducible refine Below.setCell ?_ ?_ _) | (with_reducible refine below_via (by assumption) ?_ ?_) | go_size)⟩
set_option maxHeartbeats 1000000 in
set_option maxRecDepth 100000 in
theorem sSameKey_any (a b o p q : Int) (hp : p ≤ 9223372036854775807) (hq0 : q ≤ 9223372036854775807) (w : World) :
    Calls Tryz.prog 29 #[.agg #[.int .i64 a, .int .i64 b, .int .i64 o], .int .i64 p, .int .i64 q] w fun e w' => e = .returned (.bool (sameKey a b o p q)) ∧ Below w.heap.size w w' := by
  have HP : Hid (∀ W', Calls Tryz.prog 40 #[.agg #[.int .i64 a, .int .i64 b, .int .i64 o], .int .i64 p] W' fun e w' => e = .returned (.bool (posOk a b o p)) ∧ Below W'.heap.size W' w') := fun W' => sPositionOk_any a b o p hp W'
  have HQ : Hid (∀ W', Calls Tryz.prog 40 #[.agg #[.int .i64 a, .int .i64 b, .int .i64 o], .int .i64 q] W' fun e w' => e = .returned (.bool (posOk a b o q)) ∧ Below W'.heap.size W' w') := fun W' => sPositionOk_any a b o q hq0 W'
  have HF : Hid (sameKey a b o p q = (posOk a b o p && (posOk a b o q && decide (pegKey a b o p = pegKey a b o q)))) := rfl
  cases h1 : posOk a b o p
  · have HE : Hid (sameKey a b o p q = false) := by show _ = _; rw [HF.out, h1]; rfl
    rw [h1] at HP
    clear h1 HF
    generalize posOk a b o q = z at *
    go_enter Tryz.func29, Tryz.ntmps29
    go_wp2_with ((with_reducible refine wp_region_qb ?_ ?_ (fun hq => ?_)); (focus kernel_rfl); (focus kernel_rfl); (repeat (go_big_quiet_step ((go_at_call 40; first | (with_reducible exact Calls.regrown_of (HP.out _)) | (with_reducible exact Calls.regrown_of (HQ.out _)))))); refine wpQuiet_nil ?_; intro wq hb; obtain ⟨hc, hf, hz, hy⟩ := bcell hb; clear hq hy; (try simp only [World.size_alloc, World.size_setCell, World.size_drew] at hz); (try have gQ0 : w.heap.size < wq.heap.size := by omega); (try have gQ1 : w.heap.size + 1 < wq.heap.size := by omega); (try have gQ2 : w.heap.size + 1 + 1 < wq.heap.size := by omega); (try have gQ3 : w.heap.size + 1 + 1 + 1 < wq.heap.size := by omega); (try have gQ4 : w.heap.size + 1 + 1 + 1 + 1 < wq.heap.size := by omega); (try have gQ5 : w.heap.size + 1 + 1 + 1 + 1 + 1 < wq.heap.size := by omega); (try have dQ0 : _ < wq.heap.size := Nat.lt_of_lt_of_le dQ0 (by omega)); (try have dQ1 : _ < wq.heap.size := Nat.lt_of_lt_of_le dQ1 (by omega)); (try have dQ2 : _ < wq.heap.size := Nat.lt_of_lt_of_le dQ2 (by omega)); (try have dQ3 : _ < wq.heap.size := Nat.lt_of_lt_of_le dQ3 (by omega)); (try have dQ4 : _ < wq.heap.size := Nat.lt_of_lt_of_le dQ4 (by omega)); (try have dQ5 : _ < wq.heap.size := Nat.lt_of_lt_of_le dQ5 (by omega)); (try (have hnQ := Nat.lt_of_succ_le hz; first | (have _x := dQ0; first | (have _x := dQ1; first | (have _x := dQ2; first | (have _x := dQ3; first | (have _x := dQ4; have dQ5 := hnQ) | have dQ4 := hnQ) | have dQ3 := hnQ) | have dQ2 := hnQ) | have dQ1 := hnQ) | have dQ0 := hnQ)); (try (have hmQ := Nat.lt_of_succ_lt (Nat.lt_of_succ_le hz); first | (have _x := dQ0; first | (have _x := dQ1; first | (have _x := dQ2; first | (have _x := dQ3; first | (have _x := dQ4; have dQ5 := hmQ) | have dQ4 := hmQ) | have dQ3 := hmQ) | have dQ2 := hmQ) | have dQ1 := hmQ) | have dQ0 := hmQ)))
    all_goals go_ret
    all_goals exact ⟨by simp [HE.out], by (repeat' first | (with_reducible exact Below.refl _ _) | (with_reducible refine Below.alloc ?_ ?_ _) | (with_reducible refine Below.drew ?_) | (with_reducible refine Below.setCell ?_ ?_ _) | (with_reducible refine below_via (by assumption) ?_ ?_) | go_size)⟩
  cases h2 : posOk a b o q
  · have HE : Hid (sameKey a b o p q = false) := by show _ = _; rw [HF.out, h1, h2]; rfl
    rw [h1] at HP
    rw [h2] at HQ
    clear h1 h2 HF
    go_enter Tryz.func29, Tryz.ntmps29
    go_wp2_with ((with_reducible refine wp_region_qb ?_ ?_ (fun hq => ?_)); (focus kernel_rfl); (focus kernel_rfl); (repeat (go_big_quiet_step ((go_at_call 40; first | (with_reducible exact Calls.regrown_of (HP.out _)) | (with_reducible exact Calls.regrown_of (HQ.out _)))))); refine wpQuiet_nil ?_; intro wq hb; obtain ⟨hc, hf, hz, hy⟩ := bcell hb; clear hq hy; (try simp only [World.size_alloc, World.size_setCell, World.size_drew] at hz); (try have gQ0 : w.heap.size < wq.heap.size := by omega); (try have gQ1 : w.heap.size + 1 < wq.heap.size := by omega); (try have gQ2 : w.heap.size + 1 + 1 < wq.heap.size := by omega); (try have gQ3 : w.heap.size + 1 + 1 + 1 < wq.heap.size := by omega); (try have gQ4 : w.heap.size + 1 + 1 + 1 + 1 < wq.heap.size := by omega); (try have gQ5 : w.heap.size + 1 + 1 + 1 + 1 + 1 < wq.heap.size := by omega); (try have dQ0 : _ < wq.heap.size := Nat.lt_of_lt_of_le dQ0 (by omega)); (try have dQ1 : _ < wq.heap.size := Nat.lt_of_lt_of_le dQ1 (by omega)); (try have dQ2 : _ < wq.heap.size := Nat.lt_of_lt_of_le dQ2 (by omega)); (try have dQ3 : _ < wq.heap.size := Nat.lt_of_lt_of_le dQ3 (by omega)); (try have dQ4 : _ < wq.heap.size := Nat.lt_of_lt_of_le dQ4 (by omega)); (try have dQ5 : _ < wq.heap.size := Nat.lt_of_lt_of_le dQ5 (by omega)); (try (have hnQ := Nat.lt_of_succ_le hz; first | (have _x := dQ0; first | (have _x := dQ1; first | (have _x := dQ2; first | (have _x := dQ3; first | (have _x := dQ4; have dQ5 := hnQ) | have dQ4 := hnQ) | have dQ3 := hnQ) | have dQ2 := hnQ) | have dQ1 := hnQ) | have dQ0 := hnQ)); (try (have hmQ := Nat.lt_of_succ_lt (Nat.lt_of_succ_le hz); first | (have _x := dQ0; first | (have _x := dQ1; first | (have _x := dQ2; first | (have _x := dQ3; first | (have _x := dQ4; have dQ5 := hmQ) | have dQ4 := hmQ) | have dQ3 := hmQ) | have dQ2 := hmQ) | have dQ1 := hmQ) | have dQ0 := hmQ)))
    all_goals go_ret
    all_goals exact ⟨by simp [HE.out], by (repeat' first | (with_reducible exact Below.refl _ _) | (with_reducible refine Below.alloc ?_ ?_ _) | (with_reducible refine Below.drew ?_) | (with_reducible refine Below.setCell ?_ ?_ _) | (with_reducible refine below_via (by assumption) ?_ ?_) | go_size)⟩
  have HE : Hid (sameKey a b o p q = (keyNum (keyL (cls a (holesTo p 49))) == keyNum (keyL (cls a (holesTo q 49))))) := by
    show _ = _
    rw [HF.out, h1, h2]
    simp only [pegKey, h1, h2, if_true, Bool.true_and]
    by_cases h : keyL (cls a (holesTo p 49)) = keyL (cls a (holesTo q 49))
    · rw [h]; simp
    · have := fun e => h ((keyNum_iff _ _).1 e)
      simp [h]
      exact this
  have HKP : Hid (∀ W', Calls Tryz.prog 66 #[.agg #[.int .i64 a, .int .i64 b, .int .i64 o], .int .i64 p] W' fun e w' => e = .returned (.int .i64 (keyNum (keyL (cls a (holesTo p 49))))) ∧ Below W'.heap.size W' w') := fun W' => by have := KeyNumber_any a b o p hp W'; rwa [if_pos h1] at this
  have HKQ : Hid (∀ W', Calls Tryz.prog 66 #[.agg #[.int .i64 a, .int .i64 b, .int .i64 o], .int .i64 q] W' fun e w' => e = .returned (.int .i64 (keyNum (keyL (cls a (holesTo q 49))))) ∧ Below W'.heap.size W' w') := fun W' => by have := KeyNumber_any a b o q hq0 W'; rwa [if_pos h2] at this
  rw [h1] at HP
  rw [h2] at HQ
  clear h1 h2 HF
  generalize keyNum (keyL (cls a (holesTo p 49))) = kp at *
  generalize keyNum (keyL (cls a (holesTo q 49))) = kq at *
  go_enter Tryz.func29, Tryz.ntmps29
  go_wp2_with ((with_reducible refine wp_region_qb ?_ ?_ (fun hq => ?_)); (focus kernel_rfl); (focus kernel_rfl); (repeat (go_big_quiet_step (first | (go_at_call 40; first | (with_reducible exact Calls.regrown_of (HP.out _)) | (with_reducible exact Calls.regrown_of (HQ.out _))) | (go_at_call 66; first | (with_reducible exact Calls.regrown_of (HKP.out _)) | (with_reducible exact Calls.regrown_of (HKQ.out _)))))); refine wpQuiet_nil ?_; intro wq hb; obtain ⟨hc, hf, hz, hy⟩ := bcell hb; clear hq hy; (try simp only [World.size_alloc, World.size_setCell, World.size_drew] at hz); (try have gQ0 : w.heap.size < wq.heap.size := by omega); (try have gQ1 : w.heap.size + 1 < wq.heap.size := by omega); (try have gQ2 : w.heap.size + 1 + 1 < wq.heap.size := by omega); (try have gQ3 : w.heap.size + 1 + 1 + 1 < wq.heap.size := by omega); (try have gQ4 : w.heap.size + 1 + 1 + 1 + 1 < wq.heap.size := by omega); (try have gQ5 : w.heap.size + 1 + 1 + 1 + 1 + 1 < wq.heap.size := by omega); (try have dQ0 : _ < wq.heap.size := Nat.lt_of_lt_of_le dQ0 (by omega)); (try have dQ1 : _ < wq.heap.size := Nat.lt_of_lt_of_le dQ1 (by omega)); (try have dQ2 : _ < wq.heap.size := Nat.lt_of_lt_of_le dQ2 (by omega)); (try have dQ3 : _ < wq.heap.size := Nat.lt_of_lt_of_le dQ3 (by omega)); (try have dQ4 : _ < wq.heap.size := Nat.lt_of_lt_of_le dQ4 (by omega)); (try have dQ5 : _ < wq.heap.size := Nat.lt_of_lt_of_le dQ5 (by omega)); (try (have hnQ := Nat.lt_of_succ_le hz; first | (have _x := dQ0; first | (have _x := dQ1; first | (have _x := dQ2; first | (have _x := dQ3; first | (have _x := dQ4; have dQ5 := hnQ) | have dQ4 := hnQ) | have dQ3 := hnQ) | have dQ2 := hnQ) | have dQ1 := hnQ) | have dQ0 := hnQ)); (try (have hmQ := Nat.lt_of_succ_lt (Nat.lt_of_succ_le hz); first | (have _x := dQ0; first | (have _x := dQ1; first | (have _x := dQ2; first | (have _x := dQ3; first | (have _x := dQ4; have dQ5 := hmQ) | have dQ4 := hmQ) | have dQ3 := hmQ) | have dQ2 := hmQ) | have dQ1 := hmQ) | have dQ0 := hmQ)))
  all_goals go_ret
  all_goals exact ⟨by simp [HE.out], by (repeat' first | (with_reducible exact Below.refl _ _) | (with_reducible refine Below.alloc ?_ ?_ _) | (with_reducible refine Below.drew ?_) | (with_reducible refine Below.setCell ?_ ?_ _) | (with_reducible refine below_via (by assumption) ?_ ?_) | go_size)⟩
end Go.Proofs.YtfmplmlilmalpaaGreat
