/- OrdW: contracts of l23Needs and CountOrders of the reference. Conditions: at most ten jumps. -/
import Derived.Test.YtledmebhlmpjaaaPzS
import Derived.Test.YtledmebhlmpjaaaHwB
import Derived.Test.YtledmebhlmpjaaaPzA
set_option linter.unusedVariables false
set_option linter.unusedSimpArgs false
namespace Peg
theorem needsOf_lt (w : List Ln) (k : Nat) : ∀ m, needsOf w k m < 2 ^ m
  | 0 => by simp [needsOf]
  | m + 1 => by
    have h := needsOf_lt w k m
    unfold needsOf
    have h2 : 2 ^ m < 2 ^ (m + 1) := Nat.pow_lt_pow_right (by decide) (by omega)
    split
    · exact Nat.or_lt_two_pow (by omega) h2
    · omega
def needsL (w : List Ln) (j : Nat) : List Int := (List.range j).map fun k => ((needs w k : Nat) : Int)
theorem needsL_succ (w : List Ln) (j : Nat) : needsL w (j + 1) = needsL w j ++ [((needs w j : Nat) : Int)] := by
  simp [needsL, List.range_succ]
theorem needsL_len (w : List Ln) (j : Nat) : (needsL w j).length = j := by simp [needsL]
theorem needsL_at (w : List Ln) (j k : Nat) (h : k < j) : gD (needsL w j) 0 k = ((needs w k : Nat) : Int) := by simp [needsL, gD, h]
theorem sub_xor {t k : Nat} (h : t.testBit k = true) : 2 ^ k ≤ t ∧ t - 2 ^ k = t ^^^ 2 ^ k := by
  refine ⟨Nat.ge_two_pow_of_testBit h, ?_⟩
  obtain ⟨q, r, hr, ht⟩ : ∃ q r, r < 2 ^ k ∧ t = 2 ^ k * q + r := ⟨t / 2 ^ k, t % 2 ^ k, Nat.mod_lt _ (Nat.two_pow_pos k), (Nat.div_add_mod t (2 ^ k)).symm⟩
  have hq : q.testBit 0 = true := by
    rw [ht, Nat.testBit_two_pow_mul_add _ hr] at h
    simpa using h
  have hq1 : q % 2 = 1 := by
    rw [Nat.testBit_zero] at hq
    simpa using hq
  have e : t - 2 ^ k = 2 ^ k * (q - 1) + r := by
    obtain ⟨m, rfl⟩ : ∃ m, q = m + 1 := ⟨q - 1, by omega⟩
    rw [ht, Nat.mul_add, Nat.mul_one, Nat.add_sub_cancel]
    omega
  apply Nat.eq_of_testBit_eq
  intro i
  rw [xor_bit, e, Nat.testBit_two_pow_mul_add _ hr, ht, Nat.testBit_two_pow_mul_add _ hr]
  by_cases h1 : i < k
  · rw [if_pos h1, if_pos h1]
    simp [show ¬ k = i from by omega]
  · rw [if_neg h1, if_neg h1]
    by_cases h2 : k = i
    · subst h2
      rw [Nat.sub_self, hq, Nat.testBit_zero]
      simp; omega
    · obtain ⟨j, hj⟩ : ∃ j, i - k = j + 1 := ⟨i - k - 1, by omega⟩
      rw [hj, Nat.testBit_succ, Nat.testBit_succ, show (q - 1) / 2 = q / 2 from by omega]
      simp [h2]
def TabO (w : List Ln) (N s : Nat) (T : List Int) : Prop := T.length = N ∧ (∀ t, t < s → gD T 0 t = ((wt w t : Nat) : Int)) ∧ ∀ t, s ≤ t → gD T 0 t = 0
def TabS (w : List Ln) (N s k : Nat) (T : List Int) : Prop := T.length = N ∧ (∀ t, t < s → gD T 0 t = ((wt w t : Nat) : Int)) ∧ gD T 0 s = ((wtTo w s k : Nat) : Int) ∧ ∀ t, s < t → gD T 0 t = 0
theorem gD_setV (l : List Int) (x : Int) (k i : Nat) (hk : k < l.length) : gD (l.set k x) 0 i = if i = k then x else gD l 0 i := by
  unfold gD
  simp only [List.getD_eq_getElem?_getD, List.getElem?_set]
  by_cases h : i = k
  · subst h; simp [hk]
  · rw [if_neg (by omega), if_neg h]
theorem tabO_start (w : List Ln) (N : Nat) (hN : 0 < N) : TabO w N 1 ((List.replicate N (0 : Int)).set 0 1) := by
  have hz : ∀ i, gD (List.replicate N (0 : Int)) 0 i = 0 := fun i => by
    unfold gD
    rw [List.getD_eq_getElem?_getD, List.getElem?_replicate]
    by_cases h : i < N <;> simp [h]
  have hlen : (List.replicate N (0 : Int)).length = N := List.length_replicate
  refine ⟨by rw [List.length_set, hlen], fun t ht => ?_, fun t ht => ?_⟩
  · rw [gD_setV _ _ _ _ (by rw [hlen]; exact hN), if_pos (by omega), show t = 0 by omega, wt_zero]; rfl
  · rw [gD_setV _ _ _ _ (by rw [hlen]; exact hN), if_neg (by omega), hz]
theorem tabO_in {w : List Ln} {N s : Nat} {T : List Int} (h : TabO w N s T) : TabS w N s 0 T :=
  ⟨h.1, h.2.1, by rw [h.2.2 s (Nat.le_refl _)]; simp [wtTo], fun t ht => h.2.2 t (by omega)⟩
theorem tabS_no {w : List Ln} {N s k : Nat} {T : List Int} (h : TabS w N s k T) (hc : lastOk w s k = false) : TabS w N s (k + 1) T :=
  ⟨h.1, h.2.1, by rw [h.2.2.1, wtTo_succ, hc]; simp, h.2.2.2⟩
theorem tabS_yes {w : List Ln} {N s k : Nat} {T : List Int} (h : TabS w N s k T) (hc : lastOk w s k = true) (hs : s < N) (hk : s ^^^ 2 ^ k < s) : TabS w N s (k + 1) (T.set s (gD T 0 s + gD T 0 (s ^^^ 2 ^ k))) := by
  refine ⟨by rw [List.length_set]; exact h.1, fun t ht => ?_, ?_, fun t ht => ?_⟩
  · rw [gD_setV _ _ _ _ (by rw [h.1]; exact hs), if_neg (by omega)]; exact h.2.1 t ht
  · rw [gD_setV _ _ _ _ (by rw [h.1]; exact hs), if_pos rfl, h.2.2.1, h.2.1 _ hk, wtTo_succ, hc]
    simp
  · rw [gD_setV _ _ _ _ (by rw [h.1]; exact hs), if_neg (by omega)]; exact h.2.2.2 t ht
theorem tabS_out {w : List Ln} {N s : Nat} {T : List Int} (h : TabS w N s w.length T) (hs : s < 2 ^ w.length) (h0 : s ≠ 0) : TabO w N (s + 1) T := by
  refine ⟨h.1, fun t ht => ?_, fun t ht => h.2.2.2 t (by omega)⟩
  by_cases e : t = s
  · subst e
    rw [h.2.2.1, wt_step hs h0]
  · exact h.2.1 t (by omega)
theorem wtTo_le {w : List Ln} (hw : w.length ≤ 10) (t m : Nat) (hm : m ≤ 10) : wtTo w t m ≤ 100000000000 := by
  obtain ⟨C, hC⟩ : ∃ C : Nat, C = 10000000000 := ⟨_, rfl⟩
  have hw1 : ∀ t, wt w t ≤ C := fun t => by rw [hC]; exact wt_le hw t
  have key : ∀ m, wtTo w t m ≤ m * C := by
    intro m
    induction m with
    | zero => simp [wtTo]
    | succ m ih =>
      rw [wtTo_succ, Nat.succ_mul]
      have := hw1 (t ^^^ 2 ^ m)
      split <;> omega
  refine Nat.le_trans (key m) ?_
  have : m * C ≤ 10 * C := Nat.mul_le_mul_right _ hm
  omega
theorem needsOf_succ (w : List Ln) (k m : Nat) : needsOf w k (m + 1) = if dis (gD w Ln0 m) (gD w Ln0 k) = true then needsOf w k m ||| 2 ^ m else needsOf w k m := rfl
end Peg
namespace Go.Proofs.Ytledmebhlmpjaaa
open Go.ChangeShapes Go.WideShapes Go.ChangeAt Go.RowKit Peg Go.Sort
set_option maxHeartbeats 4000000 in
set_option maxRecDepth 100000 in
theorem l23Needs_any (L : List Ln) (v : Value) (hl : L.length ≤ 10) (w : World) {B : Nat} (hv : Own ELine w B v L) :
    Calls Try.prog 50 #[v] w (RetInts w (needsL L L.length)) := by
  obtain ⟨aL, cL, rfl, hnL, hgL⟩ := hv.lineG
  have HGL := Lib.hid hgL
  have HDI : Hid (∀ a c W, Calls Try.prog 59 #[.agg #[.int .i64 a.f, .int .i64 a.o, .int .i64 a.t], .agg #[.int .i64 c.f, .int .i64 c.o, .int .i64 c.t]] W fun e w' => e = .returned (.bool (dis a c)) ∧ Below W.heap.size W w') := fun a c W => sDoDisturb_any a c W
  have HNS := Lib.hid (needsOf_succ L)
  have HNL := Lib.hid (needsOf_lt L)
  have HLS := Lib.hid (needsL_succ L)
  have HLL := Lib.hid (needsL_len L)
  have HN0 : Hid (∀ k, needs L k = needsOf L k k) := fun k => rfl
  have HZ : Hid (∀ k, needsOf L k 0 = 0) := fun k => rfl
  clear hv hgL
  unfold RetInts
  go_enter Try.func50, Try.ntmps50
  go_wp2_with fail
  go_loopw [3, 4] (fun out k wr => ∃ j : Nat, j ≤ L.length ∧ k = .int .i64 j ∧ Hid (Own EInt wr w.heap.size out (needsL L j)) ∧ Hid (Below w.heap.size w wr)) (fun _ k _ => L.length - (intOf k).toNat)
  case atStart => exact ⟨0, by omega, rfl, by show Own _ _ _ _ _; exact Own.emptyAny _ _ _ _, by show Below _ _ _; (repeat' first | (with_reducible exact Below.refl _ _) | (with_reducible refine Below.alloc ?_ ?_ _) | (with_reducible refine Below.drew ?_) | (with_reducible refine Below.setCell ?_ ?_ _) | (with_reducible refine below_via (by assumption) ?_ ?_) | go_size)⟩
  case round =>
    obtain ⟨j, hj, rfl, HOW, HB⟩ := hrel
    obtain ⟨aO, cO, rfl, -, -⟩ := HOW.out.intG
    have hz := HB.out.size
    have hlen := HLL.out j
    by_cases hjl : j < L.length
    · obtain ⟨bL, rfl, _, hbL2, -, -, -⟩ := HGL.out j hjl
      obtain ⟨w3, rfl⟩ : ∃ w3 : World, w3 = wr := ⟨_, rfl⟩
      rw [hlen]
      have HLEN := Lib.hid hlen
      clear hlen
      go_wp2_with fail
      go_loopw [5, 6] (fun n i wr => ∃ m : Nat, m ≤ j ∧ i = .int .i64 m ∧ n = .int .i64 ((needsOf L j m : Nat) : Int) ∧ Hid (Below w3.heap.size w3 wr)) (fun _ i _ => j - (intOf i).toNat)
      case atStart => exact ⟨0, by omega, rfl, by rw [HZ.out]; rfl, Below.refl _ _⟩
      case round =>
        obtain ⟨m, hm, rfl, rfl, HBi⟩ := hrel
        have hzi := HBi.out.size
        by_cases hmj : m < j
        · obtain ⟨b1, e1, _, _, l1, l2, l3⟩ := HGL.out m (by omega)
          obtain ⟨b2, e2, _, _, r1, r2, r3⟩ := HGL.out j hjl
          simp only [Option.some.injEq, Addr.mk.injEq, and_true] at e1 e2
          subst e1
          subst e2
          have HBA := Lib.hid (HB.out.trans (HBi.out.mono hz))
          have m1 := (HBA.out.cell (p := ⟨bL, m * 3, none⟩) hbL2).trans l1
          have m2 := (HBA.out.cell (p := ⟨bL, m * 3 + 1, none⟩) hbL2).trans l2
          have m3 := (HBA.out.cell (p := ⟨bL, m * 3 + 2, none⟩) hbL2).trans l3
          have k1 := (HBA.out.cell (p := ⟨bL, j * 3, none⟩) hbL2).trans r1
          have k2 := (HBA.out.cell (p := ⟨bL, j * 3 + 1, none⟩) hbL2).trans r2
          have k3 := (HBA.out.cell (p := ⟨bL, j * 3 + 2, none⟩) hbL2).trans r3
          clear l1 l2 l3 r1 r2 r3
          have dQ1 : bL < wr.heap.size := by have := HBA.out.size; omega
          have hNS := HNS.out j m
          have hNL := HNL.out j m
          have hp10 : 2 ^ m ≤ 2 ^ 10 := Nat.pow_le_pow_right (by decide) (by omega)
          have HD := Lib.hid (HDI.out (gD L Ln0 m) (gD L Ln0 j))
          have hpw := pw_wrap (n := (m : Int)) (by omega) (by omega)
          have hor := bits_or (a := ((needsOf L j m : Nat) : Int)) (b := pw (m : Int)) (by omega) (by omega) (Int.le_of_lt (pw_pos _)) (Int.lt_trans (pw_lt (k := 49) (by omega) (by omega)) (by rw [pw49]; decide))
          have hor2 : bor ((needsOf L j m : Nat) : Int) (pw (m : Int)) = ((needsOf L j m ||| 2 ^ m : Nat) : Int) := by
            unfold bor
            have : pw (m : Int) = ((2 ^ m : Nat) : Int) := by simp [pw]
            rw [this, Int.toNat_natCast, Int.toNat_natCast]
          rw [hor2] at hor
          have hpw2 : wrap64 (2 ^ m) = pw (m : Int) := by simpa using hpw
          have HPO := Lib.hid (show bits BinOp.or IntKind.i64 ((needsOf L j m : Nat) : Int) (wrap64 (2 ^ m)) = ((needsOf L j m ||| 2 ^ m : Nat) : Int) by rw [hpw2]; exact hor)
          have HNS2 := Lib.hid hNS
          clear hNS hor2 hNL
          generalize gD L Ln0 m = x at *
          generalize gD L Ln0 j = y at *
          generalize needsOf L j m = nm at *
          generalize pw (m : Int) = P at *
          cases hd : dis x y
          · rw [hd] at HD HNS2
            have HE := Lib.hid (show needsOf L j (m + 1) = nm by rw [HNS2.out]; simp)
            clear hd HNS2 hp10
            go_wp2_with ((with_reducible refine wp_region_qb ?_ ?_ (fun hq => ?_)); (focus kernel_rfl); (focus kernel_rfl); (repeat (go_big_quiet_step ((go_at_call 59; exact Calls.regrown_of (HD.out _))))); refine wpQuiet_nil ?_; (intro wq hbq; clear hq))
            go_roundw
            case rel => exact ⟨m + 1, by omega, by go_num, by rw [HE.out], HBi.out.trans (hbq.mono hzi)⟩
            case measure => simp [intOf]; omega
          · rw [hd] at HD HNS2
            have HE := Lib.hid (show needsOf L j (m + 1) = nm ||| 2 ^ m by rw [HNS2.out]; simp)
            clear hd HNS2 hp10
            go_wp2_with ((with_reducible refine wp_region_qb ?_ ?_ (fun hq => ?_)); (focus kernel_rfl); (focus kernel_rfl); (repeat (go_big_quiet_step ((go_at_call 59; exact Calls.regrown_of (HD.out _))))); refine wpQuiet_nil ?_; (intro wq hbq; clear hq))
            go_roundw
            case rel => exact ⟨m + 1, by omega, by go_num, by rw [HE.out], HBi.out.trans (hbq.mono hzi)⟩
            case measure => simp [intOf]; omega
        · obtain rfl : m = j := by omega
          have HO3 := Lib.hid (HOW.out.keep HBi.out)
          have HB3 := Lib.hid (HB.out.trans (HBi.out.mono hz))
          have HLE : (needsL L m).length = m := HLEN.out
          have HSU := Lib.hid (HLS.out m)
          have HNN := Lib.hid (HN0.out m)
          have hown3 : Own EInt wr w.heap.size (.slice aO m cO) (needsL L m) := by
            have := HO3.out
            rwa [HLE] at this
          have HLEh := Lib.hid HLE
          clear HLE
          generalize needsL L m = NL at *
          generalize needsOf L m m = nm at *
          go_wp2_with (at_builtin; (refine append1 (E := EInt) (base := w.heap.size) (l := NL) rfl rfl _ _ 61 rfl Try.underlying61 rfl hown3 ((nm : Nat) : Int) rfl (by have := HLEh.out; omega) (by omega) ?_); intro v' w7 hown7 hb7 hg7)
          go_roundw
          case rel => exact ⟨m + 1, by omega, by go_num, by show Own _ _ _ _ _; rw [HSU.out, HNN.out]; exact hown7, HB3.out.trans hb7⟩
          case measure => simp [intOf]; omega
    · obtain rfl : j = L.length := by omega
      go_wp2_with fail
      all_goals go_ret
      all_goals exact ⟨_, rfl, HOW.out, HB.out⟩
theorem run_make_tab (t : TypeId) (ht : Try.prog.underlying t = some (.slice 3)) (n : Int) (h0 : 0 ≤ n) (h1 : n ≤ 1099511627776) (w : World) :
    (Instr.makeSlice t (.int .i64 n) (.int .i64 n)).run Try.prog w = .ok (.slice (some ⟨w.heap.size, 0, none⟩) n.toNat n.toNat) (w.alloc (.cells (fillCells (.int .i64 0) n.toNat) 3)) := by
  obtain ⟨i, hi, hz, hsize, hby⟩ := info_parts info_int
  rw [run_make (P := Try.prog) w t 3 i (.int .i64 0) ht hi hz .i64 .i64 n n h0 (Int.le_refl _) (by rw [hby]; omega) (by omega)]
  rw [hsize, Nat.mul_one]
  show Result.ok _ (w.alloc (.cells (madeCells #[.int .i64 0] n.toNat) 3)) = _
  rw [madeCells_one]
theorem Own.tabAt {w : World} {base b n cap : Nat} {l : List Int} (h : Own EInt w base (.slice (some ⟨b, 0, none⟩) n cap) l) (i : Nat) (hi : i < l.length) : w.cell? ⟨b, i, none⟩ = some (.int .i64 (gD l 0 i)) ∧ b < w.heap.size ∧ n = l.length := by
  obtain ⟨a, cap', hv, _, hg⟩ := h.intG
  obtain ⟨b', hb', h1, h2, h3⟩ := hg i hi
  simp only [Value.slice.injEq] at hv
  obtain ⟨rfl, rfl, rfl⟩ := hv
  simp only [Option.some.injEq, Addr.mk.injEq, and_true] at hb'
  subst hb'
  exact ⟨h3, h2, rfl⟩
set_option maxHeartbeats 4000000 in
set_option maxRecDepth 100000 in
theorem CountOrders_any (L : List Ln) (v : Value) (hl : L.length ≤ 10) (w : World) {B : Nat} (hv : Own ELine w B v L) :
    Calls Try.prog 17 #[v] w fun e w' => e = .returned (.int .i64 (ordersOf L : Nat)) ∧ Below w.heap.size w w' := by
  have HND := Lib.hid (l23Needs_any L v hl w hv)
  obtain ⟨aL, cL, rfl, hnL, -⟩ := hv.lineG
  obtain ⟨N, hN⟩ : ∃ N, N = 2 ^ L.length := ⟨_, rfl⟩
  have hN10 : N ≤ 1024 := by rw [hN]; exact Nat.pow_le_pow_right (by decide) hl
  have hN1 : 1 ≤ N := by rw [hN]; exact Nat.one_le_two_pow
  have hwN : wrap64 (2 ^ L.length) = (N : Int) := by
    rw [hN]
    have : ((2 : Int) ^ L.length) = ((2 ^ L.length : Nat) : Int) := by simp
    rw [this]; exact IntWalk.wrap64_in _ (by omega)
  have hmk := run_make_tab 61 Try.underlying61 (N : Int) (by omega) (by omega)
  have HST := Lib.hid (tabO_start L N (by omega))
  have HNE := Lib.hid (needsL_at L L.length)
  have HNL := Lib.hid (needsL_len L L.length)
  have HIN := Lib.hid (fun s T (h : TabO L N s T) => tabO_in h)
  have HNO := Lib.hid (fun s k T (h : TabS L N s k T) hc => tabS_no h hc)
  have HYE := Lib.hid (fun s k T (h : TabS L N s k T) hc h1 h2 => tabS_yes h hc h1 h2)
  have HOU := Lib.hid (fun s T (h : TabS L N s L.length T) h1 h2 => tabS_out h h1 h2)
  have HSX : Hid (∀ t k : Nat, t.testBit k = true → 2 ^ k ≤ t ∧ t - 2 ^ k = t ^^^ 2 ^ k) := fun t k h => sub_xor h
  have HBD : Hid (∀ s k T, TabS L N s k T → k ≤ 10 → 0 ≤ gD T 0 s ∧ gD T 0 s ≤ 100000000000 ∧ ∀ t, t < s → 0 ≤ gD T 0 t ∧ gD T 0 t ≤ 10000000000) := fun s k T h hk => ⟨by rw [h.2.2.1]; omega, by rw [h.2.2.1]; have := wtTo_le hl s k hk; omega, fun t ht => by rw [h.2.1 t ht]; have := wt_le hl t; omega⟩
  have HLO : Hid (∀ s k, lastOk L s k = (s.testBit k && within (needs L k) s)) := fun s k => rfl
  have HEND : Hid (∀ T, TabO L N N T → gD T 0 (N - 1) = ((ordersOf L : Nat) : Int)) := fun T h => by
    rw [h.2.1 (N - 1) (by omega)]
    unfold ordersOf full
    rw [hN]
  have HNB : Hid (∀ k, k ≤ L.length → needs L k < 1024) := fun k hk => by
    have h1 := needsOf_lt L k k
    have h2 : 2 ^ k ≤ 2 ^ 10 := Nat.pow_le_pow_right (by decide) (by omega)
    unfold needs
    omega
  have hS0 : Own EInt (w.alloc (.cells (fillCells (.int .i64 0) N) 3)) w.heap.size (.slice (some ⟨w.heap.size, 0, none⟩) N N) (List.replicate N 0) := Own.fill (E := EInt) rfl (0 : Int) (.int .i64 0) rfl w N (by unfold maxLen; omega)
  have HN := Lib.hid hN
  clear hS0 hv hN
  by_cases hgt : 10 < L.length
  · omega
  have hd0 : decide ((10 : Int) < (L.length : Nat)) = false := decide_eq_false (by omega)
  unfold RetInts at HND
  go_enter Try.func17, Try.ntmps17
  go_wp2_with fail
  refine HND.out.mono ?_
  rintro e w2 ⟨vN, rfl, hoN, hb2⟩
  obtain ⟨aN, cN, rfl, -, hgN⟩ := hoN.intG
  have HGN := Lib.hid hgN
  have HB2 := Lib.hid hb2
  have hS0 : Own EInt (w2.alloc (.cells (fillCells (.int .i64 0) N) 3)) w2.heap.size (.slice (some ⟨w2.heap.size, 0, none⟩) N N) (List.replicate N 0) := Own.fill (E := EInt) rfl (0 : Int) (.int .i64 0) rfl w2 N (by unfold maxLen; omega)
  obtain ⟨s1, s2, s3⟩ := hS0.store rfl 0 (by simp; omega) (1 : Int) (.int .i64 1) rfl
  have s4 := (hS0.tabAt 0 (by simp; omega)).1
  have HS1 := Lib.hid s1
  have hz2 := HB2.out.size
  clear hgN hoN hb2 hS0 s1 HND
  go_wp2_with fail
  have hLn := HNL.out
  go_loopw [6] (fun s wr => ∃ (m : Nat) (T : List Int), 1 ≤ m ∧ m ≤ N ∧ s = .int .i64 m ∧ Hid (TabO L N m T) ∧ Hid (Own EInt wr w2.heap.size (.slice (some ⟨w2.heap.size, 0, none⟩) N N) T) ∧ Hid (Below w2.heap.size w2 wr) ∧ w2.heap.size < wr.heap.size) (fun s _ => N - (intOf s).toNat)
  case atStart => exact ⟨1, _, by omega, by omega, rfl, HST, (by show Own _ _ _ _ _; have h := HS1.out; rwa [World.setCell_alloc_new] at h), (Below.refl _ _).alloc (Nat.le_refl _) _, by simp⟩
  case round =>
    obtain ⟨m, T, hm1, hm2, rfl, HTO, HOT, HBW, hzw⟩ := hrel
    by_cases hmN : m < N
    rotate_left
    · obtain rfl : m = N := by omega
      have hd : decide ((m : Int) < (m : Nat)) = false := decide_eq_false (by omega)
      have hlen := HTO.out.1
      have e1 := (HOT.out.tabAt (m - 1) (by omega)).1
      rw [HEND.out T HTO.out] at e1
      have hi1 : wrap64 ((m : Int) - 1) = (m : Int) - 1 := IntWalk.wrap64_in _ (by omega)
      have hi2 : wrap64 ((m : Int) + -1) = (m : Int) - 1 := IntWalk.wrap64_in _ (by omega)
      have hi3 : ((m : Int) - 1).toNat = m - 1 := by omega
      have hi4 : ((m : Int) + -1).toNat = m - 1 := by omega
      have hi5 : (m : Int) - 1 < m := by omega
      have hi6 : 0 ≤ (m : Int) - 1 := by omega
      have HBF := Lib.hid (HB2.out.trans (HBW.out.mono hz2))
      clear hlen
      go_wp2_with fail
      all_goals go_ret
      all_goals exact ⟨by simp, HBF.out⟩
    have hd : decide ((m : Int) < (N : Nat)) = true := decide_eq_true (by omega)
    obtain ⟨w3, rfl⟩ : ∃ w3 : World, w3 = wr := ⟨_, rfl⟩
    have HTS0 := Lib.hid (HIN.out m T HTO.out)
    go_wp2_with fail
    go_loopw [7] (fun k wr => ∃ (k' : Nat) (T : List Int), k' ≤ L.length ∧ k = .int .i64 k' ∧ Hid (TabS L N m k' T) ∧ Hid (Own EInt wr w2.heap.size (.slice (some ⟨w2.heap.size, 0, none⟩) N N) T) ∧ Hid (Below w2.heap.size w2 wr) ∧ w2.heap.size < wr.heap.size) (fun k _ => L.length - (intOf k).toNat)
    case atStart => exact ⟨0, T, by omega, rfl, HTS0, HOT, HBW, hzw⟩
    case round =>
      obtain ⟨k, T', hk, rfl, HTS, HOT', HBW', hzw'⟩ := hrel
      clear HTO HOT HBW hzw HTS0
      by_cases hkl : k < L.length
      rotate_left
      · obtain rfl : k = L.length := by omega
        have HT2 := Lib.hid (HOU.out m T' HTS.out (by rw [← HN.out]; exact hmN) (by omega))
        go_wp2_with fail
        go_roundw
        case rel => exact ⟨m + 1, T', by omega, by omega, by go_num, HT2, HOT', HBW', hzw'⟩
        case measure => simp [intOf]; omega
      have hlen := HTS.out.1
      obtain ⟨bN, rfl, _, hbN, hcN⟩ := HGN.out k (by omega)
      rw [HNE.out k hkl] at hcN
      have hcN2 := (HBW'.out.cell (p := ⟨bN, k, none⟩) hbN).trans hcN
      have hnb := HNB.out k (by omega)
      have hbt := bit_test0 (p := (m : Int)) k (by omega) (by omega)
      rw [Int.toNat_natCast] at hbt
      have hmn : min k 64 = k := by omega
      have hbt2 : (bits BinOp.and IntKind.i64 ((m : Int) / 2 ^ min k 64) 1 == 1) = m.testBit k := by rw [hmn]; exact hbt
      have hand := bits_and (a := ((needs L k : Nat) : Int)) (b := (m : Int)) (by omega) (by omega) (by omega) (by omega)
      have hand2 : band ((needs L k : Nat) : Int) (m : Int) = ((needs L k &&& m : Nat) : Int) := by unfold band; rw [Int.toNat_natCast, Int.toNat_natCast]
      rw [hand2] at hand
      have hwi : (((needs L k &&& m : Nat) : Int) == ((needs L k : Nat) : Int)) = within (needs L k) m := by
        unfold Peg.within
        rw [Bool.eq_iff_iff]
        simp only [beq_iff_eq]
        omega
      have hlo := HLO.out m k
      have HSX1 := Lib.hid (fun h => HSX.out m k h)
      have HNOk := Lib.hid (fun h => HNO.out m k T' HTS.out h)
      have HYEk := Lib.hid (fun h h2 => HYE.out m k T' HTS.out h hmN h2)
      have hbd := HBD.out m k T' HTS.out (by omega)
      clear hcN hand2
      generalize needs L k &&& m = nm at *
      generalize needs L k = nk at *
      have dQ1 : bN < wr.heap.size := by have := HBW'.out.size; omega
      cases hb : m.testBit k
      · rw [hb] at hbt hbt2 hlo
        have HT2 := Lib.hid (HNOk.out (by rw [hlo]; rfl))
        clear hlo HNOk HYEk HSX1 hb hwi hand hbd
        go_wp2_with ((with_reducible refine wp_region_qb ?_ ?_ (fun hq => ?_)); (focus kernel_rfl); (focus kernel_rfl); (repeat (go_big_quiet_step (fail))); refine wpQuiet_nil ?_; (intro wq hbq; clear hq))
        go_roundw
        case rel => exact ⟨k + 1, T', by omega, by go_num, HT2, HOT'.out.keep hbq, HBW'.out.trans (hbq.mono (by omega)), by have := hbq.size; omega⟩
        case measure => simp [intOf]; omega
      rw [hb] at hbt hbt2 hlo
      cases hw : within nk m
      · rw [hw] at hwi hlo
        have HT2 := Lib.hid (HNOk.out (by rw [hlo]; rfl))
        clear hlo HNOk HYEk HSX1 hb hbd
        go_wp2_with ((with_reducible refine wp_region_qb ?_ ?_ (fun hq => ?_)); (focus kernel_rfl); (focus kernel_rfl); (repeat (go_big_quiet_step (fail))); refine wpQuiet_nil ?_; (intro wq hbq; clear hq))
        go_roundw
        case rel => exact ⟨k + 1, T', by omega, by go_num, HT2, HOT'.out.keep hbq, HBW'.out.trans (hbq.mono (by omega)), by have := hbq.size; omega⟩
        case measure => simp [intOf]; omega
      rw [hw] at hwi hlo
      obtain ⟨hx1, hx2⟩ := HSX1.out hb
      have hp1 : 1 ≤ 2 ^ k := Nat.one_le_two_pow
      have hpk0 : ((2 : Int) ^ k) = ((2 ^ k : Nat) : Int) := by simp
      have hx3 : m - 2 ^ k < m := Nat.sub_lt (by omega) (Nat.lt_of_lt_of_le Nat.zero_lt_one hp1)
      have hxl : m ^^^ 2 ^ k < m := by rw [← hx2]; exact hx3
      have HT2 := Lib.hid (HYEk.out (by rw [hlo]; rfl) hxl)
      have e1 := (HOT'.out.tabAt m (by omega)).1
      have e2 := (HOT'.out.tabAt (m ^^^ 2 ^ k) (Nat.lt_trans hxl (by omega))).1
      have hb1 := hbd.2.2 _ hxl
      have hb2 := hbd.1
      have hb3 := hbd.2.1
      clear hx3 hlo HNOk HYEk HSX1 hbd hmn
      generalize hgx : m ^^^ 2 ^ k = XX at *
      generalize hPK : 2 ^ k = PK at *
      have hPK9 : PK ≤ 1024 := by omega
      have HPK0 := Lib.hid hpk0
      clear hpk0
      clear hPK hgx
      have hsb : wrap64 ((m : Int) - ((PK : Nat) : Int)) = ((XX : Nat) : Int) := by rw [IntWalk.wrap64_in _ (by omega)]; omega
      have hsm : wrap64 (gD T' 0 m + gD T' 0 XX) = gD T' 0 m + gD T' 0 XX := IntWalk.wrap64_in _ (by omega)
      have HSTO := Lib.hid (fun W (hW : Below wr.heap.size wr W) => And.intro (Own.store (HOT'.out.keep hW) rfl m (by omega) (gD T' 0 m + gD T' 0 XX) (.int .i64 (gD T' 0 m + gD T' 0 XX)) rfl) (And.intro ((hW.cell (p := ⟨w2.heap.size, m, none⟩) hzw').trans e1) ((hW.cell (p := ⟨w2.heap.size, XX, none⟩) hzw').trans e2)))
      have hxN : XX < N := by omega
      clear e1 e2
      generalize gD T' 0 XX = v2 at *
      generalize gD T' 0 m = v1 at *
      have HPK1 : Hid (wrap64 ((PK : Nat) : Int) = ((PK : Nat) : Int)) := IntWalk.wrap64_in _ (by omega)
      have hpk : wrap64 (2 ^ k) = ((PK : Nat) : Int) := by rw [HPK0.out]; exact HPK1.out
      clear hxl hp1 hx1 hx2 hPK9 hb1 hb2 hb3
      go_wp2_with ((with_reducible refine wp_region_qb ?_ ?_ (fun hq => ?_)); (focus kernel_rfl); (focus kernel_rfl); (repeat (go_big_quiet_step (fail))); refine wpQuiet_nil ?_; (intro wq hbq; clear hq; have hzq := hbq.size; obtain ⟨⟨-, -, hfq⟩, c1, c2⟩ := HSTO.out wq hbq; have HBQ := Lib.hid hbq; clear hbq))
      go_wp2_with go_region
      all_goals (go_roundw; (case rel => exact ⟨k + 1, _, by omega, by go_num, HT2, ((HSTO.out wq HBQ.out).1.1).keep ((Below.refl _ _).drew), ((HBW'.out.trans (HBQ.out.mono (by omega))).setCell (by simp) _).drew, by simp; omega⟩); (case measure => simp [intOf]; omega))
end Go.Proofs.Ytledmebhlmpjaaa
