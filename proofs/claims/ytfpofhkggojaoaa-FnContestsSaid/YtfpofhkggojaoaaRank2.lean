/- Rank2: contracts of RankingOf and the reference's. Conditions: none but the slice's form. -/
import Derived.Test.YtfpofhkggojaoaaRank
import Derived.Test.YtfpofhkggojaoaaPlaces
import Derived.Test.YtfpofhkggojaoaaShelfC
import Derived.Shelf.Small.Bits
import Derived.IntWalk
set_option linter.unusedVariables false
set_option linter.unusedSimpArgs false
namespace Peg
/-- the row while entrant i is put in place: it stands at j -/
def rowJ (es : List Ent) (n i j : Nat) : List Int := (insAt (rankTo es i) i j ++ List.range' (i + 1) (n - (i + 1))).map Int.ofNat
theorem rowJ_length {es : List Ent} {n i j : Nat} (hi : i < n) (hj : j ≤ i) : (rowJ es n i j).length = n := by
  simp [rowJ, insAt, rankTo_length]; omega
theorem rowJ_start (es : List Ent) (n : Nat) (h : 1 ≤ n) : (List.range n).map Int.ofNat = rowJ es n 0 0 := by
  unfold rowJ insAt
  congr 1
  obtain ⟨m, rfl⟩ : ∃ m, n = m + 1 := ⟨n - 1, by omega⟩
  simp [rankTo, List.range_succ_eq_map, List.range'_eq_map_range]
  intro a _
  omega
def rowE (es : List Ent) (n i : Nat) : List Int := rowJ es n i (insPos es (rankTo es i) i (rankTo es i).length)
theorem rowJ_next {es : List Ent} {n i : Nat} (hi : i + 1 < n) : rowJ es n i (insPos es (rankTo es i) i (rankTo es i).length) = rowJ es n (i + 1) (i + 1) := by
  unfold rowJ
  congr 1
  have h1 : insAt (rankTo es (i + 1)) (i + 1) (i + 1) = rankTo es (i + 1) ++ [i + 1] := by
    unfold insAt
    rw [List.take_of_length_le (by rw [rankTo_length]; exact Nat.le_refl _), List.drop_of_length_le (by rw [rankTo_length]; exact Nat.le_refl _)]
  rw [h1]
  have h2 : rankTo es (i + 1) = insAt (rankTo es i) i (insPos es (rankTo es i) i (rankTo es i).length) := rfl
  rw [← h2, List.append_assoc]
  congr 1
  obtain ⟨m, hm⟩ : ∃ m, n - (i + 1) = m + 1 := ⟨n - (i + 1) - 1, by omega⟩
  rw [hm, show n - (i + 1 + 1) = m from by omega, List.range'_succ]
  rfl
theorem rowJ_end {es : List Ent} {n : Nat} (hn : 1 ≤ n) : rowJ es n (n - 1) (insPos es (rankTo es (n - 1)) (n - 1) (rankTo es (n - 1)).length) = (rankTo es n).map Int.ofNat := by
  unfold rowJ
  congr 1
  obtain ⟨m, rfl⟩ : ∃ m, n = m + 1 := ⟨n - 1, by omega⟩
  simp [rankTo]
theorem rowJ_split {es : List Ent} {n i j : Nat} (hj : j + 1 ≤ i) : ∃ (A C : List Int), A.length = j ∧ rowJ es n i (j + 1) = A ++ Int.ofNat (gD (rankTo es i) 0 j) :: Int.ofNat i :: C ∧ rowJ es n i j = A ++ Int.ofNat i :: Int.ofNat (gD (rankTo es i) 0 j) :: C := by
  have hL := rankTo_length es i
  have h1 : (rankTo es i).take (j + 1) = (rankTo es i).take j ++ [gD (rankTo es i) 0 j] := take_gD _ _ _ (by omega)
  have h2 : (rankTo es i).drop j = gD (rankTo es i) 0 j :: (rankTo es i).drop (j + 1) := by
    rw [gD_lt _ _ _ (by omega)]; exact List.drop_eq_getElem_cons (by omega)
  refine ⟨((rankTo es i).take j).map Int.ofNat, ((rankTo es i).drop (j + 1) ++ List.range' (i + 1) (n - (i + 1))).map Int.ofNat, by simp; omega, ?_, ?_⟩
  · unfold rowJ insAt; rw [h1]; simp
  · unfold rowJ insAt; rw [h2]; simp
theorem gD_app0 (A : List Int) (x : Int) (C : List Int) : gD (A ++ x :: C) 0 A.length = x := by simp [gD]
theorem gD_app1 (A : List Int) (x y : Int) (C : List Int) : gD (A ++ x :: y :: C) 0 (A.length + 1) = y := by simp [gD]
theorem set_swap (A : List Int) (x y : Int) (C : List Int) : ((A ++ x :: y :: C).set (A.length + 1) x).set A.length y = A ++ y :: x :: C := by simp
def rowS (D : List Int) (y : Int) (j : Nat) : List Int := D.take j ++ y :: D.drop j
theorem rowS_length {D : List Int} {y : Int} {j : Nat} (hj : j ≤ D.length) : (rowS D y j).length = D.length + 1 := by simp [rowS]; omega
theorem rowS_end (D : List Int) (y : Int) : rowS D y D.length = D ++ [y] := by simp [rowS]
theorem rowS_set {D : List Int} {y x : Int} {j : Nat} (hj : j ≤ D.length) : (rowS D y j).set j x = rowS D x j := by
  unfold rowS
  rw [List.set_append_right _ _ (by simp; omega)]
  have : j - (D.take j).length = 0 := by simp; omega
  rw [this]
  rfl
theorem rowS_get {D : List Int} {y : Int} {p : Nat} (hp : p < D.length) : gD (rowS D y (p + 1)) 0 p = gD D 0 p := by
  unfold rowS gD
  rw [List.getD_eq_getElem?_getD, List.getD_eq_getElem?_getD, List.getElem?_append_left (by simp; omega), List.getElem?_take_of_lt (by omega)]
theorem rowS_shift {D : List Int} {y : Int} {p : Nat} (hp : p < D.length) : (rowS D y (p + 1)).set (p + 1) (gD D 0 p) = rowS D (gD D 0 p) p := by
  rw [rowS_set (by omega)]
  unfold rowS
  rw [take_gD D 0 p hp, List.append_assoc]
  congr 1
  rw [gD_lt _ _ _ hp]
  exact congrArg (D[p] :: ·) (List.drop_eq_getElem_cons hp).symm
theorem rowS_ins (L : List Nat) (k j : Nat) : rowS (L.map Int.ofNat) (k : Int) j = (insAt L k j).map Int.ofNat := by
  simp [rowS, insAt]
theorem gD_map (L : List Nat) (p : Nat) (hp : p < L.length) : gD (L.map Int.ofNat) 0 p = Int.ofNat (gD L 0 p) := by simp [gD, hp]
def cmpI (es : List Ent) (i k : Nat) : Int := if i = k then 0 else if befI es i k = true then -1 else 1
end Peg
namespace Go.Proofs.Ytfpofhkggojaoaa
open Go.ChangeShapes Go.WideShapes Go.ChangeAt Go.RowKit Peg Go.Sort
set_option maxHeartbeats 2000000 in
set_option maxRecDepth 100000 in
theorem rankCmp_any (es : List Ent) (hok : entsOk es = true) (bp : Nat) (a : Option Addr) (cap : Nat) (w : World) {B : Nat} (hbp : bp < w.heap.size) (hbox : w.cell? ⟨bp, 0, none⟩ = some (.slice a es.length cap))
    (hv : OwnEnts w B (.slice a es.length cap) es) (i k : Nat) (hi : i < es.length) (hk : k < es.length) :
    Calls Try.prog 136 #[.int .i64 i, .int .i64 k, .pointer (some ⟨bp, 0, none⟩)] w fun e w' => e = .returned (.int .i64 (cmpI es i k)) ∧ Below w.heap.size w w' := by
  obtain ⟨_, _, hvv, _, _, hget⟩ := hv.get
  simp only [Value.slice.injEq, true_and] at hvv
  obtain ⟨rfl, rfl⟩ := hvv
  by_cases hik : i = k
  · subst hik
    have HE : Hid (cmpI es i i = 0) := by show _ = _; simp [cmpI]
    clear hget hv hbox
    go_enter Try.func136, Try.ntmps136
    go_wp2_with fail
    go_ret
    exact ⟨by rw [HE.out]; rfl, Below.refl _ _⟩
  have hne : ((i : Int) == (k : Int)) = false := by simp; omega
  have HE : Hid (cmpI es i k = if befI es i k = true then -1 else 1) := by show _ = _; simp [cmpI, hik]
  obtain ⟨b1, p1, q1, rfl, hb1, hc0, hc1, ho1⟩ := hget i hi
  obtain ⟨b1', p2, q2, e1, hb2, hd0, hd1, ho2⟩ := hget k hk
  obtain rfl : b1 = b1' := by simpa using e1
  have hx1 := bestR_ix hok hi
  have hx2 := bestR_ix hok hk
  have HB : Hid (∀ W, Below w.heap.size w W → Calls Try.prog 137 #[.agg #[.int .i64 (gD es Ent0 i).n, .slice p1 (gD es Ent0 i).rs.length q1], .agg #[.int .i64 (gD es Ent0 k).n, .slice p2 (gD es Ent0 k).rs.length q2]] W fun x w' => x = .returned (.bool (befI es i k)) ∧ Below W.heap.size W w') :=
    fun W hW => ranksBefore_any (gD es Ent0 i) (gD es Ent0 k) p1 p2 q1 q2 W (ho1.keep hW) (ho2.keep hW) hx1.2.2 hx2.2.2 ⟨hx1.1, hx1.2.1⟩ ⟨hx2.1, hx2.2.1⟩
  clear hget hv e1 hx1 hx2 ho1 ho2 hik
  generalize befI es i k = bb at *
  generalize gD es Ent0 i = e at *
  generalize gD es Ent0 k = f at *
  cases bb
  all_goals
    go_enter Try.func136, Try.ntmps136
    go_wp2_with ((with_reducible refine wp_region_qb ?_ ?_ (fun hq => ?_)); (focus kernel_rfl); (focus kernel_rfl); (repeat (go_big_quiet_step ((go_at_call 137; exact Calls.regrown_of (HB.out _ (below_regrown _ _ _)))))); refine wpQuiet_nil ?_; intro wq hbq; have HBQ := Lib.hid hbq; clear hq hbq)
    go_ret
    exact ⟨by rw [HE.out]; rfl, HBQ.out⟩
set_option maxHeartbeats 4000000 in
set_option maxRecDepth 100000 in
theorem insSort_any (es : List Ent) (bp g cg : Nat) (w3 w : World) (h1 : 1 ≤ es.length) (h12 : es.length ≤ 12)
    (HC : ∀ W, Below w3.heap.size w3 W → ∀ i k : Nat, i < es.length → k < es.length → Calls Try.prog 136 #[.int .i64 i, .int .i64 k, .pointer (some ⟨bp, 0, none⟩)] W fun e w' => e = .returned (.int .i64 (cmpI es i k)) ∧ Below W.heap.size W w')
    (hbw0 : Below w3.heap.size w3 w) (hown0 : Own EInt w w3.heap.size (.slice (some ⟨g, 0, none⟩) es.length cg) (rowJ es es.length 0 0)) :
    Calls Try.prog 222 #[.slice (some ⟨g, 0, none⟩) es.length cg, .int .i64 0, .int .i64 es.length, .func (.func 136) #[] #[.pointer (some ⟨bp, 0, none⟩)]] w fun e w' => e = .returned (.tuple #[]) ∧ Own EInt w' w3.heap.size (.slice (some ⟨g, 0, none⟩) es.length cg) ((rankTo es es.length).map Int.ofNat) ∧ Below w3.heap.size w3 w' := by
  have HC' := Lib.hid HC
  have HB0 := Lib.hid hbw0
  have HO0 := Lib.hid hown0
  clear HC hbw0 hown0
  go_enter Try.func222, Try.ntmps222
  go_wp2_with fail
  go_loopw [8] (fun t8 wr => ∃ m : Nat, m + 1 ≤ es.length ∧ t8 = .int .i64 ((m + 1 : Nat) : Int) ∧ Own EInt wr w3.heap.size (.slice (some ⟨g, 0, none⟩) es.length cg) (rowE es es.length m) ∧ Below w3.heap.size w3 wr) (fun t _ => es.length - (intOf t).toNat)
  case atStart => exact ⟨0, h1, rfl, HO0.out, HB0.out⟩
  case round =>
    obtain ⟨m, hm, rfl, hown, hbw⟩ := hrel
    have hz := hbw.size
    by_cases hlt : m + 1 < es.length
    rotate_left
    · have hmn : m = es.length - 1 := by omega
      have HE : Hid (rowE es es.length m = (rankTo es es.length).map Int.ofNat) := by show _ = _; rw [hmn]; exact rowJ_end h1
      go_wp2_with fail
      go_end0
      exact ⟨rfl, by rw [← HE.out]; exact hown, hbw⟩
    have HST : Hid (rowE es es.length m = rowJ es es.length (m + 1) (m + 1)) := rowJ_next hlt
    have HOW := Lib.hid hown
    have HBW := Lib.hid hbw
    have hilt : ((m + 1 : Nat) : Int) < (es.length : Int) := by omega
    clear hown hbw
    generalize hi : m + 1 = i at *
    have HI := Lib.hid hi
    clear hi
    go_wp2_with fail
    go_loopw [9] (fun t9 wr => ∃ j : Nat, j ≤ i ∧ t9 = .int .i64 j ∧ Own EInt wr w3.heap.size (.slice (some ⟨g, 0, none⟩) es.length cg) (rowJ es es.length i j) ∧ Hid (insPos es (rankTo es i) i j = insPos es (rankTo es i) i (rankTo es i).length) ∧ Below w3.heap.size w3 wr) (fun t _ => (intOf t).toNat)
    case atStart => exact ⟨i, by omega, rfl, by rw [← HST.out]; exact HOW.out, by show _ = _; rw [rankTo_length], HBW.out⟩
    case round =>
      obtain ⟨j, hj, rfl, hown, hpos, hbw⟩ := hrel
      have hz := hbw.size
      rcases j with _ | p
      · have HE : Hid (rowJ es es.length i 0 = rowE es es.length i) := by show _ = _; unfold rowE; rw [← hpos.out]; rfl
        have hd : decide ((0 : Int) > 0) = false := by simp
        go_wp2_with ((with_reducible refine wp_region_qb ?_ ?_ (fun hq => ?_)); (focus kernel_rfl); (focus kernel_rfl); (repeat (go_big_quiet_step (fail))); refine wpQuiet_nil ?_; intro wq hbq; have HBQ := Lib.hid hbq; clear hq hbq)
        go_roundw
        case rel => exact ⟨i, by omega, by go_num, by rw [← HE.out]; exact hown.keep HBQ.out, hbw.trans (HBQ.out.mono hz)⟩
        case measure => simp [intOf]; omega
      obtain ⟨A, C, hA, e1, e2⟩ := rowJ_split (es := es) (n := es.length) (i := i) (j := p) hj
      have hgl : gD (rankTo es i) 0 p < i := rankTo_gD (by omega)
      have HCC := Lib.hid (fun W hW => HC'.out W hW i (gD (rankTo es i) 0 p) (by omega) (by omega))
      have HP : Hid (insPos es (rankTo es i) i (p + 1) = if befI es i (gD (rankTo es i) 0 p) = true then insPos es (rankTo es i) i p else p + 1) := rfl
      have hcm : cmpI es i (gD (rankTo es i) 0 p) = if befI es i (gD (rankTo es i) 0 p) = true then -1 else 1 := by unfold cmpI; rw [if_neg (by omega)]
      have hg1 : gD (rowJ es es.length i (p + 1)) 0 p = Int.ofNat (gD (rankTo es i) 0 p) := by rw [e1, ← hA]; exact gD_app0 _ _ _
      have hg2 : gD (rowJ es es.length i (p + 1)) 0 (p + 1) = Int.ofNat i := by rw [e1, ← hA]; exact gD_app1 _ _ _ _
      have hlen := rowJ_length (es := es) (n := es.length) (i := i) (j := p + 1) (by omega) hj
      have HSW : Hid (((rowJ es es.length i (p + 1)).set (p + 1) (Int.ofNat (gD (rankTo es i) 0 p))).set p (Int.ofNat i) = rowJ es es.length i p) := by show _ = _; rw [e1, e2, ← hA]; exact set_swap _ _ _ _
      obtain ⟨_, _, hvv, _, hget⟩ := hown.intG
      obtain ⟨g1, eg1, _, hgb, hcp⟩ := hget p (by omega)
      obtain ⟨g2, eg2, _, _, hcq⟩ := hget (p + 1) (by omega)
      simp only [Value.slice.injEq] at hvv
      rw [eg1] at hvv
      obtain rfl : g = g1 := by simpa using hvv.1
      obtain rfl : g = g2 := by rw [eg1] at eg2; simpa using eg2
      rw [hg1] at hcp
      rw [hg2] at hcq
      rw [hcm] at HCC
      clear hvv eg1 eg2 hget hg1 hg2 e1 e2 hcm hA
      generalize gD (rankTo es i) 0 p = x at *
      generalize befI es i x = bb at *
      have hd1 : decide ((p : Int) + 1 > 0) = true := decide_eq_true (by omega)
      have hd2 : decide (((p + 1 : Nat) : Int) > 0) = true := decide_eq_true (by omega)
      have ew : IntKind.i64.wrap ((p : Int) + 1 + -1) = (p : Int) := by rw [show (p : Int) + 1 + -1 = p from by omega]; exact IntWalk.i64_in _ (by omega)
      have ew2 : IntKind.i64.wrap ((p : Int) + 1 - 1) = (p : Int) := by rw [show (p : Int) + 1 - 1 = p from by omega]; exact IntWalk.i64_in _ (by omega)
      cases bb
      · have HE : Hid (rowJ es es.length i (p + 1) = rowE es es.length i) := by show _ = _; unfold rowE; rw [← hpos.out, HP.out]; rfl
        go_wp2_with ((with_reducible refine wp_region_qb ?_ ?_ (fun hq => ?_)); (focus kernel_rfl); (focus kernel_rfl); (repeat (go_big_quiet_step ((go_at_call 136; exact Calls.regrown_of (HCC.out _ (hbw.trans ((below_regrown _ _ _).mono hz))))))); refine wpQuiet_nil ?_; intro wq hbq; have HBQ := Lib.hid hbq; clear hq hbq)
        go_roundw
        case rel => exact ⟨i, by omega, by go_num, by rw [← HE.out]; exact hown.keep HBQ.out, hbw.trans (HBQ.out.mono hz)⟩
        case measure => simp [intOf]; omega
      · have HP2 : Hid (insPos es (rankTo es i) i p = insPos es (rankTo es i) i (rankTo es i).length) := by show _ = _; rw [← hpos.out, HP.out]; rfl
        go_wp2_with ((with_reducible refine wp_region_qb ?_ ?_ (fun hq => ?_)); (focus kernel_rfl); (focus kernel_rfl); (repeat (go_big_quiet_step ((go_at_call 136; exact Calls.regrown_of (HCC.out _ (hbw.trans ((below_regrown _ _ _).mono hz))))))); refine wpQuiet_nil ?_; intro wq hbq; have HBQ := Lib.hid hbq; clear hq hbq)
        have OQ := hown.keep HBQ.out
        have hp1 := (HBQ.out.cell (p := ⟨g, p, none⟩) (by exact hgb)).trans hcp
        have hp2 := (HBQ.out.cell (p := ⟨g, p + 1, none⟩) (by exact hgb)).trans hcq
        have fz : ∀ j, wq.frozen? ⟨g, j, none⟩ = false := OQ.fz (by omega)
        have hbq : Below w3.heap.size w3 wq := hbw.trans (HBQ.out.mono hz)
        have OQH := Lib.hid OQ
        clear hcp hcq OQ hown hbw
        go_wp2_with fail
        go_region
        go_wp2_with fail
        have S1 := OQH.out.st1 rfl (p + 1) (by rw [hlen]; omega) (Int.ofNat x) (.int .i64 x) rfl
        have S2 := S1.1.st1 rfl p (by rw [List.length_set, hlen]; omega) (Int.ofNat i) (.int .i64 i) rfl
        go_roundw
        case rel => exact ⟨p, by omega, rfl, by rw [← HSW.out]; exact S2.1.keep ((Below.refl _ _).drew), HP2, ((hbq.setCell (by simp; omega) _).setCell (by simp; omega) _).drew⟩
        case measure => simp [intOf]
def SortedRow (es : List Ent) (w3 : World) (g cg : Nat) (e : Ending) (w' : World) : Prop := e = .returned (.tuple #[]) ∧ Own EInt w' w3.heap.size (.slice (some ⟨g, 0, none⟩) es.length cg) ((rankTo es es.length).map Int.ofNat) ∧ Below w3.heap.size w3 w'
set_option maxHeartbeats 4000000 in
set_option maxRecDepth 100000 in
theorem pdq_any (es : List Ent) (bp g cg : Nat) (w3 w : World) (h1 : 1 ≤ es.length) (h12 : es.length ≤ 12) (lim : Int)
    (HC : ∀ W, Below w3.heap.size w3 W → ∀ i k : Nat, i < es.length → k < es.length → Calls Try.prog 136 #[.int .i64 i, .int .i64 k, .pointer (some ⟨bp, 0, none⟩)] W fun e w' => e = .returned (.int .i64 (cmpI es i k)) ∧ Below W.heap.size W w')
    (hbw0 : Below w3.heap.size w3 w) (hown0 : Own EInt w w3.heap.size (.slice (some ⟨g, 0, none⟩) es.length cg) (rowJ es es.length 0 0)) :
    Calls Try.prog 192 #[.slice (some ⟨g, 0, none⟩) es.length cg, .int .i64 0, .int .i64 es.length, .int .i64 lim, .func (.func 136) #[] #[.pointer (some ⟨bp, 0, none⟩)]] w (SortedRow es w3 g cg) := by
  have HI : Hid (Calls Try.prog 222 #[.slice (some ⟨g, 0, none⟩) es.length cg, .int .i64 0, .int .i64 es.length, .func (.func 136) #[] #[.pointer (some ⟨bp, 0, none⟩)]] w (SortedRow es w3 g cg)) := insSort_any es bp g cg w3 w h1 h12 HC hbw0 hown0
  clear HC hbw0 hown0
  go_enter Try.func192, Try.ntmps192
  go_wp2_with fail
  go_loopw [1, 2] (fun t1 t2 wr => t1 = .int .i64 0 ∧ t2 = .int .i64 es.length ∧ wr = w) (fun _ _ _ => 0)
  case atStart => exact ⟨rfl, rfl, rfl⟩
  case round =>
    obtain ⟨rfl, rfl, rfl⟩ := hrel
    go_wp2_with fail
    refine HI.out.mono ?_
    rintro e w' ⟨rfl, hO, hB⟩
    have HO := Lib.hid hO
    have HBB := Lib.hid hB
    clear hO hB
    go_wp2_with fail
    go_end0
    exact ⟨rfl, HO.out, HBB.out⟩
theorem bitsLen_any (n : Int) (h0 : 0 ≤ n) (h1 : n ≤ 18446744073709551615) (w : World) : Calls Try.prog 193 #[.int .u64 n] w fun e w' => (∃ l : Int, e = .returned (.int .i64 l)) ∧ w' = w :=
  (Any.bits_Len Try.sl125 n w h0 h1).mono fun _ _ ⟨he, hw⟩ => ⟨⟨_, he⟩, hw⟩
set_option maxHeartbeats 4000000 in
set_option maxRecDepth 100000 in
theorem sortFunc_any (es : List Ent) (bp g cg : Nat) (w3 w : World) (h1 : 1 ≤ es.length) (h12 : es.length ≤ 12)
    (HC : ∀ W, Below w3.heap.size w3 W → ∀ i k : Nat, i < es.length → k < es.length → Calls Try.prog 136 #[.int .i64 i, .int .i64 k, .pointer (some ⟨bp, 0, none⟩)] W fun e w' => e = .returned (.int .i64 (cmpI es i k)) ∧ Below W.heap.size W w')
    (hbw0 : Below w3.heap.size w3 w) (hown0 : Own EInt w w3.heap.size (.slice (some ⟨g, 0, none⟩) es.length cg) (rowJ es es.length 0 0)) :
    Calls Try.prog 135 #[.slice (some ⟨g, 0, none⟩) es.length cg, .func (.func 136) #[] #[.pointer (some ⟨bp, 0, none⟩)]] w (SortedRow es w3 g cg) := by
  have HP := Lib.hid (fun lim => pdq_any es bp g cg w3 w h1 h12 lim HC hbw0 hown0)
  have HL : Hid (∀ W, Calls Try.prog 193 #[.int .u64 (es.length : Int)] W fun e w' => (∃ l : Int, e = .returned (.int .i64 l)) ∧ w' = W) := fun W => bitsLen_any _ (by omega) (by omega) W
  have wr : IntKind.u64.wrap (es.length : Int) = es.length := by simp [IntKind.wrap, IntKind.bits, IntKind.signed]; omega
  clear HC hbw0 hown0
  go_enter Try.func135, Try.ntmps135
  go_wp2_with (go_at_call 193; refine (HL.out _).mono ?_; rintro e w' ⟨⟨l, rfl⟩, rfl⟩)
  refine (HP.out _).mono ?_
  rintro e w' ⟨rfl, hO, hB⟩
  have HO := Lib.hid hO
  have HBB := Lib.hid hB
  clear hO hB
  go_wp2_with fail
  go_end0
  exact ⟨rfl, HO.out, HBB.out⟩
theorem range_snoc (k : Nat) : (List.range (k + 1)).map Int.ofNat = (List.range k).map Int.ofNat ++ [(k : Int)] := by rw [List.range_succ, List.map_append]; rfl
set_option maxHeartbeats 4000000 in
set_option maxRecDepth 100000 in
theorem RankingOf_any (v : Value) (es : List Ent) (w : World) {B : Nat} (hv : OwnEnts w B v es) :
    Calls Try.prog 50 #[v] w (RetInts w (ranking es)) := by
  have HC : Hid (∀ W, Below w.heap.size w W → Calls Try.prog 54 #[v] W fun e w' => e = .returned (.bool (entsOk es)) ∧ Below W.heap.size W w') := fun W hW => EntrantsOk_any v es W (hv.keep hW)
  obtain ⟨a, cap, rfl, hcap, hm, _⟩ := hv.get
  cases hok : entsOk es
  · have HE : Hid (ranking es = []) := by show _ = _; simp [ranking, hok]
    rw [hok] at HC
    clear hok hv
    go_enter Try.func50, Try.ntmps50
    go_wp2_with (go_at_call 54; refine (HC.out _ (by (repeat' first | (with_reducible exact Below.refl _ _) | (with_reducible refine Below.alloc ?_ ?_ _) | (with_reducible refine Below.drew ?_) | (with_reducible refine Below.setCell ?_ ?_ _) | (with_reducible refine below_via (by assumption) ?_ ?_) | go_size))).mono ?_; rintro e w' ⟨rfl, hb⟩; obtain ⟨hc, hf, hz, hy⟩ := bcell hb; clear hy; (try simp only [World.size_alloc, World.size_setCell, World.size_drew] at hz); (try have gQ0 : w.heap.size < w'.heap.size := by omega); (try have gQ1 : w.heap.size + 1 < w'.heap.size := by omega); (try have gQ2 : w.heap.size + 1 + 1 < w'.heap.size := by omega); (try have gQ3 : w.heap.size + 1 + 1 + 1 < w'.heap.size := by omega); (try have gQ4 : w.heap.size + 1 + 1 + 1 + 1 < w'.heap.size := by omega); (try have gQ5 : w.heap.size + 1 + 1 + 1 + 1 + 1 < w'.heap.size := by omega); (try have dQ0 : _ < w'.heap.size := Nat.lt_of_lt_of_le dQ0 (by omega)); (try have dQ1 : _ < w'.heap.size := Nat.lt_of_lt_of_le dQ1 (by omega)); (try have dQ2 : _ < w'.heap.size := Nat.lt_of_lt_of_le dQ2 (by omega)); (try have dQ3 : _ < w'.heap.size := Nat.lt_of_lt_of_le dQ3 (by omega)); (try have dQ4 : _ < w'.heap.size := Nat.lt_of_lt_of_le dQ4 (by omega)); (try have dQ5 : _ < w'.heap.size := Nat.lt_of_lt_of_le dQ5 (by omega)); (try (have hnQ := Nat.lt_of_succ_le hz; first | (have _x := dQ0; first | (have _x := dQ1; first | (have _x := dQ2; first | (have _x := dQ3; first | (have _x := dQ4; have dQ5 := hnQ) | have dQ4 := hnQ) | have dQ3 := hnQ) | have dQ2 := hnQ) | have dQ1 := hnQ) | have dQ0 := hnQ)); (try (have hmQ := Nat.lt_of_succ_lt (Nat.lt_of_succ_le hz); first | (have _x := dQ0; first | (have _x := dQ1; first | (have _x := dQ2; first | (have _x := dQ3; first | (have _x := dQ4; have dQ5 := hmQ) | have dQ4 := hmQ) | have dQ3 := hmQ) | have dQ2 := hmQ) | have dQ1 := hmQ) | have dQ0 := hmQ)))
    go_ret
    exact ⟨_, rfl, by rw [HE.out]; exact Own.emptyAny _ _ _ _, by (repeat' first | (with_reducible exact Below.refl _ _) | (with_reducible refine Below.alloc ?_ ?_ _) | (with_reducible refine Below.drew ?_) | (with_reducible refine Below.setCell ?_ ?_ _) | (with_reducible refine below_via (by assumption) ?_ ?_) | go_size)⟩
  obtain ⟨hlen, _⟩ := entsOk_bd hok
  have HE : Hid (ranking es = (rankTo es es.length).map Int.ofNat) := by show _ = _; simp [ranking, hok]
  have HCM := Lib.hid (fun (W : World) (bp : Nat) (h1 : bp < W.heap.size) (h2 : W.cell? ⟨bp, 0, none⟩ = some (.slice a es.length cap)) (h3 : Below w.heap.size w W) (i k : Nat) (hi : i < es.length) (hk : k < es.length) => rankCmp_any es hok bp a cap W h1 h2 (hv.keep h3) i k hi hk)
  rw [hok] at HC
  clear hv hok
  go_enter Try.func50, Try.ntmps50
  go_wp2_with fail
  refine (HC.out _ (by (repeat' first | (with_reducible exact Below.refl _ _) | (with_reducible refine Below.alloc ?_ ?_ _) | (with_reducible refine Below.drew ?_) | (with_reducible refine Below.setCell ?_ ?_ _) | (with_reducible refine below_via (by assumption) ?_ ?_) | go_size))).mono ?_
  rintro e w' ⟨rfl, hb⟩
  obtain ⟨w3, rfl⟩ : ∃ w3 : World, w3 = w' := ⟨_, rfl⟩
  have HW3 := Lib.hid (show Below w.heap.size w w3 by (repeat' first | (with_reducible exact Below.refl _ _) | (with_reducible refine Below.alloc ?_ ?_ _) | (with_reducible refine Below.drew ?_) | (with_reducible refine Below.setCell ?_ ?_ _) | (with_reducible refine below_via (by assumption) ?_ ?_) | go_size))
  have hbx : w3.cell? ⟨w.heap.size, 0, none⟩ = some (.slice a es.length cap) := (hb.cell (by simp)).trans (by simp)
  have hz3 : w.heap.size < w3.heap.size := by have := hb.size; simp at this; omega
  clear hb
  go_wp2_with fail
  go_loopw [3, 11] (fun lv i wr => ∃ k : Nat, k ≤ es.length ∧ i = .int .i64 k ∧ Own EInt wr w3.heap.size lv ((List.range k).map Int.ofNat) ∧ Below w3.heap.size w3 wr) (fun _ i _ => es.length - (intOf i).toNat)
  case atStart => exact ⟨0, by omega, rfl, Own.emptyAny _ _ _ _, by (repeat' first | (with_reducible exact Below.refl _ _) | (with_reducible refine Below.alloc ?_ ?_ _) | (with_reducible refine Below.drew ?_) | (with_reducible refine Below.setCell ?_ ?_ _) | (with_reducible refine below_via (by assumption) ?_ ?_) | go_size)⟩
  case round =>
    obtain ⟨k, hk, rfl, hown, hbw⟩ := hrel
    have hz := hbw.size
    by_cases hlt : k < es.length
    · have HS := Lib.hid (range_snoc k)
      have hl : ((List.range k).map Int.ofNat).length = k := by simp
      have gW : w.heap.size < wr.heap.size := by omega
      generalize (List.range k).map Int.ofNat = D at *
      go_wp2_with (at_builtin; (refine append1 (E := EInt) (l := D) rfl rfl _ _ 33 rfl Try.underlying33 rfl hown (k : Int) rfl (by omega) (by omega) ?_); intro v' w2 hown2 hb2 hg2)
      go_roundw
      case rel => exact ⟨k + 1, by omega, by go_num, by rw [HS.out]; exact hown2, hbw.trans hb2⟩
      case measure => simp [intOf]; omega
    · obtain rfl : k = es.length := by omega
      obtain ⟨g0, cg, hv0, _, _, hgg⟩ := hown.form
      obtain ⟨b9, hb9, _⟩ := hgg 0 (by simp; omega)
      rw [rowJ_start es es.length (by omega)] at hown
      subst hb9
      have hl : ((List.range es.length).map Int.ofNat).length = es.length := by simp
      rw [hl] at hv0
      subst hv0
      have HSF : Hid (Calls Try.prog 135 #[.slice (some ⟨b9, 0, none⟩) es.length cg, .func (.func 136) #[] #[.pointer (some ⟨w.heap.size, 0, none⟩)]] wr (SortedRow es w3 b9 cg)) :=
        sortFunc_any es w.heap.size b9 cg w3 wr (by omega) (by omega) (fun W hW i k hi hk => HCM.out W w.heap.size (by have := hW.size; omega) ((hW.cell (by exact hz3)).trans hbx) (HW3.out.trans (hW.mono (Nat.le_of_lt hz3))) i k hi hk) hbw hown
      clear hgg hown hbx
      go_wp2_with fail
      refine HSF.out.mono ?_
      rintro e w' ⟨rfl, hO, hB⟩
      have HO := Lib.hid hO
      have HBB := Lib.hid hB
      clear hO hB
      go_wp2_with fail
      go_ret
      exact ⟨_, rfl, by rw [HE.out]; exact HO.out.mono (Nat.le_of_lt hz3), HW3.out.trans (HBB.out.mono (Nat.le_of_lt hz3))⟩
end Go.Proofs.Ytfpofhkggojaoaa
