/- Places: contracts of PlacesOf and the reference's. Conditions: none but the slice's form. -/
import Derived.Test.YtfpofhkggojaoaaEnt
import Derived.Test.YtfpofhkggojaoaaEntOk
set_option linter.unusedVariables false
set_option linter.unusedSimpArgs false
namespace Peg
def placeTo (es : List Ent) (T : Int) (j : Nat) : Int := 1 + ((es.take j).filter fun f => decide (T < totalOf f.rs)).length
def placesTo (es : List Ent) (k : Nat) : List Int := (List.range k).map fun i => placeTo es (totalOf (gD es Ent0 i).rs) es.length
def places (es : List Ent) : List Int := if entsOk es = true then placesTo es es.length else []
theorem placeTo_yes {es : List Ent} {T : Int} {j : Nat} (h : j < es.length) (h1 : T < totalOf (gD es Ent0 j).rs) : placeTo es T (j + 1) = placeTo es T j + 1 := by
  simp only [placeTo, take_gD es Ent0 j h, List.filter_append, List.length_append]
  simp [h1]; omega
theorem placeTo_no {es : List Ent} {T : Int} {j : Nat} (h : j < es.length) (h1 : ¬ T < totalOf (gD es Ent0 j).rs) : placeTo es T (j + 1) = placeTo es T j := by
  simp only [placeTo, take_gD es Ent0 j h, List.filter_append, List.length_append]
  simp [h1]
theorem placeTo_bd (es : List Ent) (T : Int) (j : Nat) : 1 ≤ placeTo es T j ∧ placeTo es T j ≤ 1 + j := by
  have h := List.length_filter_le (fun f : Ent => decide (T < totalOf f.rs)) (es.take j)
  have h2 := List.length_take_le j es
  simp only [placeTo]; omega
theorem placesTo_succ (es : List Ent) (k : Nat) : placesTo es (k + 1) = placesTo es k ++ [placeTo es (totalOf (gD es Ent0 k).rs) es.length] := by
  simp [placesTo, List.range_succ]
theorem placesTo_len (es : List Ent) (k : Nat) : (placesTo es k).length = k := by simp [placesTo]
theorem entsOk_bd {es : List Ent} (h : entsOk es = true) : (1 ≤ es.length ∧ es.length ≤ 12) ∧ ∀ k, k < es.length → (gD es Ent0 k).rs.length ≤ 5 := by
  simp only [entsOk, Bool.and_eq_true] at h
  have h1 := inR_iff.1 h.1
  refine ⟨by omega, fun k hk => ?_⟩
  have := List.all_eq_true.1 h.2 k (List.mem_range.2 hk)
  simp only [entAt, entOk1, Bool.and_eq_true] at this
  have := inR_iff.1 this.1.1.1.2
  omega
end Peg
namespace Go.Proofs.Ytfpofhkggojaoaa
open Go.ChangeShapes Go.WideShapes Go.ChangeAt Go.RowKit Peg Go.Sort
set_option maxHeartbeats 1000000 in
set_option maxRecDepth 100000 in
theorem PlacesOf_any (v : Value) (es : List Ent) (w : World) {B : Nat} (hv : OwnEnts w B v es) :
    Calls Try.prog 51 #[v] w (RetInts w (places es)) := by
  have HC : Hid (Calls Try.prog 54 #[v] w fun e w' => e = .returned (.bool (entsOk es)) ∧ Below w.heap.size w w') := EntrantsOk_any v es w hv
  cases hok : entsOk es
  · have HE : Hid (places es = []) := by show _ = _; simp [places, hok]
    rw [hok] at HC
    clear hok
    go_enter Try.func51, Try.ntmps51
    go_wp2_with (go_at_call 54; refine HC.out.mono ?_; rintro e w' ⟨rfl, hb⟩)
    go_ret
    exact ⟨_, rfl, by rw [HE.out]; exact Own.emptyAny _ _ _ _, hb⟩
  obtain ⟨hlen, hlr⟩ := entsOk_bd hok
  have HLR := Lib.hid hlr
  have HE : Hid (places es = placesTo es es.length) := by show _ = _; simp [places, hok]
  rw [hok] at HC
  obtain ⟨a, cap, rfl, hcap, hm, hget⟩ := hv.get
  have HG := Lib.hid hget
  clear hget hv hok hlr
  go_enter Try.func51, Try.ntmps51
  go_wp2_with (go_at_call 54; refine HC.out.mono ?_; rintro e w' ⟨rfl, hb⟩)
  obtain ⟨w3, rfl⟩ : ∃ w3 : World, w3 = w' := ⟨_, rfl⟩
  have HW3 := Lib.hid hb
  have hz3 := hb.size
  clear hb
  go_loopw [3, 15] (fun lv i wr => ∃ k : Nat, k ≤ es.length ∧ i = .int .i64 k ∧ Own EInt wr w3.heap.size lv (placesTo es k) ∧ Below w3.heap.size w3 wr) (fun _ i _ => es.length - (intOf i).toNat)
  case atStart => exact ⟨0, by omega, rfl, Own.emptyAny _ _ _ _, by (repeat' first | (with_reducible exact Below.refl _ _) | (with_reducible refine Below.alloc ?_ ?_ _) | (with_reducible refine Below.drew ?_) | (with_reducible refine Below.setCell ?_ ?_ _) | (with_reducible refine below_via (by assumption) ?_ ?_) | go_size)⟩
  case round =>
    obtain ⟨k, hk, rfl, hown, hbw⟩ := hrel
    obtain ⟨wo, rfl⟩ : ∃ wo : World, wo = wr := ⟨_, rfl⟩
    have hz := hbw.size
    by_cases hlt : k < es.length
    rotate_left
    · obtain rfl : k = es.length := by omega
      go_wp2_with fail
      go_ret
      exact ⟨_, rfl, by rw [HE.out]; exact hown.mono hz3, HW3.out.trans (hbw.mono hz3)⟩
    have HS := Lib.hid (placesTo_succ es k)
    have hlen2 := placesTo_len es k
    have HOW := Lib.hid hown
    clear hown
    obtain ⟨b1, p1, q1, rfl, hb1, hc0, hc1, ho1⟩ := HG.out k hlt
    rw [← HW3.out.cell (by simpa using hb1), ← hbw.cell (by simp; omega)] at hc0 hc1
    have gW : b1 < wo.heap.size := by omega
    have HT1 : Hid (∀ W, Below wo.heap.size wo W → Calls Try.prog 55 #[.agg #[.int .i64 (gD es Ent0 k).n, .slice p1 (gD es Ent0 k).rs.length q1]] W fun e w' => e = .returned (.int .i64 (totalOf (gD es Ent0 k).rs)) ∧ Below W.heap.size W w') := fun W hW => TotalOf_any _ _ _ (by have := HLR.out k hlt; omega) W (((ho1.keep HW3.out).keep hbw).keep hW)
    have HSZ : Hid (placeTo es (totalOf (gD es Ent0 k).rs) 0 = 1) := by show _ = _; simp [placeTo]
    have hTb := totalOf_bd (gD es Ent0 k).rs
    have hlk := HLR.out k hlt
    clear ho1
    generalize gD es Ent0 k = e at *
    generalize hT : totalOf e.rs = T at *
    clear hT
    generalize placesTo es k = D at *
    go_wp2_with fail
    go_loopw [6, 21] (fun pl i wr => ∃ m : Nat, m ≤ es.length ∧ i = .int .i64 m ∧ pl = .int .i64 (placeTo es T m) ∧ Below (wo.heap.size + 1) (wo.alloc (.cells #[.int .i64 e.n, .slice p1 e.rs.length q1] 88)) wr) (fun _ i _ => es.length - (intOf i).toNat)
    case atStart => exact ⟨0, by omega, rfl, by rw [HSZ.out], Below.refl _ _⟩
    case round =>
      obtain ⟨m, hmk, rfl, rfl, hbq⟩ := hrel
      have hzq : wo.heap.size + 1 ≤ wr.heap.size := by have := hbq.size; simpa using this
      have HBA : Hid (Below wo.heap.size wo wr) := ((Below.refl _ _).alloc (Nat.le_refl _) _).trans (hbq.mono (by omega))
      have hbox : ∀ j, wr.cell? ⟨wo.heap.size, j, none⟩ = #[Value.int .i64 e.n, .slice p1 e.rs.length q1][j]? := fun j => (hbq.cell (by simp)).trans (by simp)
      have gW0 : wo.heap.size < wr.heap.size := by omega
      have hpb := placeTo_bd es T m
      by_cases hmt : m < es.length
      · obtain ⟨b2, p2, q2, e2, hb2, hd0, hd1, ho2⟩ := HG.out m hmt
        obtain rfl : b1 = b2 := by simpa using e2
        clear e2
        rw [← HW3.out.cell (by simpa using hb2), ← hbw.cell (by simp; omega), ← HBA.out.cell (by simp; omega)] at hd0 hd1
        have gW2 : b1 < wr.heap.size := by omega
        have HT2 : Hid (∀ W, Below wo.heap.size wo W → Calls Try.prog 55 #[.agg #[.int .i64 (gD es Ent0 m).n, .slice p2 (gD es Ent0 m).rs.length q2]] W fun e w' => e = .returned (.int .i64 (totalOf (gD es Ent0 m).rs)) ∧ Below W.heap.size W w') := fun W hW => TotalOf_any _ _ _ (by have := HLR.out m hmt; omega) W (((ho2.keep HW3.out).keep hbw).keep hW)
        have HY := Lib.hid (fun h => placeTo_yes (es := es) (T := T) hmt h)
        have HN := Lib.hid (fun h => placeTo_no (es := es) (T := T) hmt h)
        have hTb2 := totalOf_bd (gD es Ent0 m).rs
        have hlm := HLR.out m hmt
        clear ho2
        generalize gD es Ent0 m = f at *
        generalize hU : totalOf f.rs = U at *
        clear hU
        by_cases hgt : T < U
        · have HV := Lib.hid (HY.out hgt)
          have hgd : decide (U > T) = true := by simpa using hgt
          clear HY HN
          generalize placeTo es T m = P0 at *
          go_wp2_with ((with_reducible refine wp_region_qb ?_ ?_ (fun hq => ?_)); (focus kernel_rfl); (focus kernel_rfl); (repeat (go_big_quiet_step ((go_at_call 55; (first | (with_reducible exact Calls.regrown_of (HT1.out _ ((HBA.out.alloc (by omega) _).trans ((below_regrown _ _ _).mono (by simp; omega))))) | (with_reducible exact Calls.regrown_of (HT2.out _ ((HBA.out.alloc (by omega) _).trans ((below_regrown _ _ _).mono (by simp; omega)))))))))); refine wpQuiet_nil ?_; intro wx hb; have HX := Lib.hid hb; clear hb)
          go_roundw
          case rel => exact ⟨m + 1, by omega, by go_num, by rw [HV.out], hbq.trans ((((Below.refl _ _).alloc (Nat.le_refl _) _).trans (HX.out.mono (by simp))).mono (by simpa using hbq.size))⟩
          case measure => simp [intOf]; omega
        · have HV := Lib.hid (HN.out hgt)
          have hgd : decide (U > T) = false := by simpa using hgt
          clear HY HN
          generalize placeTo es T m = P0 at *
          go_wp2_with ((with_reducible refine wp_region_qb ?_ ?_ (fun hq => ?_)); (focus kernel_rfl); (focus kernel_rfl); (repeat (go_big_quiet_step ((go_at_call 55; (first | (with_reducible exact Calls.regrown_of (HT1.out _ ((HBA.out.alloc (by omega) _).trans ((below_regrown _ _ _).mono (by simp; omega))))) | (with_reducible exact Calls.regrown_of (HT2.out _ ((HBA.out.alloc (by omega) _).trans ((below_regrown _ _ _).mono (by simp; omega)))))))))); refine wpQuiet_nil ?_; intro wx hb; have HX := Lib.hid hb; clear hb)
          go_roundw
          case rel => exact ⟨m + 1, by omega, by go_num, by rw [HV.out], hbq.trans ((((Below.refl _ _).alloc (Nat.le_refl _) _).trans (HX.out.mono (by simp))).mono (by simpa using hbq.size))⟩
          case measure => simp [intOf]; omega
      · obtain rfl : m = es.length := by omega
        generalize placeTo es T es.length = P0 at *
        have HO2 := Lib.hid (HOW.out.keep HBA.out)
        go_wp2_with (at_builtin; (refine append1 (E := EInt) (l := D) rfl rfl _ _ 33 rfl Try.underlying33 rfl HO2.out P0 rfl (by omega) (by omega) ?_); intro v' w2 hown7 hb7 hg7)
        go_roundw
        case rel => exact ⟨k + 1, by omega, by go_num, by rw [HS.out]; exact hown7, (hbw.trans (HBA.out.mono (by omega))).trans hb7⟩
        case measure => simp [intOf]; omega
end Go.Proofs.Ytfpofhkggojaoaa
