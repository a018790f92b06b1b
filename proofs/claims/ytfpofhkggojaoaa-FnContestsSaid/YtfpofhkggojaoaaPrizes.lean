/- Prizes: contracts of PrizesOf and the reference's. Conditions: none but the slices' form. -/
import Derived.Test.YtfpofhkggojaoaaPlaces
import Derived.Test.YtfpofhkggojaoaaArgI
set_option linter.unusedVariables false
set_option linter.unusedSimpArgs false
namespace Peg
def shStep (pr : List Int) (place : Int) (s : Int × Int) (o : Int) : Int × Int :=
  if o = place then (if place - 1 + s.2 < pr.length then s.1 + gD pr 0 (place - 1 + s.2).toNat else s.1, s.2 + 1) else s
def shTo (l pr : List Int) (place : Int) (m : Nat) : Int × Int := (l.take m).foldl (shStep pr place) (0, 0)
def sharesTo (l pr : List Int) (k : Nat) : List Int := (List.range k).map fun i => (shTo l pr (gD l 0 i) l.length).1 / (shTo l pr (gD l 0 i) l.length).2
def prizesOk (pr : List Int) : Bool := decide (pr.length ≤ 12) && pr.all fun n => inR n 0 100000
def prizesOf (es : List Ent) (pr : List Int) : List Int := if entsOk es = true then if prizesOk pr = true then sharesTo (places es) pr (places es).length else [] else []
theorem shTo_succ {l pr : List Int} {place : Int} {m : Nat} (h : m < l.length) : shTo l pr place (m + 1) = shStep pr place (shTo l pr place m) (gD l 0 m) := by
  simp only [shTo, take_gD l 0 m h, List.foldl_append]; rfl
theorem sharesTo_succ (l pr : List Int) (k : Nat) : sharesTo l pr (k + 1) = sharesTo l pr k ++ [(shTo l pr (gD l 0 k) l.length).1 / (shTo l pr (gD l 0 k) l.length).2] := by
  simp [sharesTo, List.range_succ]
theorem sharesTo_len (l pr : List Int) (k : Nat) : (sharesTo l pr k).length = k := by simp [sharesTo]
theorem shTo_bd {l pr : List Int} {place : Int} (hpr : ∀ i, i < pr.length → 0 ≤ gD pr 0 i ∧ gD pr 0 i ≤ 100000) (hp : 1 ≤ place) : ∀ m, m ≤ l.length → (0 ≤ (shTo l pr place m).2 ∧ (shTo l pr place m).2 ≤ m) ∧ 0 ≤ (shTo l pr place m).1 ∧ (shTo l pr place m).1 ≤ 100000 * m := by
  intro m
  induction m with
  | zero => intro _; simp [shTo]
  | succ m ih =>
    intro hm
    have h := ih (by omega)
    rw [shTo_succ (by omega)]
    unfold shStep
    split
    · split
      · rename_i h2
        have := hpr (place - 1 + (shTo l pr place m).2).toNat (by omega)
        constructor <;> constructor <;> simp only [] <;> omega
      · constructor <;> constructor <;> simp only [] <;> omega
    · constructor <;> constructor <;> omega
theorem shTo_pos {l pr : List Int} {place : Int} {k : Nat} (hpr : ∀ i, i < pr.length → 0 ≤ gD pr 0 i ∧ gD pr 0 i ≤ 100000) (hp : 1 ≤ place) (hk : gD l 0 k = place) : ∀ m, k < m → m ≤ l.length → 1 ≤ (shTo l pr place m).2 := by
  intro m
  induction m with
  | zero => intro h; omega
  | succ m ih =>
    intro h hm
    rw [shTo_succ (by omega)]
    have hb := shTo_bd (l := l) hpr hp m (by omega)
    unfold shStep
    split
    · simp only []; omega
    · rename_i h2
      by_cases hkm : k = m
      · subst hkm; exact absurd hk h2
      · exact ih (by omega) (by omega)
theorem prizesOk_yes {pr : List Int} (h : prizesOk pr = true) : pr.length ≤ 12 ∧ ∀ i, i < pr.length → 0 ≤ gD pr 0 i ∧ gD pr 0 i ≤ 100000 := by
  simp only [prizesOk, Bool.and_eq_true, decide_eq_true_eq] at h
  refine ⟨h.1, fun i hi => ?_⟩
  exact inR_iff.1 (List.all_eq_true.1 h.2 _ (gD_mem pr 0 i hi))
theorem places_bd (es : List Ent) : (places es).length ≤ 12 ∧ ∀ i, i < (places es).length → 1 ≤ gD (places es) 0 i ∧ gD (places es) 0 i ≤ 13 := by
  unfold places
  split
  · rename_i h
    have hb := entsOk_bd h
    refine ⟨by rw [placesTo_len]; omega, fun i hi => ?_⟩
    rw [placesTo_len] at hi
    rw [gD_lt _ _ _ (by rw [placesTo_len]; exact hi)]
    have := placeTo_bd es (totalOf (gD es Ent0 i).rs) es.length
    simp [placesTo]; omega
  · simp
end Peg
namespace Go.Proofs.Ytfpofhkggojaoaa
open Go.ChangeShapes Go.WideShapes Go.ChangeAt Go.RowKit Peg Go.Sort
set_option maxHeartbeats 1000000 in
set_option maxRecDepth 100000 in
theorem PrizesOf_any (v vp : Value) (es : List Ent) (pr : List Int) (w : World) {B B2 : Nat} (hv : OwnEnts w B v es) (hp : Own EInt w B2 vp pr) :
    Calls Try.prog 52 #[v, vp] w (RetInts w (prizesOf es pr)) := by
  have HC : Hid (Calls Try.prog 54 #[v] w fun e w' => e = .returned (.bool (entsOk es)) ∧ Below w.heap.size w w') := EntrantsOk_any v es w hv
  obtain ⟨ap, capp, rfl, hpm, hgetp⟩ := hp.intG
  have HGP := Lib.hid hgetp
  clear hgetp hp
  cases hok : entsOk es
  · have HE : Hid (prizesOf es pr = []) := by show _ = _; simp [prizesOf, hok]
    rw [hok] at HC
    clear hok
    go_enter Try.func52, Try.ntmps52
    go_wp2_with (go_at_call 54; refine HC.out.mono ?_; rintro e w' ⟨rfl, hb⟩)
    go_ret
    exact ⟨_, rfl, by rw [HE.out]; exact Own.emptyAny _ _ _ _, hb⟩
  rw [hok] at HC
  have HF : Hid (prizesOf es pr = if prizesOk pr = true then sharesTo (places es) pr (places es).length else []) := by show _ = _; simp [prizesOf, hok]
  clear hok
  by_cases h12 : pr.length ≤ 12
  rotate_left
  · have HE : Hid (prizesOf es pr = []) := by show _ = _; rw [HF.out]; simp [prizesOk, h12]
    go_enter Try.func52, Try.ntmps52
    go_wp2_with (go_at_call 54; refine HC.out.mono ?_; rintro e w' ⟨rfl, hb⟩)
    go_ret
    exact ⟨_, rfl, by rw [HE.out]; exact Own.emptyAny _ _ _ _, hb⟩
  have HPL : Hid (∀ W, Below w.heap.size w W → Calls Try.prog 51 #[v] W (RetInts W (places es))) := fun W hW => PlacesOf_any v es W (hv.keep hW)
  have HOK : Hid (pr.all (fun n => inR n 0 100000) = prizesOk pr) := by show _ = _; simp [prizesOk, h12]
  obtain ⟨a, cap, rfl, _⟩ := hv.get
  clear hv
  go_enter Try.func52, Try.ntmps52
  go_wp2_with (go_at_call 54; refine HC.out.mono ?_; rintro e w' ⟨rfl, hb⟩)
  obtain ⟨w3, rfl⟩ : ∃ w3 : World, w3 = w' := ⟨_, rfl⟩
  have HW3 := Lib.hid hb
  have hz3 := hb.size
  clear hb
  go_loopw [25] (fun i wr => ∃ k : Nat, k ≤ pr.length ∧ i = .int .i64 k ∧ Hid ((pr.take k).all (fun n => inR n 0 100000) = true) ∧ wr = w3) (fun i _ => pr.length - (intOf i).toNat)
  case atStart => exact ⟨0, by omega, rfl, by show _ = _; simp, rfl⟩
  case round =>
    obtain ⟨k, hk, rfl, hall, rfl⟩ := hrel
    by_cases hlt : k < pr.length
    · obtain ⟨bp, rfl, _, hbp, hcp⟩ := HGP.out k hlt
      rw [← HW3.out.cell (by simpa using hbp)] at hcp
      have gW : bp < wr.heap.size := by omega
      have HY := Lib.hid (fun h => all_take_yes (P := fun n => inR n 0 100000) (l := pr) (d := 0) hlt hall.out h)
      have HN := Lib.hid (fun h => all_take_no (P := fun n => inR n 0 100000) (l := pr) (d := 0) hlt h)
      have HI : Hid (∀ W, Calls Try.prog 125 #[.int .i64 (gD pr 0 k), .int .i64 0, .int .i64 100000] W fun e w' => e = .returned (.bool (inR (gD pr 0 k) 0 100000)) ∧ W = w') := fun W => within_any _ 0 100000 W
      generalize gD pr 0 k = x at *
      cases hx : inR x 0 100000
      · have HE : Hid (prizesOf es pr = []) := by show _ = _; rw [HF.out, ← HOK.out, HN.out hx]; rfl
        rw [hx] at HI
        clear HY HN hx
        go_wp2_with (go_at_call 125; (with_reducible refine (HI.out _).mono ?_); rintro e w' ⟨rfl, rfl⟩)
        go_ret
        exact ⟨_, rfl, by rw [HE.out]; exact Own.emptyAny _ _ _ _, HW3.out⟩
      · have HN2 := Lib.hid (HY.out hx)
        rw [hx] at HI
        clear HY HN hx
        go_wp2_with (go_at_call 125; (with_reducible refine (HI.out _).mono ?_); rintro e w' ⟨rfl, rfl⟩)
        go_roundw
        case rel => exact ⟨k + 1, by omega, by go_num, HN2, trivial⟩
        case measure => simp [intOf]; omega
    · obtain rfl : k = pr.length := by omega
      have hpok : prizesOk pr = true := by rw [← HOK.out]; have := hall.out; rwa [List.take_length] at this
      have HE : Hid (prizesOf es pr = sharesTo (places es) pr (places es).length) := by show _ = _; rw [HF.out, hpok]; rfl
      have HPR := Lib.hid (prizesOk_yes hpok).2
      clear hpok
      obtain ⟨hD12, hD⟩ := places_bd es
      have HDB := Lib.hid hD
      go_wp2_with fail
      refine (HPL.out _ HW3.out).mono ?_
      rintro e w' ⟨vD, rfl, hownD, hb⟩
      obtain ⟨w4, rfl⟩ : ∃ w4 : World, w4 = w' := ⟨_, rfl⟩
      generalize places es = D at *
      obtain ⟨aD, capD, rfl, hDm, hgetD⟩ := hownD.intG
      have HGD := Lib.hid hgetD
      have HW4 := Lib.hid (HW3.out.trans (hb.mono hz3))
      have hz4 := hb.size
      clear hb hgetD hownD hD
      go_wp2_with fail
      go_loopw [8, 38] (fun lv i wr => ∃ k : Nat, k ≤ D.length ∧ i = .int .i64 k ∧ Own EInt wr w4.heap.size lv (sharesTo D pr k) ∧ Below w4.heap.size w4 wr) (fun _ i _ => D.length - (intOf i).toNat)
      case atStart => exact ⟨0, by omega, rfl, Own.emptyAny _ _ _ _, by (repeat' first | (with_reducible exact Below.refl _ _) | (with_reducible refine Below.alloc ?_ ?_ _) | (with_reducible refine Below.drew ?_) | (with_reducible refine Below.setCell ?_ ?_ _) | (with_reducible refine below_via (by assumption) ?_ ?_) | go_size)⟩
      case round =>
        obtain ⟨k, hk, rfl, hown, hbw⟩ := hrel
        have hz := hbw.size
        by_cases hlt : k < D.length
        rotate_left
        · obtain rfl : k = D.length := by omega
          go_wp2_with fail
          go_ret
          exact ⟨_, rfl, by rw [HE.out]; exact hown.mono (by omega), HW4.out.trans (hbw.mono (by omega))⟩
        obtain ⟨wo, rfl⟩ : ∃ wo : World, wo = wr := ⟨_, rfl⟩
        have HS := Lib.hid (sharesTo_succ D pr k)
        have hlen2 := sharesTo_len D pr k
        have HOW := Lib.hid hown
        clear hown
        obtain ⟨b1, rfl, _, hb1, hc0⟩ := HGD.out k hlt
        rw [← hbw.cell (by simpa using hb1)] at hc0
        have gW : b1 < wo.heap.size := by omega
        have hpl := HDB.out k hlt
        have HBD := Lib.hid (shTo_bd (l := D) HPR.out hpl.1)
        have HPO := Lib.hid (shTo_pos (l := D) (k := k) HPR.out hpl.1 rfl)
        have HSS := Lib.hid (fun m (h : m < D.length) => shTo_succ (l := D) (pr := pr) (place := gD D 0 k) h)
        have HS0 : Hid (shTo D pr (gD D 0 k) 0 = (0, 0)) := rfl
        generalize gD D 0 k = place at *
        generalize sharesTo D pr k = SH at *
        go_wp2_with fail
        go_loopw [11, 12, 44] (fun s c i wr => ∃ m : Nat, m ≤ D.length ∧ i = .int .i64 m ∧ s = .int .i64 (shTo D pr place m).1 ∧ c = .int .i64 (shTo D pr place m).2 ∧ wr = wo) (fun _ _ i _ => D.length - (intOf i).toNat)
        case atStart => exact ⟨0, by omega, rfl, by rw [HS0.out], by rw [HS0.out], rfl⟩
        case round =>
          obtain ⟨m, hmk, rfl, rfl, rfl, rfl⟩ := hrel
          have hbd := HBD.out m hmk
          by_cases hmt : m < D.length
          · obtain ⟨b2, e2, _, hb2, hd0⟩ := HGD.out m hmt
            obtain rfl : b1 = b2 := by simpa using e2
            clear e2
            rw [← hbw.cell (by simpa using hb1)] at hd0
            have HST := Lib.hid (HSS.out m hmt)
            generalize gD D 0 m = o at *
            generalize hsm : shTo D pr place m = sm at *
            obtain ⟨s, c⟩ := sm
            clear hsm
            simp only [] at hbd
            by_cases hop : o = place
            · subst hop
              by_cases hin : o - 1 + c < pr.length
              · obtain ⟨bp, rfl, _, hbp, hcp⟩ := HGP.out (o - 1 + c).toNat (by omega)
                rw [← HW4.out.cell (by simpa using hbp), ← hbw.cell (by simp; omega)] at hcp
                have gWp : bp < wr.heap.size := by omega
                have hpx := HPR.out (o - 1 + c).toNat (by omega)
                have HV : Hid (shTo D pr o (m + 1) = (s + gD pr 0 (o - 1 + c).toNat, c + 1)) := by show _ = _; rw [HST.out]; simp [shStep, hin]
                clear HST
                generalize gD pr 0 (o - 1 + c).toNat = x at *
                go_wp2_with fail
                go_roundw
                case rel => exact ⟨m + 1, by omega, by go_num, by rw [HV.out], by rw [HV.out], trivial⟩
                case measure => simp [intOf]; omega
              · have HV : Hid (shTo D pr o (m + 1) = (s, c + 1)) := by show _ = _; rw [HST.out]; simp [shStep, hin]
                clear HST
                go_wp2_with fail
                go_roundw
                case rel => exact ⟨m + 1, by omega, by go_num, by rw [HV.out], by rw [HV.out], trivial⟩
                case measure => simp [intOf]; omega
            · have HV : Hid (shTo D pr place (m + 1) = (s, c)) := by show _ = _; rw [HST.out]; simp [shStep, hop]
              clear HST
              have hne : (o != place) = true := by simpa using hop
              go_wp2_with fail
              go_roundw
              case rel => exact ⟨m + 1, by omega, by go_num, by rw [HV.out], by rw [HV.out], trivial⟩
              case measure => simp [intOf]; omega
          · obtain rfl : m = D.length := by omega
            have hpos := HPO.out D.length hlt (Nat.le_refl _)
            generalize hsm : shTo D pr place D.length = sm at *
            obtain ⟨s, c⟩ := sm
            clear hsm
            simp only [] at hbd hpos
            have hwq : w4.heap.size ≤ wr.heap.size := by omega
            have HO2 := HOW
            have hSH : SH.length ≤ 12 := by omega
            go_wp2_with (at_builtin; (refine append1 (E := EInt) (l := SH) rfl rfl _ _ 33 rfl Try.underlying33 rfl HO2.out (s / c) rfl (by omega) (by omega) ?_); intro v' w2 hown7 hb7 hg7)
            go_roundw
            case rel => exact ⟨k + 1, by omega, by go_num, by rw [HS.out]; exact hown7, hbw.trans hb7⟩
            case measure => simp [intOf]; omega
end Go.Proofs.Ytfpofhkggojaoaa
