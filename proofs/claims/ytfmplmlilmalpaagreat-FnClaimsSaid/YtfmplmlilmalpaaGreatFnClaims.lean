/- A claim that is shown is true, for all drawn codes. No condition. -/
import Derived.Test.YtfmplmlilmalpaaGreatClD
import Derived.Test.YtfmplmlilmalpaaGreatClT
import Derived.Test.YtfmplmlilmalpaaGreatCur
import Derived.Test.YtfmplmlilmalpaaGreatOpen
import Derived.IntWalk
set_option linter.unusedVariables false
set_option linter.unusedSimpArgs false
namespace Peg
theorem way_solves {a b o s g : Int} (hp : puzzleOk a b o s g = true) (hr : reach a b o s g false = true) : isSolvedBy a b o s g (wayTo a b o s g) = true := by
  obtain ⟨h1, h2, h3⟩ := reach_parts hr
  obtain ⟨i1, i2⟩ := wayRun_plays h1 h3 (pegs s) s h2 hr (Nat.le_refl _)
  have hw : wayTo a b o s g = wayRun a b o g (pegs s) s := by rw [wayTo, if_pos hr]
  have h5 := pegs_le s
  have hpl : playAll a b o s (wayTo a b o s g) = some g := by
    unfold playAll
    rw [if_pos h2, hw, if_pos (by omega)]
    exact i1
  simp [isSolvedBy, isSolution, hp, hpl]
theorem claimOk_way {a b o s g : Int} : claimOk 1 0 (wayTo a b o s g).length = true := by
  have : (wayTo a b o s g).length ≤ 60 := by
    cases hr : reach a b o s g false
    · simp [wayTo, hr]
    · obtain ⟨h1, h2, h3⟩ := reach_parts hr
      have h4 := wayRun_plays h1 h3 (pegs s) s h2 hr (Nat.le_refl _)
      have h5 := pegs_le s
      rw [wayTo, if_pos hr]
      omega
  simp [claimOk, inR, this]
theorem check_way {a b o s g : Int} (hp : puzzleOk a b o s g = true) (hr : reach a b o s g false = true) : checkClaim a b o s g 1 0 (wayTo a b o s g) [] = true := by
  unfold checkClaim
  rw [hp, claimOk_way]
  show checkBody a b o s g 1 0 (wayTo a b o s g) [] = true
  simp [checkBody, way_solves hp hr]
theorem truth_way {a b o s g : Int} (hp : puzzleOk a b o s g = true) (hr : reach a b o s g false = true) : truthOf a b o s g 1 0 (wayTo a b o s g).length = true := by
  unfold truthOf
  rw [hp, claimOk_way]
  simp [truthBody, hr]
theorem truth_not {a b o s g : Int} (hp : puzzleOk a b o s g = true) (hr : reach a b o s g false = false) : truthOf a b o s g 2 0 0 = true := by
  unfold truthOf
  rw [hp]
  simp [truthBody, hr, claimOk, inR]
theorem check_ok {a b o s g k n : Int} {J : List Ln} {W : List Int} (h : checkClaim a b o s g k n J W = true) : puzzleOk a b o s g = true ∧ claimOk k n J.length = true := by
  unfold checkClaim at h
  simp only [Bool.and_eq_true] at h
  exact ⟨h.1, h.2.1⟩
end Peg
namespace Go.Proofs.YtfmplmlilmalpaaGreat.fnClaims
open Go.ChangeShapes Go.WideShapes Go.ChangeAt Go.RowKit Peg Go.Sort

set_option maxHeartbeats 40000000 in
set_option maxRecDepth 100000 in
theorem law_any (v : Value) (l : List Int) (w : World) (hv : Rd EBy w v l) (hok : ∀ y ∈ l, ByOk y) :
    Calls Tryz.prog 3 #[v] w fun e w' => e = .returned (.bool true) ∧ Below w.heap.size w w' := by
  by_cases hl : 1048576 < l.length
  · have HB : Hid (∀ W, Rd EBy W v l → Calls Tryz.prog 4 #[v] W fun e w' => e = .returned (.bool true) ∧ W = w') := fun W hW => by have hol := big_any v l W hW; rwa [decide_eq_true (by omega)] at hol
    go_enter Tryz.func3, Tryz.ntmps3
    go_wp2_with (go_at_call 4; refine (HB.out _ hv).mono ?_; rintro e w' ⟨rfl, rfl⟩)
    all_goals go_ret
    all_goals exact ⟨by simp, Below.refl _ _⟩
  have HB : Hid (∀ W, Rd EBy W v l → Calls Tryz.prog 4 #[v] W fun e w' => e = .returned (.bool false) ∧ W = w') := fun W hW => by have hol := big_any v l W hW; rwa [decide_eq_false (by omega)] at hol
  have HV := Lib.hid hv
  have HDR := Lib.hid (DrawCheckClaim_any v l w hv hok (by omega))
  clear hv hok
  go_enter Tryz.func3, Tryz.ntmps3
  go_wp2_with (go_at_call 4; refine (HB.out _ HV.out).mono ?_; rintro e w' ⟨rfl, rfl⟩)
  refine HDR.out.mono ?_
  rintro e w1 ⟨a, b, o, s, g, k, n, J, W, ad, aw, cp, cw, rfl, hs9, hg9, hJ, hW, hoJ, hoW, hb1⟩
  have hz1 := hb1.size
  obtain ⟨w2, hw2⟩ : ∃ w2 : World, w2 = (w1.alloc (.cells #[.int .i64 a, .int .i64 b, .int .i64 o, .int .i64 s, .int .i64 g] 27)).alloc (.cells #[.int .i64 k, .int .i64 n, .slice ad J.length cp, .slice aw W.length cw] 31) := ⟨_, rfl⟩
  have hB2 : Below w1.heap.size w1 w2 := by rw [hw2]; exact ((Below.refl _ _).alloc (Nat.le_refl _) _).alloc (by simp) _
  have hz2 : w2.heap.size = w1.heap.size + 2 := by rw [hw2]; simp
  have HX2 : Hid (BoxAt w2 w1.heap.size #[.int .i64 a, .int .i64 b, .int .i64 o, .int .i64 s, .int .i64 g]) := by rw [hw2]; exact (BoxAt.new w1 _ _).alloc _
  have hY2 : BoxAt w2 (w1.heap.size + 1) #[.int .i64 k, .int .i64 n, .slice ad J.length cp, .slice aw W.length cw] := by
    rw [hw2]
    have := BoxAt.new (w1.alloc (.cells #[.int .i64 a, .int .i64 b, .int .i64 o, .int .i64 s, .int .i64 g] 27)) #[.int .i64 k, .int .i64 n, .slice ad J.length cp, .slice aw W.length cw] 31
    simpa using this
  have HY2 := Lib.hid hY2
  clear hY2
  have HJ2 := Lib.hid (hoJ.keep hB2)
  have HW2 := Lib.hid (hoW.keep hB2)
  have HB2 := Lib.hid (hb1.trans (hB2.mono hz1))
  have HCC : Hid (∀ W', Below w2.heap.size w2 W' → Calls Tryz.prog 6 #[.agg #[.int .i64 a, .int .i64 b, .int .i64 o, .int .i64 s, .int .i64 g], .agg #[.int .i64 k, .int .i64 n, .slice ad J.length cp, .slice aw W.length cw]] W' fun e w' => e = .returned (.bool (checkClaim a b o s g k n J W)) ∧ Below W'.heap.size W' w') := fun W' h => CheckClaim_any a b o s g k n J W _ _ hs9 hg9 W' (HJ2.out.keep h) (HW2.out.keep h)
  have HSC : Hid (∀ W', Below w2.heap.size w2 W' → Calls Tryz.prog 8 #[.agg #[.int .i64 a, .int .i64 b, .int .i64 o, .int .i64 s, .int .i64 g], .agg #[.int .i64 k, .int .i64 n, .slice ad J.length cp, .slice aw W.length cw]] W' fun e w' => e = .returned (.bool (checkClaim a b o s g k n J W)) ∧ Below W'.heap.size W' w') := fun W' h => sCheckClaim_any a b o s g k n J W _ _ hs9 hg9 W' (HJ2.out.keep h) (HW2.out.keep h)
  have HTC : Hid (∀ W', Below w2.heap.size w2 W' → Calls Tryz.prog 7 #[.agg #[.int .i64 a, .int .i64 b, .int .i64 o, .int .i64 s, .int .i64 g], .agg #[.int .i64 k, .int .i64 n, .slice ad J.length cp, .slice aw W.length cw]] W' fun e w' => e = .returned (.bool (truthOf a b o s g k n J.length)) ∧ Below W'.heap.size W' w') := fun W' h => TruthOf_any a b o s g k n J W _ _ hs9 hg9 W' (HJ2.out.keep h) (HW2.out.keep h)
  have HTS : Hid (∀ W', Below w2.heap.size w2 W' → Calls Tryz.prog 9 #[.agg #[.int .i64 a, .int .i64 b, .int .i64 o, .int .i64 s, .int .i64 g], .agg #[.int .i64 k, .int .i64 n, .slice ad J.length cp, .slice aw W.length cw]] W' fun e w' => e = .returned (.bool (truthOf a b o s g k n J.length)) ∧ Below W'.heap.size W' w') := fun W' h => sTruthOf_any a b o s g k n J W _ _ hs9 hg9 W' (HJ2.out.keep h) (HW2.out.keep h)
  have HCO : Hid (∀ W', Below w2.heap.size w2 W' → Calls Tryz.prog 10 #[.agg #[.int .i64 k, .int .i64 n, .slice ad J.length cp, .slice aw W.length cw]] W' fun e w' => e = .returned (.bool (claimOk k n J.length)) ∧ Below W'.heap.size W' w') := fun W' h => ClaimOk_any k n J _ _ W' (HJ2.out.keep h)
  have HPZ : Hid (∀ W', Calls Tryz.prog 12 #[.agg #[.int .i64 a, .int .i64 b, .int .i64 o, .int .i64 s, .int .i64 g]] W' fun e w' => e = .returned (.bool (puzzleOk a b o s g)) ∧ Below W'.heap.size W' w') := fun W' => sPuzzleOk_any a b o s g hs9 hg9 W'
  have HIMP : Hid (checkClaim a b o s g k n J W = true → truthOf a b o s g k n J.length = true ∧ claimOk k n J.length = true ∧ puzzleOk a b o s g = true) := fun h => ⟨shown_true h, (check_ok h).2, (check_ok h).1⟩
  have HBOX : Hid (∀ W', Below w2.heap.size w2 W' → BoxAt W' w1.heap.size #[.int .i64 a, .int .i64 b, .int .i64 o, .int .i64 s, .int .i64 g] ∧ BoxAt W' (w1.heap.size + 1) #[.int .i64 k, .int .i64 n, .slice ad J.length cp, .slice aw W.length cw]) := fun W' h => ⟨HX2.out.keep h, HY2.out.keep h⟩
  have HEMP : Hid (∀ W' : World, Calls Tryz.prog 10 #[.agg #[.int .i64 1, .int .i64 0, .slice none 0 0, .slice none 0 0]] W' fun e w' => e = .returned (.bool true) ∧ Below W'.heap.size W' w') := fun W' => by
    have h := ClaimOk_any 1 0 [] (.slice none 0 0) (.slice none 0 0) W' (B := 0) (Own.nil _ _ _)
    rwa [show claimOk 1 0 ([] : List Ln).length = true by decide] at h
  clear hoJ hoW hb1 hB2 HX2 HY2 HJ2 HW2 HDR HV HB
  generalize hck : checkClaim a b o s g k n J W = sh at *
  clear hck
  generalize truthOf a b o s g k n J.length = tr at *
  generalize claimOk k n J.length = co at *
  have HWB : Hid (Below w2.heap.size w2 w2) := Below.refl _ _
  obtain ⟨⟨x1, x2, x3⟩, ⟨y1, y2, y3⟩⟩ := HBOX.out _ HWB.out
  go_wp2_with fail
  rw [← hw2]
  clear hw2
  go_upto_region 6 with (first | (go_at_call 6; refine (HCC.out _ HWB.out).mono ?_; rintro e w' ⟨rfl, hb⟩; replace HWB := Lib.hid (HWB.out.trans (hb.mono HWB.out.size)); obtain ⟨⟨x1, x2, x3⟩, ⟨y1, y2, y3⟩⟩ := HBOX.out _ HWB.out; clear hb) | (go_at_call 7; refine (HTC.out _ HWB.out).mono ?_; rintro e w' ⟨rfl, hb⟩; replace HWB := Lib.hid (HWB.out.trans (hb.mono HWB.out.size)); obtain ⟨⟨x1, x2, x3⟩, ⟨y1, y2, y3⟩⟩ := HBOX.out _ HWB.out; clear hb))
  go_cut [46] (fun u wx => u = .bool false ∧ Hid (Below w2.heap.size w2 wx))
  case first =>
    cases sh
    · cases tr
      all_goals go_wp2_with (first | (go_at_call 8; refine (HSC.out _ HWB.out).mono ?_; rintro e w' ⟨rfl, hb⟩; replace HWB := Lib.hid (HWB.out.trans (hb.mono HWB.out.size)); obtain ⟨⟨x1, x2, x3⟩, ⟨y1, y2, y3⟩⟩ := HBOX.out _ HWB.out; clear hb) | (go_at_call 9; refine (HTS.out _ HWB.out).mono ?_; rintro e w' ⟨rfl, hb⟩; replace HWB := Lib.hid (HWB.out.trans (hb.mono HWB.out.size)); obtain ⟨⟨x1, x2, x3⟩, ⟨y1, y2, y3⟩⟩ := HBOX.out _ HWB.out; clear hb))
      all_goals (go_meet; case rel => exact ⟨rfl, HWB⟩)
    · obtain ⟨rfl, rfl, -⟩ := HIMP.out rfl
      go_wp2_with (first | (go_at_call 8; refine (HSC.out _ HWB.out).mono ?_; rintro e w' ⟨rfl, hb⟩; replace HWB := Lib.hid (HWB.out.trans (hb.mono HWB.out.size)); obtain ⟨⟨x1, x2, x3⟩, ⟨y1, y2, y3⟩⟩ := HBOX.out _ HWB.out; clear hb) | (go_at_call 9; refine (HTS.out _ HWB.out).mono ?_; rintro e w' ⟨rfl, hb⟩; replace HWB := Lib.hid (HWB.out.trans (hb.mono HWB.out.size)); obtain ⟨⟨x1, x2, x3⟩, ⟨y1, y2, y3⟩⟩ := HBOX.out _ HWB.out; clear hb) | (go_at_call 10; refine (HCO.out _ HWB.out).mono ?_; rintro e w' ⟨rfl, hb⟩; replace HWB := Lib.hid (HWB.out.trans (hb.mono HWB.out.size)); obtain ⟨⟨x1, x2, x3⟩, ⟨y1, y2, y3⟩⟩ := HBOX.out _ HWB.out; clear hb))
      all_goals (go_meet; case rel => exact ⟨rfl, HWB⟩)
  obtain ⟨rfl, HW6⟩ := hcut
  clear HWB x1 x2 x3 y1 y2 y3 HSC HTC HTS HCO HCC
  obtain ⟨⟨x1, x2, x3⟩, ⟨y1, y2, y3⟩⟩ := HBOX.out _ HW6.out
  have hcs := HW6.out.size
  have HFIN : Hid (∀ W', Below w2.heap.size w2 W' → Below w.heap.size w W') := fun W' h => HB2.out.trans (h.mono HB2.out.size)
  cases hpz : puzzleOk a b o s g
  · have hsh : sh = false := by
      cases sh
      · rfl
      · have := (HIMP.out rfl).2.2
        rw [hpz] at this; cases this
    subst hsh
    rw [hpz] at HPZ
    have HMB : Hid (∀ W', Calls Tryz.prog 11 #[.agg #[.int .i64 a, .int .i64 b, .int .i64 o, .int .i64 s, .int .i64 g]] W' (NoClaim W')) := fun W' => MakeClaim_bad a b o s g hs9 hg9 hpz W'
    unfold NoClaim at HMB
    clear HIMP hpz
    go_wp2_with fail
    refine (HMB.out _).mono ?_
    rintro e w7 ⟨rfl, hb7⟩
    have HB7 := Lib.hid (HW6.out.trans (hb7.mono hcs))
    have hz7 := HB7.out.size
    obtain ⟨⟨p1, p2, p3⟩, ⟨q1, q2, q3⟩⟩ := HBOX.out _ HB7.out
    clear hb7 x1 x2 x3 y1 y2 y3
    go_wp2_with (first | (go_at_call 12; refine (HPZ.out _).mono ?_; rintro e w8 ⟨rfl, hb8⟩; have HB8 := Lib.hid ((HB7.out.alloc hz7 _).trans (hb8.mono (by simp; omega))); clear hb8) | (go_at_call 10; refine (HEMP.out _).mono ?_; rintro e w9 ⟨rfl, hb9⟩; have HB9 := Lib.hid (HB8.out.trans (hb9.mono HB8.out.size)); clear hb9))
    all_goals go_ret
    all_goals exact ⟨by first | (simp; done) | (simp; rfl), HFIN.out _ HB9.out⟩
  rw [hpz] at HPZ
  cases hcan : reach a b o s g false
  · skip
    have HMB : Hid (∀ W', Calls Tryz.prog 11 #[.agg #[.int .i64 a, .int .i64 b, .int .i64 o, .int .i64 s, .int .i64 g]] W' (NotClaim W' (checkClaim a b o s g 2 0 [] (findW a b o s g)) (findW a b o s g))) := fun W' => by
      exact MakeClaim_not a b o s g hs9 hg9 hpz hcan W'
    unfold NotClaim at HMB
    have HD1 : Hid (∀ W' v B, Own EInt W' B v (findW a b o s g) → Calls Tryz.prog 10 #[.agg #[.int .i64 2, .int .i64 0, .slice none 0 0, v]] W' fun e w' => e = .returned (.bool true) ∧ Below W'.heap.size W' w') := fun W' v B h => by
      have h2 := ClaimOk_any 2 0 [] (.slice none 0 0) v W' (Own.nil ELine W' 0)
      rwa [show claimOk 2 0 ([] : List Ln).length = true by decide] at h2
    have HD2 : Hid (∀ W' v B, Own EInt W' B v (findW a b o s g) → Calls Tryz.prog 8 #[.agg #[.int .i64 a, .int .i64 b, .int .i64 o, .int .i64 s, .int .i64 g], .agg #[.int .i64 2, .int .i64 0, .slice none 0 0, v]] W' fun e w' => e = .returned (.bool (checkClaim a b o s g 2 0 [] (findW a b o s g))) ∧ Below W'.heap.size W' w') := fun W' v B h => sCheckClaim_any a b o s g 2 0 [] _ (.slice none 0 0) v hs9 hg9 W' (Own.nil ELine W' 0) h
    have HD3 : Hid (∀ W' v B, Own EInt W' B v (findW a b o s g) → Calls Tryz.prog 7 #[.agg #[.int .i64 a, .int .i64 b, .int .i64 o, .int .i64 s, .int .i64 g], .agg #[.int .i64 2, .int .i64 0, .slice none 0 0, v]] W' fun e w' => e = .returned (.bool true) ∧ Below W'.heap.size W' w') := fun W' v B h => by
      have h2 := TruthOf_any a b o s g 2 0 [] _ (.slice none 0 0) v hs9 hg9 W' (Own.nil ELine W' 0) h
      rwa [show ([] : List Ln).length = 0 from rfl, truth_not hpz hcan] at h2
    generalize checkClaim a b o s g 2 0 [] (findW a b o s g) = rc at *
    have HCR : Hid (∀ W', Calls Tryz.prog 13 #[.agg #[.int .i64 a, .int .i64 b, .int .i64 o], .int .i64 s, .int .i64 g] W' fun e w' => e = .returned (.bool false) ∧ Below W'.heap.size W' w') := fun W' => by
      have h := sCanReach_any a b o s g hs9 hg9 W'
      rwa [hcan] at h
    clear hcan HIMP
    generalize findW a b o s g = FL at *
    go_wp2_with fail
    refine (HMB.out _).mono ?_
    rintro e w7 ⟨vd, rfl, hod, hb7⟩
    obtain ⟨aj, cj, rfl, -, -⟩ := hod.intG
    have HB7 := Lib.hid (HW6.out.trans (hb7.mono hcs))
    have hz7 := HB7.out.size
    obtain ⟨w8, hw8⟩ : ∃ w8 : World, w8 = w7.alloc (.cells #[.int .i64 2, .int .i64 0, .slice none 0 0, .slice aj FL.length cj] 31) := ⟨_, rfl⟩
    have hB8 : Below w7.heap.size w7 w8 := by rw [hw8]; exact (Below.refl _ _).alloc (Nat.le_refl _) _
    have hD8 : BoxAt w8 w7.heap.size #[.int .i64 2, .int .i64 0, .slice none 0 0, .slice aj FL.length cj] := by rw [hw8]; exact BoxAt.new w7 _ _
    have HX8 := Lib.hid ((HBOX.out _ (HB7.out.trans (hB8.mono hz7))).1)
    have HD8 := Lib.hid hD8
    have HO8 := Lib.hid (hod.keep hB8)
    have HB8 := Lib.hid (HB7.out.trans (hB8.mono hz7))
    have HBOY : Hid (∀ W', Below w8.heap.size w8 W' → BoxAt W' w1.heap.size #[.int .i64 a, .int .i64 b, .int .i64 o, .int .i64 s, .int .i64 g] ∧ BoxAt W' w7.heap.size #[.int .i64 2, .int .i64 0, .slice none 0 0, .slice aj FL.length cj]) := fun W' h => ⟨HX8.out.keep h, HD8.out.keep h⟩
    have HE1 := Lib.hid (fun W' (h : Below w8.heap.size w8 W') => HD1.out W' _ _ (HO8.out.keep h))
    have HE2 := Lib.hid (fun W' (h : Below w8.heap.size w8 W') => HD2.out W' _ _ (HO8.out.keep h))
    have HE3 := Lib.hid (fun W' (h : Below w8.heap.size w8 W') => HD3.out W' _ _ (HO8.out.keep h))
    have HP8 := Lib.hid (fun W' (_h : Below w8.heap.size w8 W') => HPZ.out W')
    have HC8 := Lib.hid (fun W' (_h : Below w8.heap.size w8 W') => HCR.out W')
    have HWC : Hid (Below w8.heap.size w8 w8) := Below.refl _ _
    have HFI2 : Hid (∀ W', Below w8.heap.size w8 W' → Below w.heap.size w W') := fun W' h => HFIN.out W' (HB8.out.trans (h.mono HB8.out.size))
    clear hod hb7 x1 x2 x3 y1 y2 y3 hB8 hD8
    obtain ⟨⟨x1, x2, x3⟩, ⟨d1, d2, d3⟩⟩ := HBOY.out _ HWC.out
    cases rc
    all_goals
      go_upto_region 9 with fail
      rw [← hw8]
      clear hw8
      go_wp2_with (first | (go_at_call 12; refine (HP8.out _ HWC.out).mono ?_; rintro e w' ⟨rfl, hb⟩; replace HWC := Lib.hid (HWC.out.trans (hb.mono HWC.out.size)); obtain ⟨⟨x1, x2, x3⟩, ⟨d1, d2, d3⟩⟩ := HBOY.out _ HWC.out; clear hb) | (go_at_call 13; refine (HC8.out _ HWC.out).mono ?_; rintro e w' ⟨rfl, hb⟩; replace HWC := Lib.hid (HWC.out.trans (hb.mono HWC.out.size)); obtain ⟨⟨x1, x2, x3⟩, ⟨d1, d2, d3⟩⟩ := HBOY.out _ HWC.out; clear hb) | (go_at_call 10; refine (HE1.out _ HWC.out).mono ?_; rintro e w' ⟨rfl, hb⟩; replace HWC := Lib.hid (HWC.out.trans (hb.mono HWC.out.size)); obtain ⟨⟨x1, x2, x3⟩, ⟨d1, d2, d3⟩⟩ := HBOY.out _ HWC.out; clear hb) | fail | (go_at_call 8; refine (HE2.out _ HWC.out).mono ?_; rintro e w' ⟨rfl, hb⟩; replace HWC := Lib.hid (HWC.out.trans (hb.mono HWC.out.size)); obtain ⟨⟨x1, x2, x3⟩, ⟨d1, d2, d3⟩⟩ := HBOY.out _ HWC.out; clear hb) | (go_at_call 7; refine (HE3.out _ HWC.out).mono ?_; rintro e w' ⟨rfl, hb⟩; replace HWC := Lib.hid (HWC.out.trans (hb.mono HWC.out.size)); obtain ⟨⟨x1, x2, x3⟩, ⟨d1, d2, d3⟩⟩ := HBOY.out _ HWC.out; clear hb))
      all_goals go_ret
      all_goals exact ⟨by first | (simp; done) | (simp; rfl), HFI2.out _ HWC.out⟩
  · skip
    have HMB : Hid (∀ W', Calls Tryz.prog 11 #[.agg #[.int .i64 a, .int .i64 b, .int .i64 o, .int .i64 s, .int .i64 g]] W' (WayClaim W' true (wayTo a b o s g))) := fun W' => by
      have h := MakeClaim_way a b o s g hs9 hg9 hpz hcan W'
      rwa [check_way hpz hcan] at h
    unfold WayClaim at HMB
    have HSB : Hid (∀ W' v B, Own ELine W' B v (wayTo a b o s g) → Calls Tryz.prog 14 #[.agg #[.int .i64 a, .int .i64 b, .int .i64 o, .int .i64 s, .int .i64 g], v] W' fun e w' => e = .returned (.bool true) ∧ Below W'.heap.size W' w') := fun W' v B h => by
      have h2 := sIsSolvedBy_any a b o s g _ v hs9 hg9 W' h
      rwa [way_solves hpz hcan] at h2
    have HD1 : Hid (∀ W' v B, Own ELine W' B v (wayTo a b o s g) → Calls Tryz.prog 10 #[.agg #[.int .i64 1, .int .i64 0, v, .slice none 0 0]] W' fun e w' => e = .returned (.bool true) ∧ Below W'.heap.size W' w') := fun W' v B h => by
      have h2 := ClaimOk_any 1 0 _ v (.slice none 0 0) W' h
      rwa [claimOk_way] at h2
    have HD2 : Hid (∀ W' v B, Own ELine W' B v (wayTo a b o s g) → Calls Tryz.prog 8 #[.agg #[.int .i64 a, .int .i64 b, .int .i64 o, .int .i64 s, .int .i64 g], .agg #[.int .i64 1, .int .i64 0, v, .slice none 0 0]] W' fun e w' => e = .returned (.bool true) ∧ Below W'.heap.size W' w') := fun W' v B h => by
      have h2 := sCheckClaim_any a b o s g 1 0 _ [] v (.slice none 0 0) hs9 hg9 W' h (Own.nil EInt W' 0)
      rwa [check_way hpz hcan] at h2
    have HD3 : Hid (∀ W' v B, Own ELine W' B v (wayTo a b o s g) → Calls Tryz.prog 7 #[.agg #[.int .i64 a, .int .i64 b, .int .i64 o, .int .i64 s, .int .i64 g], .agg #[.int .i64 1, .int .i64 0, v, .slice none 0 0]] W' fun e w' => e = .returned (.bool true) ∧ Below W'.heap.size W' w') := fun W' v B h => by
      have h2 := TruthOf_any a b o s g 1 0 _ [] v (.slice none 0 0) hs9 hg9 W' h (Own.nil EInt W' 0)
      rwa [truth_way hpz hcan] at h2
    have HCR : Hid (∀ W', Calls Tryz.prog 13 #[.agg #[.int .i64 a, .int .i64 b, .int .i64 o], .int .i64 s, .int .i64 g] W' fun e w' => e = .returned (.bool true) ∧ Below W'.heap.size W' w') := fun W' => by
      have h := sCanReach_any a b o s g hs9 hg9 W'
      rwa [hcan] at h
    clear hcan HIMP
    generalize wayTo a b o s g = FL at *
    go_wp2_with fail
    refine (HMB.out _).mono ?_
    rintro e w7 ⟨vd, rfl, hod, hb7⟩
    obtain ⟨aj, cj, rfl, -, -⟩ := hod.lineG
    have HB7 := Lib.hid (HW6.out.trans (hb7.mono hcs))
    have hz7 := HB7.out.size
    obtain ⟨w8, hw8⟩ : ∃ w8 : World, w8 = w7.alloc (.cells #[.int .i64 1, .int .i64 0, .slice aj FL.length cj, .slice none 0 0] 31) := ⟨_, rfl⟩
    have hB8 : Below w7.heap.size w7 w8 := by rw [hw8]; exact (Below.refl _ _).alloc (Nat.le_refl _) _
    have hD8 : BoxAt w8 w7.heap.size #[.int .i64 1, .int .i64 0, .slice aj FL.length cj, .slice none 0 0] := by rw [hw8]; exact BoxAt.new w7 _ _
    have HX8 := Lib.hid ((HBOX.out _ (HB7.out.trans (hB8.mono hz7))).1)
    have HD8 := Lib.hid hD8
    have HO8 := Lib.hid (hod.keep hB8)
    have HB8 := Lib.hid (HB7.out.trans (hB8.mono hz7))
    have HBOY : Hid (∀ W', Below w8.heap.size w8 W' → BoxAt W' w1.heap.size #[.int .i64 a, .int .i64 b, .int .i64 o, .int .i64 s, .int .i64 g] ∧ BoxAt W' w7.heap.size #[.int .i64 1, .int .i64 0, .slice aj FL.length cj, .slice none 0 0]) := fun W' h => ⟨HX8.out.keep h, HD8.out.keep h⟩
    have HE1 := Lib.hid (fun W' (h : Below w8.heap.size w8 W') => HD1.out W' _ _ (HO8.out.keep h))
    have HE2 := Lib.hid (fun W' (h : Below w8.heap.size w8 W') => HD2.out W' _ _ (HO8.out.keep h))
    have HE3 := Lib.hid (fun W' (h : Below w8.heap.size w8 W') => HD3.out W' _ _ (HO8.out.keep h))
    have HE4 := Lib.hid (fun W' (h : Below w8.heap.size w8 W') => HSB.out W' _ _ (HO8.out.keep h))
    have HP8 := Lib.hid (fun W' (_h : Below w8.heap.size w8 W') => HPZ.out W')
    have HC8 := Lib.hid (fun W' (_h : Below w8.heap.size w8 W') => HCR.out W')
    have HWC : Hid (Below w8.heap.size w8 w8) := Below.refl _ _
    have HFI2 : Hid (∀ W', Below w8.heap.size w8 W' → Below w.heap.size w W') := fun W' h => HFIN.out W' (HB8.out.trans (h.mono HB8.out.size))
    clear hod hb7 x1 x2 x3 y1 y2 y3 hB8 hD8
    obtain ⟨⟨x1, x2, x3⟩, ⟨d1, d2, d3⟩⟩ := HBOY.out _ HWC.out
    go_upto_region 9 with fail
    rw [← hw8]
    clear hw8
    go_wp2_with (first | (go_at_call 12; refine (HP8.out _ HWC.out).mono ?_; rintro e w' ⟨rfl, hb⟩; replace HWC := Lib.hid (HWC.out.trans (hb.mono HWC.out.size)); obtain ⟨⟨x1, x2, x3⟩, ⟨d1, d2, d3⟩⟩ := HBOY.out _ HWC.out; clear hb) | (go_at_call 13; refine (HC8.out _ HWC.out).mono ?_; rintro e w' ⟨rfl, hb⟩; replace HWC := Lib.hid (HWC.out.trans (hb.mono HWC.out.size)); obtain ⟨⟨x1, x2, x3⟩, ⟨d1, d2, d3⟩⟩ := HBOY.out _ HWC.out; clear hb) | (go_at_call 10; refine (HE1.out _ HWC.out).mono ?_; rintro e w' ⟨rfl, hb⟩; replace HWC := Lib.hid (HWC.out.trans (hb.mono HWC.out.size)); obtain ⟨⟨x1, x2, x3⟩, ⟨d1, d2, d3⟩⟩ := HBOY.out _ HWC.out; clear hb) | (go_at_call 14; refine (HE4.out _ HWC.out).mono ?_; rintro e w' ⟨rfl, hb⟩; replace HWC := Lib.hid (HWC.out.trans (hb.mono HWC.out.size)); obtain ⟨⟨x1, x2, x3⟩, ⟨d1, d2, d3⟩⟩ := HBOY.out _ HWC.out; clear hb) | (go_at_call 8; refine (HE2.out _ HWC.out).mono ?_; rintro e w' ⟨rfl, hb⟩; replace HWC := Lib.hid (HWC.out.trans (hb.mono HWC.out.size)); obtain ⟨⟨x1, x2, x3⟩, ⟨d1, d2, d3⟩⟩ := HBOY.out _ HWC.out; clear hb) | (go_at_call 7; refine (HE3.out _ HWC.out).mono ?_; rintro e w' ⟨rfl, hb⟩; replace HWC := Lib.hid (HWC.out.trans (hb.mono HWC.out.size)); obtain ⟨⟨x1, x2, x3⟩, ⟨d1, d2, d3⟩⟩ := HBOY.out _ HWC.out; clear hb))
    all_goals go_ret
    all_goals exact ⟨by first | (simp; done) | (simp; rfl), HFI2.out _ HWC.out⟩

set_option maxRecDepth 100000 in
theorem law_walk : LawWalk 3 Tryz.f3.params.toList := by
  intro H enc W base args ds ps hval hA
  rw [Tryz.params3] at hA hval
  obtain ⟨v0, vs0, d0, ds0, p0, q0, hargs, rfl, rfl, h0, r0⟩ := trodAll_cons hA
  obtain ⟨rfl, rfl, rfl⟩ := trodAll_nil r0
  obtain rfl : args = #[v0] := by cases args; simp_all
  obtain ⟨l0, rd0, ok0⟩ := arg_ByteS (hval 0 _ _ rfl rfl) h0
  exact law_any v0 l0 W rd0 ok0

set_option maxRecDepth 100000 in
theorem lifted (os : Os) (started : os.Started) (H : Type) (enc : TypeId × Value → H) :
    ReturnsInHanded {} Tryz.checked os 3 .any (Rows.fnClaimsSpec.pre6 enc Tryz.prog Tryz.f3 Rows.fnClaimsRow.domain false) (Rows.fnClaimsSpec.post enc Tryz.prog Tryz.f3 false true false false) :=
  law_lift started (by kernel_rfl) Tryz.func3
    (ChangeSpec.witness6 (enc := enc) (C := Tryz.checked) false ⟨#[], #[.slice none 0 0], []⟩ 8 (by kernel_rfl) (by kernel_rfl) (by kernel_rfl) (by kernel_rfl))
    rfl rfl (readable_all (by kernel_rfl)) (by intro ds h; match ds, h with | [a0], _ => rfl) law_walk

theorem over : Rows.fnClaimsRow.holds Tryz.pinned (OpenSpec.ofChange Rows.fnClaimsSpec) :=
  OpenClaim.holds_of_wide 3 Tryz.f3 rfl rfl rfl rfl rfl rfl rfl ⟨rfl, rfl, rfl, rfl, rfl⟩ rfl rfl rfl rfl rfl (by kernel_rfl) Tryz.func3 (by kernel_rfl)
    (of_decide_eq_true (by kernel_rfl)) (by unfold Func.isWrapper; first | (rw [if_pos (by decide +kernel)]; kernel_rfl) | (rw [if_neg (by decide +kernel)]; exact ⟨rfl, rfl⟩))
    (fun os started H enc _ => lifted os started H enc)

theorem proved : Rows.FnClaimsSaid := over
#print axioms proved
end Go.Proofs.YtfmplmlilmalpaaGreat.fnClaims
