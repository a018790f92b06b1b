/- GameA: contract of GameAt. Conditions: numbers in range, the index that of a game. -/
import Derived.Test.YtledmebhlmpjaaaPzM
import Derived.Test.YtledmebhlmpjaaaPzV
import Derived.Test.YtledmebhlmpjaaaWay2
set_option linter.unusedVariables false
set_option linter.unusedSimpArgs false
namespace Peg
theorem pick_next {F : Ln → Nat} {P : Ln → Bool} {L : List Ln} {i j : Nat} (h : j < L.length) (hs : (((L.take j).filter P).map F).sum ≤ i) (hn : P (gD L Ln0 j) = true → F (gD L Ln0 j) ≤ i - (((L.take j).filter P).map F).sum) : (((L.take (j + 1)).filter P).map F).sum ≤ i := by
  rw [take_gD L Ln0 j h, List.filter_append, List.map_append, List.sum_append]
  cases hp : P (gD L Ln0 j)
  · simp [hp]; exact hs
  · have := hn hp
    simp [hp]; omega
theorem pick_at {F : Ln → Nat} {P : Ln → Bool} {L : List Ln} {i j : Nat} (h : j < L.length) (hs : (((L.take j).filter P).map F).sum ≤ i) (hp : P (gD L Ln0 j) = true) (hn : i - (((L.take j).filter P).map F).sum < F (gD L Ln0 j)) :
    pick F (L.filter P) i = some (gD L Ln0 j, i - (((L.take j).filter P).map F).sum) := by
  have e : L.filter P = (L.take j).filter P ++ (gD L Ln0 j :: (L.drop (j + 1)).filter P) := by
    conv => lhs; rw [← List.take_append_drop (j + 1) L, take_gD L Ln0 j h]
    rw [List.filter_append, List.filter_append]
    simp [hp]
  rw [e, pick_skip _ _ _ hs, pick, if_pos hn]
theorem gAt_step {a b o g q : Int} {i j : Nat} {x : Ln} (hne : q ≠ g) (h : pick (fun l => games a b o g (flip q l)) ((linesOf a b o).filter (canJ q)) i = some (x, j)) (hp : pegs (flip q x) + 1 = pegs q) : gAt a b o g (pegs q) q i = x :: gAt a b o g (pegs (flip q x)) (flip q x) j := by
  rw [← hp, gAt, if_neg hne, h]
end Peg
namespace Go.Proofs.Ytledmebhlmpjaaa
open Go.ChangeShapes Go.WideShapes Go.ChangeAt Go.RowKit Peg Go.Sort
theorem gro_viaB {a w w' : World} {c B : Nat} (h : a.grownBy w (some c)) (hB : a.heap.size ≤ B) (hb : Below B w w') : a.grownBy w' (some c) :=
  ⟨hb.os.trans h.os, hb.tape.trans h.tape, hb.output.trans h.output, Nat.le_trans h.size hb.size, fun k hk hne => (hb.block k (Nat.lt_of_lt_of_le hk hB)).trans (h.block k hk hne)⟩
theorem Own.gro {α : Type} {E : Elt α} {w w' : World} {B c : Nat} {v : Value} {l : List α} (h : Own E w B v l) (hg : w.grownBy w' (some c)) (hc : c < B) : Own E w' B v l := by
  rcases h with h | h
  · exact .inl h
  · by_cases h0 : v.ownBlock = some c
    · have := (World.ownsRow.lt h c h0).1; omega
    · exact Own.grown (.inr h) hg (.inl h0)
theorem Memo.belowB {w w' : World} {K E : TypeId} {B Z : Nat} {KS : List Lit} {G : Lit → Int} (h : Memo w K E B KS G) (hz : B < Z) (hb : Below Z w w') : Memo w' K E B KS G := by
  obtain ⟨es, ⟨es0, clock, h1, h3⟩, h2⟩ := h
  exact ⟨es, ⟨es0, clock, (hb.block B hz).trans h1, h3⟩, h2⟩
set_option maxHeartbeats 4000000 in
set_option maxRecDepth 100000 in
theorem GameAt_any (a b o p g : Int) (i : Nat) (hs : isSmall a b o = true) (hp : posOk a b o p = true) (hg : posOk a b o g = true) (hi : i < games a b o g p) (w : World) :
    Calls Try.prog 32 #[.agg #[.int .i64 a, .int .i64 b, .int .i64 o], .int .i64 p, .int .i64 g, .int .i64 i] w fun e w' => ∃ v, e = .returned (.tuple #[v, .bool true]) ∧ Own ELine w' w.heap.size v (gameAt a b o p g i) ∧ Below w.heap.size w w' := by
  have hfit := games_fits (g := g) hs hp
  have HFT : Hid (∀ q, posOk a b o q = true → games a b o g q ≤ 9000000000000000000) := fun q hq => games_fits hs hq
  have HCG : Hid (∀ W, Calls Try.prog 30 #[.agg #[.int .i64 a, .int .i64 b, .int .i64 o], .int .i64 p, .int .i64 g] W fun e w' => e = .returned (.int .i64 (games a b o g p : Nat)) ∧ Below W.heap.size W w') := fun W => by
    have h := CountGames_any a b o p g (by have := pos_lt hp; omega) (by have := pos_lt hg; omega) W
    rwa [show countGames a b o p g = games a b o g p by simp [countGames, hs, hp, hg]] at h
  have HC : Hid (∀ W, Calls Try.prog 60 #[.agg #[.int .i64 a, .int .i64 b, .int .i64 o], .int .i64 g, .int .i64 (-1)] W (RetCounter W a b o g)) := fun W => counterOf_any a b o g W
  have HN : Hid (∀ q, posOk a b o q = true → ∀ B aL cL W, Memo W 3 3 B GK (gk a b o g) → LnAt W aL (linesOf a b o) → Calls Try.prog 61 #[.agg #[.slice aL (linesOf a b o).length cL, .int .i64 g, .int .i64 (-1), .map (some B)], .int .i64 q] W fun e w' => e = .returned (.int .i64 (games a b o g q : Nat)) ∧ Memo w' 3 3 B GK (gk a b o g) ∧ W.grownBy w' (some B)) := fun q hq B aL cL W hM hL => count_any a b o g hs hg B aL cL _ q W rfl hq hM hL
  have HPO := Lib.hid hp
  have HI := Lib.hid hi
  have hin : inR (i : Int) 0 ((games a b o g p : Nat) - 1) = true := by rw [inR_iff]; omega
  have hw64 : wrap64 ((games a b o g p : Nat) + -1 : Int) = (games a b o g p : Nat) - 1 := by rw [IntWalk.wrap64_in _ (by omega)]; omega
  have HWI : Hid (∀ W, Calls Try.prog 62 #[.int .i64 i, .int .i64 0, .int .i64 ((games a b o g p : Nat) - 1)] W fun e w' => e = .returned (.bool true) ∧ W = w') := fun W => by rw [← hin]; exact within_any _ _ _ W
  clear hin
  obtain ⟨m, hm⟩ : ∃ m, m = games a b o g p := ⟨_, rfl⟩
  rw [← hm] at hi HCG HWI hw64 hfit
  clear hm
  go_enter Try.func32, Try.ntmps32
  go_wp2_with fail
  refine (HCG.out _).mono ?_
  rintro e w1 ⟨rfl, hb1⟩
  have hz1 := hb1.size
  simp only [World.size_alloc] at hz1
  have HB1 := Lib.hid (show Below w.heap.size w w1 from ((Below.refl _ _).alloc (Nat.le_refl _) _).trans (hb1.mono (by simp)))
  have hbox1 : ∀ j, w1.cell? ⟨w.heap.size, j, none⟩ = #[Value.int .i64 a, .int .i64 b, .int .i64 o][j]? := fun j => (hb1.cell (by simp)).trans (by simp)
  clear hb1
  go_wp2_with (go_at_call 62; refine (HWI.out _).mono ?_; rintro e w' ⟨rfl, rfl⟩)
  refine (HC.out _).mono ?_
  rintro e w2 ⟨aL, cL, B, rfl, HM2, HL2, hB2, hb2⟩
  have hz2 := hb2.size
  have HB2 := Lib.hid (HB1.out.trans (hb2.mono HB1.out.size))
  have HMX := Lib.hid HM2
  have HLX := Lib.hid HL2
  have hBlt := HM2.lt
  clear hb2 HM2 HL2 hbox1
  have HIN : Hid (∀ l ∈ linesOf a b o, LnIn a b l) := fun l hl => linesOf_in hl
  have HFL : Hid (∀ q x, posOk a b o q = true → x ∈ linesOf a b o → posOk a b o (Peg.flip q x) = true) := fun q x h hx => posOk_flip h hx
  have HGS : Hid (∀ q, q ≠ g → games a b o g q = (((linesOf a b o).filter (canJ q)).map fun l => games a b o g (Peg.flip q l)).sum) := fun q h => games_step h
  have HGA : Hid (∀ q i x j, q ≠ g → pick (fun l => games a b o g (Peg.flip q l)) ((linesOf a b o).filter (canJ q)) i = some (x, j) → pegs (Peg.flip q x) + 1 = pegs q → gAt a b o g (pegs q) q i = x :: gAt a b o g (pegs (Peg.flip q x)) (Peg.flip q x) j) := fun q i x j h1 h2 h3 => gAt_step h1 h2 h3
  have hL256 := lnN hs
  clear hw64 hs hfit
  generalize linesOf a b o = L at *
  go_wp2_with fail
  go_loopw [1, 3, 11] (fun t u v wr => ∃ (q : Int) (k : Nat) (D : List Ln), t = .int .i64 q ∧ u = .int .i64 k ∧ Hid (Own ELine wr (w2.heap.size + 1) v D) ∧ Hid (posOk a b o q = true) ∧ k < games a b o g q ∧ Hid (gAt a b o g (pegs p) p i = D ++ gAt a b o g (pegs q) q k) ∧ D.length + pegs q = pegs p ∧ Hid (Memo wr 3 3 B GK (gk a b o g)) ∧ Hid (w2.grownBy wr (some B)) ∧ (∀ j, wr.cell? ⟨w2.heap.size, j, none⟩ = #[Value.slice aL L.length cL, .int .i64 g, .int .i64 (-1), .map (some B)][j]?) ∧ w2.heap.size < wr.heap.size) (fun t _ _ _ => pegs (intOf t))
  case atStart => exact ⟨p, i, [], rfl, rfl, by show Own _ _ _ _ _; exact Own.emptyAny _ _ _ _, HPO, HI.out, by show _ = _; rfl, by simp, HMX.out.below (by (repeat' first | (with_reducible exact Below.refl _ _) | (with_reducible refine Below.alloc ?_ ?_ _) | (with_reducible refine Below.drew ?_) | (with_reducible refine Below.setCell ?_ ?_ _) | (with_reducible refine below_via (by assumption) ?_ ?_) | go_size)), gro_below (by (repeat' first | (with_reducible exact Below.refl _ _) | (with_reducible refine Below.alloc ?_ ?_ _) | (with_reducible refine Below.drew ?_) | (with_reducible refine Below.setCell ?_ ?_ _) | (with_reducible refine below_via (by assumption) ?_ ?_) | go_size)), fun j => by simp, by simp; omega⟩
  case round =>
    obtain ⟨q, k, D, rfl, rfl, HOW, HQP, hkm, HRU, hDl, HMr, HGr, hXr, hzr⟩ := hrel
    obtain ⟨aD, cD, rfl, -, -⟩ := HOW.out.lineG
    by_cases hqg : q = g
    · subst hqg
      have HEND : Hid (gameAt a b o p q i = D) := by
        show _ = _
        rw [gameAt, HRU.out]
        cases pegs q <;> simp [gAt]
      go_wp2_with fail
      all_goals go_ret2
      all_goals exact ⟨_, rfl, by rw [HEND.out]; exact HOW.out.mono (by omega), HB2.out.trans ((below_gro (Nat.le_of_lt hBlt) HGr.out).mono (by omega))⟩
    · have hne : (q != g) = true := by simpa using hqg
      have hpl := pos_lt HQP.out
      have HLr := Lib.hid (HLX.out.gro HMX.out HGr.out)
      obtain ⟨w4, rfl⟩ : ∃ w4 : World, w4 = wr := ⟨_, rfl⟩
      have HKM : Hid (k < ((L.filter (canJ q)).map fun l => games a b o g (Peg.flip q l)).sum) := by rw [← HGS.out q hqg]; exact hkm
      have HF9 := HFT.out q HQP.out
      have HSX := Lib.hid (HGS.out q hqg)
      go_wp2_with fail
      go_loopw [1, 3, 11, 35] (fun t u v x wr => ∃ j : Nat, j ≤ L.length ∧ t = .int .i64 q ∧ u = .int .i64 ((k - (((L.take j).filter (canJ q)).map fun l => games a b o g (Peg.flip q l)).sum : Nat) : Int) ∧ v = .slice aD D.length cD ∧ x = .int .i64 j ∧ (((L.take j).filter (canJ q)).map fun l => games a b o g (Peg.flip q l)).sum ≤ k ∧ Hid (Memo wr 3 3 B GK (gk a b o g)) ∧ Hid (w4.grownBy wr (some B))) (fun _ _ _ x _ => L.length - (intOf x).toNat)
      case atStart => exact ⟨0, by omega, rfl, by simp, rfl, rfl, by simp, HMr, gro_refl _ _⟩
      case round =>
        obtain ⟨j, hj, rfl, rfl, rfl, rfl, hsk, HMi, HGi⟩ := hrel
        have hzi := HGi.out.size
        by_cases hjl : j < L.length
        rotate_left
        · obtain rfl : j = L.length := by omega
          have h1 := HKM.out
          rw [List.take_length] at hsk
          omega
        · have HLi := Lib.hid (HLr.out.gro HMr.out HGi.out)
          obtain ⟨bL, hbe, hbL, c0, c1, c2⟩ := HLi.out j hjl
          subst hbe
          have hXi : ∀ j, wr.cell? ⟨w2.heap.size, j, none⟩ = #[Value.slice (some ⟨bL, 0, none⟩) L.length cL, .int .i64 g, .int .i64 (-1), .map (some B)][j]? := fun j => (gro_cell HGi.out hzr (by omega)).trans (hXr j)
          have hmem := gD_mem L Ln0 j hjl
          have hLn := (HIN.out _ hmem).1
          have HNX := Lib.hid (@pick_next (fun l => games a b o g (Peg.flip q l)) (canJ q) L k j hjl hsk)
          have HAT := Lib.hid (@pick_at (fun l => games a b o g (Peg.flip q l)) (canJ q) L k j hjl hsk)
          have HTK := Lib.hid (sum_take_f (fun l => games a b o g (Peg.flip q l)) (canJ q) L j hjl)
          have HTL := Lib.hid (sum_take_le (fun l => games a b o g (Peg.flip q l)) (canJ q) L (j + 1))
          have hal : Below wr.heap.size wr (wr.alloc (.cells #[.int .i64 (gD L Ln0 j).f, .int .i64 (gD L Ln0 j).o, .int .i64 (gD L Ln0 j).t] 47)) := (Below.refl _ _).alloc (Nat.le_refl _) _
          have HQY := Lib.hid (HFL.out q _ HQP.out hmem)
          have HPJ := Lib.hid (@pegs_jump q _ hLn)
          have HGY := Lib.hid (fun i j' h1 h2 => HGA.out q i (gD L Ln0 j) j' hqg h1 h2)
          have hzw : w2.heap.size < wr.heap.size := by omega
          generalize gD L Ln0 j = y at *
          have HCJ := Lib.hid (fun W => jumpFrom_any q y hLn hpl.1 (by omega) W)
          cases hc : canJ q y
          · rw [hc] at HCJ
            simp only [show jumpTo q y = q from by simp [jumpTo, hc]] at HCJ
            have HT := HTK.out
            have HN2 := HNX.out (by simp [hc])
            rw [hc] at HT
            simp only [Bool.false_eq_true, if_false, Nat.add_zero] at HT
            clear hc HNX HAT HTK HTL HQY HPJ HGY
            have HT2 := Lib.hid HT
            clear HT
            go_wp2_with fail
            refine (HCJ.out _).mono ?_
            rintro e w5 ⟨rfl, hb5⟩
            have hb5' : Below wr.heap.size wr w5 := hal.trans (hb5.mono hal.size)
            have HM5 := Lib.hid (HMi.out.below hb5')
            have HG5 := Lib.hid (gro_via HGi.out hb5')
            clear hb5 hb5'
            go_wp2_with fail
            go_roundw
            case rel => exact ⟨j + 1, by omega, rfl, by rw [HT2.out], rfl, by go_num, HN2, HM5, HG5⟩
            case measure => simp [intOf]; omega
          · rw [hc] at HCJ
            simp only [show jumpTo q y = Peg.flip q y from by simp [jumpTo, hc]] at HCJ
            have HCAN := Lib.hid hc
            clear hc
            go_wp2_with fail
            refine (HCJ.out _).mono ?_
            rintro e w5 ⟨rfl, hb5⟩
            have hb5' : Below wr.heap.size wr w5 := hal.trans (hb5.mono hal.size)
            have l0 : w5.cell? ⟨wr.heap.size, 0, none⟩ = some (.int .i64 y.f) := (hb5.cell (by simp)).trans (by simp)
            have l1 : w5.cell? ⟨wr.heap.size, 1, none⟩ = some (.int .i64 y.o) := (hb5.cell (by simp)).trans (by simp)
            have l2 : w5.cell? ⟨wr.heap.size, 2, none⟩ = some (.int .i64 y.t) := (hb5.cell (by simp)).trans (by simp)
            have hz5 := hb5.size
            simp only [World.size_alloc] at hz5
            have HM5 := Lib.hid (HMi.out.below hb5')
            have HG5 := Lib.hid (gro_via HGi.out hb5')
            have HL5 := Lib.hid (HLi.out.below hb5')
            have hX5 : ∀ j, w5.cell? ⟨w2.heap.size, j, none⟩ = #[Value.slice (some ⟨bL, 0, none⟩) L.length cL, .int .i64 g, .int .i64 (-1), .map (some B)][j]? := fun j => (hb5'.cell hzw).trans (hXi j)
            clear hb5 hb5' hXi c0 c1 c2
            have hzXw : w2.heap.size ≠ B := by omega
            have hw5X : w2.heap.size < w5.heap.size := by omega
            have hrB : wr.heap.size ≠ B := by omega
            have hw5l : wr.heap.size < w5.heap.size := by omega
            have HNq := Lib.hid (HN.out _ HQY.out)
            have HFQ := HFT.out _ HQY.out
            have HT := HTK.out
            have HTl := HTL.out
            have HS := HSX.out
            rw [HCAN.out] at HT
            simp only [if_true] at HT
            have HS2 := Lib.hid HT
            have hbd : (((L.take j).filter (canJ q)).map fun l => games a b o g (Peg.flip q l)).sum + games a b o g (Peg.flip q y) ≤ 9000000000000000000 := by omega
            clear HT HTl HS
            generalize hsum : (((L.take j).filter (canJ q)).map fun l => games a b o g (Peg.flip q l)).sum = s at *
            clear hsum
            go_wp2_with fail
            refine (HNq.out B _ cL w5 HM5.out HL5.out).mono ?_
            rintro e w6 ⟨rfl, hM6, hG6⟩
            have HM6 := Lib.hid hM6
            have HG6 := Lib.hid (gro_trans HG5.out hG6)
            have m0 : w6.cell? ⟨wr.heap.size, 0, none⟩ = some (.int .i64 y.f) := (gro_cell hG6 hw5l hrB).trans l0
            have m1 : w6.cell? ⟨wr.heap.size, 1, none⟩ = some (.int .i64 y.o) := (gro_cell hG6 hw5l hrB).trans l1
            have m2 : w6.cell? ⟨wr.heap.size, 2, none⟩ = some (.int .i64 y.t) := (gro_cell hG6 hw5l hrB).trans l2
            have hX6 : ∀ j, w6.cell? ⟨w2.heap.size, j, none⟩ = #[Value.slice (some ⟨bL, 0, none⟩) L.length cL, .int .i64 g, .int .i64 (-1), .map (some B)][j]? := fun j => (gro_cell hG6 hw5X hzXw).trans (hX5 j)
            have hz6 := hG6.size
            clear hM6 hG6 l0 l1 l2 hX5
            by_cases hlt : k - s < games a b o g (Peg.flip q y)
            · have HPK := Lib.hid (HAT.out HCAN.out hlt)
              have HGX := Lib.hid (HGY.out k (k - s) HPK.out (HPJ.out HCAN.out))
              have HPJ2 := Lib.hid (HPJ.out HCAN.out)
              have hown6 := (HOW.out.gro HG6.out (by omega))
              have hD49 : D.length ≤ 1048576 := by have := pegs_le p; omega
              have hdl : decide (((k - s : Nat) : Int) < (games a b o g (Peg.flip q y) : Nat)) = true := decide_eq_true (by omega)
              have hltI : ((k - s : Nat) : Int) < (games a b o g (Peg.flip q y) : Nat) := by omega
              have HLT := Lib.hid hlt
              have HDl := Lib.hid hDl
              have HNX2 : Hid (w2.grownBy w6 (some B)) := gro_trans HGr.out HG6.out
              clear hlt HAT HNX HGY HPJ HFQ hbd hDl
              generalize hq' : Peg.flip q y = q' at *
              clear hq'
              have HKS := HLT
              go_wp2_with (at_builtin; (refine append1 (E := ELine) (l := D) rfl rfl _ _ 36 rfl Try.underlying36 rfl hown6 y rfl (by omega) (by omega) ?_); intro v' w7 hown7 hb7 hg7)
              go_roundw
              case rel => exact ⟨q', k - s, D ++ [y], rfl, rfl, hown7, HQY, HKS.out, by show _ = _; rw [HRU.out, HGX.out]; simp, by have := HDl.out; have := HPJ2.out; simp; omega, HM6.out.belowB (by omega) hb7, gro_viaB HNX2.out (Nat.le_succ _) hb7, fun j => (hb7.cell (p := ⟨w2.heap.size, j, none⟩) (by show w2.heap.size < _; omega)).trans (hX6 j), by have := hb7.size; have := World.size_alloc w6 (.cells (ELine.enc y).toArray ELine.e); omega⟩
              case measure => have := HPJ2.out; simp [intOf]; omega
            · have HN2 := HNX.out (fun _ => by omega)
              have hdl : decide (((k - s : Nat) : Int) < (games a b o g (Peg.flip q y) : Nat)) = false := decide_eq_false (by omega)
              have hltI : ¬ ((k - s : Nat) : Int) < (games a b o g (Peg.flip q y) : Nat) := by omega
              have hw : wrap64 (((k - s : Nat) : Int) - (games a b o g (Peg.flip q y) : Nat)) = ((k - (s + games a b o g (Peg.flip q y)) : Nat) : Int) := by rw [IntWalk.wrap64_in _ (by omega)]; omega
              clear hlt HAT HNX HGY HPJ HFQ
              generalize games a b o g (Peg.flip q y) = mm at *
              have HW := Lib.hid hw
              go_wp2_with fail
              go_roundw
              case rel => exact ⟨j + 1, by omega, rfl, by rw [HS2.out]; first | rw [HW.out] | (congr 1; omega), rfl, by go_num, HN2, HM6, HG6⟩
              case measure => simp [intOf]; omega
end Go.Proofs.Ytledmebhlmpjaaa
