/- Way2: contracts of WayTo and the reference's. Conditions: numbers in range. -/
import Derived.Test.YtledmebhlmpjaaaPzV
import Derived.Test.YtledmebhlmpjaaaReach2
import Derived.Test.YtledmebhlmpjaaaGood
import Derived.Deep.Cut
import Derived.IntWalk
set_option linter.unusedVariables false
set_option linter.unusedSimpArgs false
namespace Peg
theorem find_next {α : Type} {P : α → Bool} {L : List α} {d : α} {j : Nat} (h : j < L.length) (h0 : (L.take j).find? P = none) (h1 : P (gD L d j) = false) : (L.take (j + 1)).find? P = none := by
  rw [take_gD L d j h, List.find?_append, h0]
  simp [h1]
theorem find_at {α : Type} {P : α → Bool} {L : List α} {d : α} {j : Nat} (h : j < L.length) (h0 : (L.take j).find? P = none) (h1 : P (gD L d j) = true) : L.find? P = some (gD L d j) := by
  have e : L = L.take j ++ [gD L d j] ++ L.drop (j + 1) := by rw [← take_gD L d j h, List.take_append_drop]
  refine (congrArg (List.find? P) e).trans ?_
  rw [List.find?_append, List.find?_append, h0]
  simp [h1]
theorem wayRun_step {a b o g q : Int} {x : Ln} (hne : q ≠ g) (h : stepW a b o g q = some x) (hp : pegs (flip q x) + 1 = pegs q) : wayRun a b o g (pegs q) q = x :: wayRun a b o g (pegs (flip q x)) (flip q x) := by
  rw [← hp, wayRun, if_neg hne, h]
end Peg
namespace Go.Proofs.Ytledmebhlmpjaaa
open Go.ChangeShapes Go.WideShapes Go.ChangeAt Go.RowKit Peg Go.Sort
def RetWay (w : World) (a b o p g : Int) (e : Ending) (w' : World) : Prop := ∃ v, e = .returned (.tuple #[v, .bool (reach a b o p g false)]) ∧ Own ELine w' w.heap.size v (wayTo a b o p g) ∧ Below w.heap.size w w'
set_option maxHeartbeats 4000000 in
set_option maxRecDepth 100000 in
theorem WayTo_any (a b o p g : Int) (hp : p ≤ 9223372036854775807) (hg : g ≤ 9223372036854775807) (w : World) :
    Calls Try.prog 31 #[.agg #[.int .i64 a, .int .i64 b, .int .i64 o], .int .i64 p, .int .i64 g] w (RetWay w a b o p g) := by
  have HRE := Lib.hid (has_reach (a := a) (b := b) (o := o) (p := p) (g := g))
  have HWT : Hid (wayTo a b o p g = if reach a b o p g false = true then wayRun a b o g (pegs p) p else []) := rfl
  go_enter Try.func31, Try.ntmps31
  go_wp2_with fail
  refine (spreadOf_any a b o g true hg _).mono ?_
  rintro e w1 ⟨vB, rfl, hownB, hb⟩
  have hz1 := hb.size
  simp only [World.size_alloc] at hz1
  have HB1 := Lib.hid (show Below w.heap.size w w1 from ((Below.refl _ _).alloc (Nat.le_refl _) _).trans (hb.mono (by simp)))
  have hbox1 : ∀ j, w1.cell? ⟨w.heap.size, j, none⟩ = #[Value.int .i64 a, .int .i64 b, .int .i64 o][j]? := fun j => (hb.cell (by simp)).trans (by simp)
  have HOB := Lib.hid hownB
  have hzw : w.heap.size < w1.heap.size := by omega
  obtain ⟨aB, cB, rfl, hnB⟩ := hownB.boolsSmall
  clear hb hownB
  go_wp2_with fail
  refine (has_any _ p _ _ w1 HOB.out).mono ?_
  rintro e w2 ⟨rfl, hb2⟩
  have hbox2 : ∀ j, w2.cell? ⟨w.heap.size, j, none⟩ = #[Value.int .i64 a, .int .i64 b, .int .i64 o][j]? := fun j => (hb2.cell hzw).trans (hbox1 j)
  have HB2 := Lib.hid (HB1.out.trans (hb2.mono HB1.out.size))
  have HOB2 := Lib.hid (HOB.out.keep hb2)
  have hzw2 : w.heap.size < w2.heap.size := by have := hb2.size; omega
  rw [HRE.out]
  clear hb2 hbox1 HOB
  cases hre : reach a b o p g false
  · have HE : Hid (wayTo a b o p g = []) := by show _ = _; rw [HWT.out, hre]; rfl
    have HRf := Lib.hid hre
    clear hre
    go_wp2_with fail
    all_goals go_ret2
    all_goals exact ⟨.slice none 0 0, by rw [HRf.out]; rfl, by rw [HE.out]; exact Own.nil _ _ _, HB2.out⟩
  · have HE : Hid (wayTo a b o p g = wayRun a b o g (pegs p) p) := by show _ = _; rw [HWT.out, hre]; rfl
    have HRf := Lib.hid hre
    obtain ⟨hsm, hpo, hgo⟩ := reach_parts hre
    have HST := Lib.hid (fun n hn hr hne => step_some (a := a) (b := b) (o := o) (g := g) (n := n) hsm hn hgo hr hne)
    have HPO := Lib.hid hpo
    have hp49 := pegs_le p
    clear hre hsm hpo hgo
    go_wp2_with fail
    refine (LinesOf_any a b o w2).mono ?_
    rintro e w3 ⟨vL, rfl, hownL, hb3⟩
    have HB3 := Lib.hid (HB2.out.trans (hb3.mono HB2.out.size))
    have HOB3 := Lib.hid (HOB2.out.keep hb3)
    have HIN : Hid (∀ l ∈ linesOf a b o, LnIn a b l) := fun l hl => linesOf_in hl
    have HSW : Hid (∀ n, stepW a b o g n = (linesOf a b o).find? fun l => canJ n l && hasB (spreadOf a b o g true) (Peg.flip n l)) := fun n => rfl
    obtain ⟨aL, cL, rfl, _, hgL⟩ := hownL.lineG
    have HGL := Lib.hid hgL
    have hz3 := HB3.out.size
    clear hb3 hownL hgL HOB2 hbox2
    generalize linesOf a b o = L at *
    generalize spreadOf a b o g true = B at *
    go_wp2_with fail
    go_loopw [1, 10] (fun t v wr => ∃ (q : Int) (D : List Ln), t = .int .i64 q ∧ Hid (Own ELine wr w3.heap.size v D) ∧ Hid (reach a b o q g false = true) ∧ Hid (posOk a b o q = true) ∧ Hid (wayRun a b o g (pegs p) p = D ++ wayRun a b o g (pegs q) q) ∧ D.length + pegs q = pegs p ∧ Below w3.heap.size w3 wr) (fun t _ _ => pegs (intOf t))
    case atStart => exact ⟨p, [], rfl, by show Own _ _ _ _ _; exact Own.emptyAny _ _ _ _, HRf, HPO, by show _ = _; rfl, by simp, by (repeat' first | (with_reducible exact Below.refl _ _) | (with_reducible refine Below.alloc ?_ ?_ _) | (with_reducible refine Below.drew ?_) | (with_reducible refine Below.setCell ?_ ?_ _) | (with_reducible refine below_via (by assumption) ?_ ?_) | go_size)⟩
    case round =>
      obtain ⟨q, D, rfl, HOW, HQR, HQP, HRU, hDl, hbw⟩ := hrel
      have HBw := Lib.hid hbw
      have hzw := hbw.size
      clear hbw
      obtain ⟨aD, cD, rfl, -, -⟩ := HOW.out.lineG
      by_cases hqg : q = g
      · subst hqg
        have HEND : Hid (wayRun a b o q (pegs p) p = D) := by
          show _ = _
          rw [HRU.out]
          cases pegs q <;> simp [wayRun]
        go_wp2_with fail
        all_goals go_ret2
        all_goals exact ⟨_, by rw [HRf.out]; rfl, by rw [HE.out, HEND.out]; exact HOW.out.mono (by omega), HB3.out.trans (HBw.out.mono hz3)⟩
      · obtain ⟨x, s1, s2, s3, s4, s5, s6⟩ := HST.out q HQP.out HQR.out hqg
        have hne : (q != g) = true := by simpa using hqg
        have hpl := pos_lt HQP.out
        have HX := Lib.hid (show L.find? (fun l => canJ q l && hasB B (Peg.flip q l)) = some x from (HSW.out q).symm.trans s1)
        have HPJ := pegs_jump (HIN.out x s2).1 s3
        have HRS := Lib.hid (wayRun_step hqg s1 (by omega))
        obtain ⟨w4, rfl⟩ : ∃ w4 : World, w4 = wr := ⟨_, rfl⟩
        clear s1
        go_wp2_with fail
        go_loopw [1, 10, 30] (fun t v k wr => ∃ j : Nat, j ≤ L.length ∧ t = .int .i64 q ∧ v = .slice aD D.length cD ∧ k = .int .i64 j ∧ Hid ((L.take j).find? (fun l => canJ q l && hasB B (Peg.flip q l)) = none) ∧ Below w4.heap.size w4 wr) (fun _ _ k _ => L.length - (intOf k).toNat)
        case atStart => exact ⟨0, by omega, rfl, rfl, rfl, by show _ = _; simp, Below.refl _ _⟩
        case round =>
          obtain ⟨j, hj, rfl, rfl, rfl, HNO, hbi⟩ := hrel
          have hzi := hbi.size
          by_cases hjl : j < L.length
          rotate_left
          · obtain rfl : j = L.length := by omega
            have h1 := HNO.out
            rw [List.take_length, HX.out] at h1
            cases h1
          · obtain ⟨bL, rfl, _, hbL, c0, c1, c2⟩ := HGL.out j hjl
            have HBi := Lib.hid (HBw.out.trans (hbi.mono HBw.out.size))
            have d0 : wr.cell? ⟨bL, j * 3, none⟩ = some (.int .i64 (gD L Ln0 j).f) := (HBi.out.cell (p := ⟨bL, j * 3, none⟩) hbL).trans c0
            have d1 : wr.cell? ⟨bL, j * 3 + 1, none⟩ = some (.int .i64 (gD L Ln0 j).o) := (HBi.out.cell (p := ⟨bL, j * 3 + 1, none⟩) hbL).trans c1
            have d2 : wr.cell? ⟨bL, j * 3 + 2, none⟩ = some (.int .i64 (gD L Ln0 j).t) := (HBi.out.cell (p := ⟨bL, j * 3 + 2, none⟩) hbL).trans c2
            have hbLr : bL < wr.heap.size := by omega
            have hLn := (HIN.out _ (gD_mem L Ln0 j hjl)).1
            have HNX := Lib.hid (fun h => find_next (d := Ln0) hjl HNO.out h)
            have HAT := Lib.hid (fun h => find_at (d := Ln0) hjl HNO.out h)
            have HBi4 := Lib.hid hbi
            clear c0 c1 c2 hbi
            generalize gD L Ln0 j = y at *
            have HCJ := Lib.hid (fun W => jumpFrom_any q y hLn hpl.1 (by omega) W)
            have hal : Below wr.heap.size wr (wr.alloc (.cells #[.int .i64 y.f, .int .i64 y.o, .int .i64 y.t] 47)) := (Below.refl _ _).alloc (Nat.le_refl _) _
            cases hc : canJ q y
            · have HN2 := Lib.hid (HNX.out (by simp [hc]))
              rw [hc] at HCJ
              simp only [show jumpTo q y = q from by simp [jumpTo, hc]] at HCJ
              clear hc
              go_wp2_with fail
              refine (HCJ.out _).mono ?_
              rintro e w5 ⟨rfl, hb5⟩
              have hb5' : Below wr.heap.size wr w5 := hal.trans (hb5.mono hal.size)
              clear hb5
              go_wp2_with fail
              go_roundw
              case rel => exact ⟨j + 1, by omega, rfl, rfl, by go_num, HN2, HBi4.out.trans (hb5'.mono hzi)⟩
              case measure => simp [intOf]; omega
            · have HCAN := Lib.hid hc
              rw [hc] at HCJ
              simp only [show jumpTo q y = Peg.flip q y from by simp [jumpTo, hc]] at HCJ
              clear hc
              go_wp2_with fail
              refine (HCJ.out _).mono ?_
              rintro e w5 ⟨rfl, hb5⟩
              have hb5' : Below wr.heap.size wr w5 := hal.trans (hb5.mono hal.size)
              have l0 : w5.cell? ⟨wr.heap.size, 0, none⟩ = some (.int .i64 y.f) := (hb5.cell (by simp)).trans (by simp)
              have l1 : w5.cell? ⟨wr.heap.size, 1, none⟩ = some (.int .i64 y.o) := (hb5.cell (by simp)).trans (by simp)
              have l2 : w5.cell? ⟨wr.heap.size, 2, none⟩ = some (.int .i64 y.t) := (hb5.cell (by simp)).trans (by simp)
              have hz5 := hb5.size
              simp only [World.size_alloc] at hz5
              have HB5 := Lib.hid (HBi4.out.trans (hb5'.mono hzi))
              have HB53 := Lib.hid (HBw.out.trans (HB5.out.mono HBw.out.size))
              clear hb5 hb5' d0 d1 d2
              go_wp2_with fail
              refine (has_any B (Peg.flip q y) _ _ w5 (HOB3.out.keep HB53.out)).mono ?_
              rintro e w6 ⟨rfl, hb6⟩
              have hz6 := hb6.size
              have HB6 := Lib.hid (HB5.out.trans (hb6.mono HB5.out.size))
              have m0 : w6.cell? ⟨wr.heap.size, 0, none⟩ = some (.int .i64 y.f) := (hb6.cell (p := ⟨wr.heap.size, 0, none⟩) (by show wr.heap.size < _; omega)).trans l0
              have m1 : w6.cell? ⟨wr.heap.size, 1, none⟩ = some (.int .i64 y.o) := (hb6.cell (p := ⟨wr.heap.size, 1, none⟩) (by show wr.heap.size < _; omega)).trans l1
              have m2 : w6.cell? ⟨wr.heap.size, 2, none⟩ = some (.int .i64 y.t) := (hb6.cell (p := ⟨wr.heap.size, 2, none⟩) (by show wr.heap.size < _; omega)).trans l2
              clear hb6 l0 l1 l2
              cases hh : hasB B (Peg.flip q y)
              · have HN2 := Lib.hid (HNX.out (by simp [hh]))
                clear hh
                go_wp2_with fail
                go_roundw
                case rel => exact ⟨j + 1, by omega, rfl, rfl, by go_num, HN2, HB6.out⟩
                case measure => simp [intOf]; omega
              · have hxy := HAT.out (by simp [hh, HCAN.out])
                rw [HX.out] at hxy
                obtain rfl : x = y := by simpa using hxy
                clear hh hxy
                have hgw : wr.heap.size < w6.heap.size := by omega
                have hown6 := HOW.out.keep HB6.out
                have hD49 : D.length ≤ 1048576 := by omega
                have HS5 := Lib.hid s5
                have HS6 := Lib.hid s6
                have hz36 : w3.heap.size ≤ w6.heap.size := by omega
                have HDl := Lib.hid hDl
                have HPJ2 := Lib.hid HPJ
                clear s2 s3 s4 s5 s6 hDl HPJ
                generalize hq' : Peg.flip q x = q' at *
                clear hq'
                go_wp2_with (at_builtin; (refine append1 (E := ELine) (l := D) rfl rfl _ _ 36 rfl Try.underlying36 rfl hown6 x rfl (by omega) (by omega) ?_); intro v' w7 hown7 hb7 hg7)
                go_roundw
                case rel => exact ⟨q', D ++ [x], rfl, hown7, HS5, HS6, by show _ = _; rw [HRU.out, HRS.out]; simp, by have := HDl.out; have := HPJ2.out; simp; omega, (HBw.out.trans (HB6.out.mono hzw)).trans (hb7.mono (Nat.le_refl _))⟩
                case measure => have := HPJ2.out; simp [intOf]; omega
set_option maxHeartbeats 4000000 in
set_option maxRecDepth 100000 in
theorem sWayTo_any (a b o p g : Int) (hp : p ≤ 9223372036854775807) (hg : g ≤ 9223372036854775807) (w : World) :
    Calls Try.prog 12 #[.agg #[.int .i64 a, .int .i64 b, .int .i64 o], .int .i64 p, .int .i64 g] w (RetWay w a b o p g) := by
  have HWT : Hid (wayTo a b o p g = if reach a b o p g false = true then wayRun a b o g (pegs p) p else []) := rfl
  go_enter Try.func12, Try.ntmps12
  go_wp2_with fail
  refine (sCanReach_any a b o p g hp hg _).mono ?_
  rintro e w2 ⟨rfl, hb⟩
  have hz2 := hb.size
  simp only [World.size_alloc] at hz2
  have HB2 := Lib.hid (show Below w.heap.size w w2 by (repeat' first | (with_reducible exact Below.refl _ _) | (with_reducible refine Below.alloc ?_ ?_ _) | (with_reducible refine Below.drew ?_) | (with_reducible refine Below.setCell ?_ ?_ _) | (with_reducible refine below_via (by assumption) ?_ ?_) | go_size))
  have hbox2 : ∀ j, w2.cell? ⟨w.heap.size, j, none⟩ = #[Value.int .i64 a, .int .i64 b, .int .i64 o][j]? := fun j => (hb.cell (by simp; omega)).trans (by simp)
  have hzw2 : w.heap.size < w2.heap.size := by omega
  clear hb
  cases hre : reach a b o p g false
  · have HE : Hid (wayTo a b o p g = []) := by show _ = _; rw [HWT.out, hre]; rfl
    have HRf := Lib.hid hre
    clear hre
    go_wp2_with fail
    all_goals go_ret2
    all_goals exact ⟨_, by rw [HRf.out]; rfl, by rw [HE.out]; exact Own.emptyAny _ _ _ _, HB2.out⟩
  · have HE : Hid (wayTo a b o p g = wayRun a b o g (pegs p) p) := by show _ = _; rw [HWT.out, hre]; rfl
    have HRf := Lib.hid hre
    obtain ⟨hsm, hpo, hgo⟩ := reach_parts hre
    have HST := Lib.hid (fun n hn hr hne => step_some (a := a) (b := b) (o := o) (g := g) (n := n) hsm hn hgo hr hne)
    have HPO := Lib.hid hpo
    have hp49 := pegs_le p
    have HBK := Lib.hid (l15Back_any a b o g hg hsm hgo w2)
    clear hre hsm hpo hgo
    go_wp2_with fail
    refine HBK.out.mono ?_
    rintro e w3 ⟨vB, rfl, hownB, hb3⟩
    have hz23 := hb3.size
    have HB3 := Lib.hid (HB2.out.trans (hb3.mono HB2.out.size))
    have hbox3 : ∀ j, w3.cell? ⟨w.heap.size, j, none⟩ = #[Value.int .i64 a, .int .i64 b, .int .i64 o][j]? := fun j => (hb3.cell hzw2).trans (hbox2 j)
    have hzw3 : w.heap.size < w3.heap.size := by have := hb3.size; omega
    have HOB := Lib.hid hownB
    have HSL := Lib.hid (fun q (hq : posOk a b o q = true) => pos_N hq)
    obtain ⟨hsm, hpo, hgo⟩ := reach_parts HRf.out
    have HLN : Hid ((spreadOf a b o g true).length = boardN a b) := spreadOf_length hsm hgo
    have HSW := Lib.hid (fun n (hn : posOk a b o n = true) => stepW_jumps (g := g) hn)
    have HIN := Lib.hid (fun (l : Ln) (h : l ∈ linesOf a b o) => linesOf_in h)
    have HFP := Lib.hid (fun n (l : Ln) (hn : posOk a b o n = true) (h : l ∈ linesOf a b o) => posOk_flip hn h)
    have hz3 := HB3.out.size
    obtain ⟨aB, cB, rfl, hnB⟩ := hownB.boolsSmall
    clear hb3 hownB hbox2 hsm hpo hgo
    have hbox0 := Lib.hid hbox3
    clear hbox3
    generalize spreadOf a b o g true = B at *
    go_wp2_with fail
    go_loopw [1, 8] (fun t v wr => ∃ (q : Int) (D : List Ln), t = .int .i64 q ∧ Hid (Own ELine wr w3.heap.size v D) ∧ Hid (reach a b o q g false = true) ∧ Hid (posOk a b o q = true) ∧ Hid (wayRun a b o g (pegs p) p = D ++ wayRun a b o g (pegs q) q) ∧ D.length + pegs q = pegs p ∧ Hid (∀ k, v.ownBlock = some k → k < wr.heap.size) ∧ Below w3.heap.size w3 wr) (fun t _ _ => pegs (intOf t))
    case atStart => exact ⟨p, [], rfl, by show Own _ _ _ _ _; exact Own.emptyAny _ _ _ _, HRf, HPO, by show _ = _; rfl, by simp, by show ∀ k, _; intro k hk; simp [Value.ownBlock] at hk; omega, Below.refl _ _⟩
    case round =>
      obtain ⟨q, D, rfl, HOW, HQR, HQP, HRU, hDl, HOK, hbw⟩ := hrel
      have HBw := Lib.hid hbw
      have hzw := hbw.size
      clear hbw
      obtain ⟨aD, cD, rfl, -, -⟩ := HOW.out.lineG
      by_cases hqg : q = g
      · subst hqg
        have HEND : Hid (wayRun a b o q (pegs p) p = D) := by
          show _ = _
          rw [HRU.out]
          cases pegs q <;> simp [wayRun]
        go_wp2_with fail
        all_goals go_ret2
        all_goals exact ⟨_, by rw [HRf.out]; rfl, by rw [HE.out, HEND.out]; exact HOW.out.mono (by omega), HB3.out.trans (HBw.out.mono hz3)⟩
      · obtain ⟨x, s1, s2, s3, s4, s5, s6⟩ := HST.out q HQP.out HQR.out hqg
        have hne : (q != g) = true := by simpa using hqg
        have hpl := pos_lt HQP.out
        have HX := Lib.hid (show (jumpsOf a b o q).find? (fun l => hasB B (Peg.flip q l)) = some x from (HSW.out q HQP.out).trans s1)
        have HPJ := pegs_jump (HIN.out x s2).1 s3
        have HRS := Lib.hid (wayRun_step hqg s1 (by omega))
        have HJI : Hid (∀ l ∈ jumpsOf a b o q, l ∈ linesOf a b o) := fun l hl => (jumpsOf_in hl).2.1
        have hJL := jumpsOf_le a b o q
        have hbox : ∀ j, wr.cell? ⟨w.heap.size, j, none⟩ = #[Value.int .i64 a, .int .i64 b, .int .i64 o][j]? := fun j => (HBw.out.cell (p := ⟨w.heap.size, j, none⟩) hzw3).trans (hbox0.out j)
        have hzwr : w.heap.size < wr.heap.size := by omega
        clear s1
        go_wp2_with fail
        refine (sJumpsOf_any a b o q (by omega) wr).mono ?_
        rintro e w4 ⟨vJ, rfl, hownJ, hb4⟩
        have HB4 := Lib.hid (HBw.out.trans (hb4.mono HBw.out.size))
        have hz4 := hb4.size
        have HOW4 := Lib.hid (HOW.out.keep hb4)
        have HJO := Lib.hid hownJ
        obtain ⟨aJ, cJ, rfl, -, hgJ⟩ := hownJ.lineG
        have HGJ := Lib.hid hgJ
        clear hb4 hownJ hgJ hbox
        generalize jumpsOf a b o q = J at *
        go_wp2_with fail
        go_loopw [1, 8, 11] (fun t v k wr => ∃ j : Nat, j ≤ J.length ∧ t = .int .i64 q ∧ v = .slice aD D.length cD ∧ k = .int .i64 j ∧ Hid ((J.take j).find? (fun l => hasB B (Peg.flip q l)) = none) ∧ Below w4.heap.size w4 wr) (fun _ _ k _ => J.length - (intOf k).toNat)
        case atStart => exact ⟨0, by omega, rfl, rfl, rfl, by show _ = _; simp, Below.refl _ _⟩
        case round =>
          obtain ⟨j, hj, rfl, rfl, rfl, HNO, hbi⟩ := hrel
          have hzi := hbi.size
          by_cases hjl : j < J.length
          rotate_left
          · obtain rfl : j = J.length := by omega
            have h1 := HNO.out
            rw [List.take_length, HX.out] at h1
            cases h1
          · obtain ⟨bL, rfl, _, hbL, c0, c1, c2⟩ := HGJ.out j hjl
            have HBi := Lib.hid (HB4.out.trans (hbi.mono HB4.out.size))
            have HBi4 := Lib.hid hbi
            have d0 : wr.cell? ⟨bL, j * 3, none⟩ = some (.int .i64 (gD J Ln0 j).f) := (hbi.cell (p := ⟨bL, j * 3, none⟩) hbL).trans c0
            have d1 : wr.cell? ⟨bL, j * 3 + 1, none⟩ = some (.int .i64 (gD J Ln0 j).o) := (hbi.cell (p := ⟨bL, j * 3 + 1, none⟩) hbL).trans c1
            have d2 : wr.cell? ⟨bL, j * 3 + 2, none⟩ = some (.int .i64 (gD J Ln0 j).t) := (hbi.cell (p := ⟨bL, j * 3 + 2, none⟩) hbL).trans c2
            have hbLr : bL < wr.heap.size := by omega
            have hyL := HJI.out _ (gD_mem J Ln0 j hjl)
            have hLi := (HIN.out _ hyL).1
            have HNX := Lib.hid (fun h => find_next (d := Ln0) hjl HNO.out h)
            have HAT := Lib.hid (fun h => find_at (d := Ln0) hjl HNO.out h)
            have hfp := HFP.out q _ HQP.out hyL
            obtain ⟨n0, n1⟩ := HSL.out _ hfp
            have HOBr := HOB.out.keep HBi.out
            clear c0 c1 c2 hbi hyL
            generalize hyG : gD J Ln0 j = y at *
            have HYG := Lib.hid hyG
            clear hyG
            have HL5 : Hid (∀ W, Calls Try.prog 43 #[.agg #[.int .i64 y.f, .int .i64 y.o, .int .i64 y.t]] W fun e w' => e = .returned (.int .i64 (lbits y)) ∧ Below W.heap.size W w') := fun W => l05Bits_any y.f y.o y.t hLi W
            have pb2 : lbits y < 9223372036854775808 := Int.lt_trans (lbits_lt (k := 49) hLi (by have := hLi.1.2; omega) (by have := hLi.2.1.2; omega) (by have := hLi.2.2.1.2; omega)) (by rw [pw49]; decide)
            have hxor : bits BinOp.xor IntKind.i64 q (lbits y) = Peg.flip q y := bits_xor (a := q) (b := lbits y) hpl.1 (by omega) (lbits_nonneg y) pb2
            have hqB : (Peg.flip q y).toNat < B.length := by rw [HLN.out]; omega
            obtain ⟨aB', cB', hvv, _, hgB⟩ := HOBr.bool
            obtain ⟨bB, hbB, _, hbB2, hcB⟩ := hgB _ hqB
            simp only [Value.slice.injEq] at hvv
            rw [← hvv.1] at hbB
            subst hbB
            have HH : Hid (hasB B (Peg.flip q y) = B.getD (Peg.flip q y).toNat false) := by
              show _ = _
              simp [hasB, n0]
              omega
            have hn2 : Peg.flip q y < B.length := by omega
            clear pb2 hvv hgB hLi hfp HOBr n1
            rw [← HH.out] at hcB
            clear HH
            have hqB2 : decide ((B.length : Int) ≤ Peg.flip q y) = false := by simp; omega
            go_wp2_with fail
            refine (HL5.out _).mono ?_
            rintro e w5 ⟨rfl, hb5⟩
            have hz5 := hb5.size
            have hcB5 := (hb5.cell (p := ⟨bB, (Peg.flip q y).toNat, none⟩) hbB2).trans hcB
            have e0 := (hb5.cell (p := ⟨bL, j * 3, none⟩) hbLr).trans d0
            have e1 := (hb5.cell (p := ⟨bL, j * 3 + 1, none⟩) hbLr).trans d1
            have e2 := (hb5.cell (p := ⟨bL, j * 3 + 2, none⟩) hbLr).trans d2
            have HB5 := Lib.hid (HBi4.out.trans (hb5.mono hzi))
            have hbL5 : bL < w5.heap.size := by omega
            have hbB5 : bB < w5.heap.size := by omega
            clear hb5 hcB d0 d1 d2
            cases hh : hasB B (Peg.flip q y)
            · have HN2 := Lib.hid (HNX.out (by simp [hh]))
              rw [hh] at hcB5
              clear hh
              generalize Peg.flip q y = q' at *
              generalize lbits y = LB at *
              go_wp2_with fail
              go_roundw
              case rel => exact ⟨j + 1, by omega, rfl, rfl, by go_num, HN2, HB5.out⟩
              case measure => simp [intOf]; omega
            · have hxy := HAT.out (by simp [hh])
              rw [HX.out] at hxy
              obtain rfl : x = y := by simpa using hxy
              rw [hh] at hcB5
              have hown5 := HOW4.out.keep HB5.out
              have hD49 : D.length ≤ 1048576 := by omega
              have HS5 := Lib.hid s5
              have HS6 := Lib.hid s6
              have hz35 : w3.heap.size ≤ w5.heap.size := by omega
              have HDl := Lib.hid hDl
              have HPJ2 := Lib.hid HPJ
              have HB5w := Lib.hid (HB4.out.trans (HB5.out.mono HB4.out.size))
              clear hh hxy s2 s3 s4 s5 s6 hDl HPJ
              generalize Peg.flip q x = q' at *
              generalize lbits x = LB at *
              have HPOST : Hid (∀ w7 : World, (w5.alloc (.cells (ELine.enc x).toArray ELine.e)).grownBy w7 (Value.slice aD D.length cD).ownBlock → bL < w7.heap.size ∧ w7.cell? ⟨bL, j * 3, none⟩ = some (.int .i64 x.f) ∧ w7.cell? ⟨bL, j * 3 + 1, none⟩ = some (.int .i64 x.o) ∧ w7.cell? ⟨bL, j * 3 + 2, none⟩ = some (.int .i64 x.t)) := fun w7 hg7 => by
                have hJ0 : 0 < J.length := by omega
                have hne : (Value.slice (some ⟨bL, 0, none⟩) J.length cJ).ownBlock ≠ (Value.slice aD D.length cD).ownBlock := by
                  intro h
                  cases hk : (Value.slice aD D.length cD).ownBlock with
                  | none => rw [hk] at h; simp [Value.ownBlock] at h
                  | some k =>
                    rw [hk] at h
                    have h1 := (HJO.out.blockGe k (by rw [rowOf_ne hJ0]; exact h)).1
                    have h2 := HOK.out k hk
                    omega
                have hJ7 := ((HJO.out.keep HB5.out).alloc (.cells (ELine.enc x).toArray ELine.e)).grown hg7 (.inl hne)
                obtain ⟨a7, c7, hv7, _, hg⟩ := hJ7.lineG
                obtain ⟨b7, hb7, _, hlt7, k0, k1, k2⟩ := hg j hjl
                simp only [Value.slice.injEq] at hv7
                rw [← hv7.1] at hb7
                obtain rfl : bL = b7 := by simpa using hb7
                rw [HYG.out] at k0 k1 k2
                exact ⟨hlt7, k0, k1, k2⟩
              go_wp2_with (at_builtin; (refine append1 (E := ELine) (v := .slice aD D.length cD) (l := D) rfl rfl _ _ 36 rfl Try.underlying36 rfl hown5 x rfl (by omega) (by omega) ?_); intro v' w7 hown7 hb7 hg7; obtain ⟨k3, k0, k1, k2⟩ := HPOST.out w7 hg7)
              refine (HL5.out _).mono ?_
              rintro e w8 ⟨rfl, hb8⟩
              have hown8 := hown7.keep hb8
              have HB8 := Lib.hid ((HB5w.out.trans (hb7.mono (Nat.le_refl _))).trans (hb8.mono (by have := hb7.size; omega)))
              clear hb7 hg7 hb8 hown7
              go_wp2_with fail
              go_roundw
              case rel => exact ⟨q', D ++ [x], rfl, hown8, HS5, HS6, by show _ = _; rw [HRU.out, HRS.out]; simp, by have := HDl.out; have := HPJ2.out; simp; omega, by show ∀ k, _; intro k hk; exact (hown8.blockGe k (by rw [rowOf_ne (by simp)]; exact hk)).2, HB8.out⟩
              case measure => have := HPJ2.out; simp [intOf]; omega
end Go.Proofs.Ytledmebhlmpjaaa
