/- Jumps, games and positions can be read back from their texts, for all drawn codes. The listed tables stand as the program's text lays them. -/
import Derived.Test.YtkaojpcpfbbicaaDoorCardS
import Derived.Test.YtkaojpcpfbbicaaDoorNmE
import Derived.Test.YtkaojpcpfbbicaaDoorNmA
import Derived.Test.YtkaojpcpfbbicaaDoorOpen
import Derived.Test.YtkaojpcpfbbicaaDoorCards
import Derived.Deep.RegionWith
import Derived.Deep.DeepCutAuto
set_option linter.unusedVariables false
set_option linter.unusedSimpArgs false
namespace Go.Proofs.YtkaojpcpfbbicaaDoor.fnNotes
open Go.ChangeShapes Go.WideShapes Go.ChangeAt Go.RowKit Peg Go.Sort
set_option maxHeartbeats 40000000 in
set_option maxRecDepth 100000 in
theorem law_any (v : Value) (l : List Int) (w : World) (hv : Rd EBy w v l) (hok : ∀ y ∈ l, ByOk y) (ht : HTab w) (hm : MaxCell w) :
    Calls Tryd.prog 9 #[v] w fun e w' => e = .returned (.bool true) ∧ Below w.heap.size w w' := by
  clear ht
  by_cases hl : 1048576 < l.length
  · have HB : Hid (∀ W, Rd EBy W v l → Calls Tryd.prog 28 #[v] W fun e w' => e = .returned (.bool true) ∧ W = w') := fun W hW => by have h := big_any v l W hW; rwa [decide_eq_true (by omega)] at h
    clear hm
    go_enter Tryd.func9, Tryd.ntmps9
    go_wp2_with (go_at_call 28; refine (HB.out _ hv).mono ?_; rintro e w' ⟨rfl, rfl⟩)
    all_goals go_ret
    all_goals exact ⟨by simp, Below.refl _ _⟩
  have HB : Hid (∀ W, Rd EBy W v l → Calls Tryd.prog 28 #[v] W fun e w' => e = .returned (.bool false) ∧ W = w') := fun W hW => by have h := big_any v l W hW; rwa [decide_eq_false (by omega)] at h
  have HV := Lib.hid hv
  have HO := Lib.hid hok
  have HMX := Lib.hid hm
  clear hv hok hm
  go_enter Tryd.func9, Tryd.ntmps9
  go_wp2_with (go_at_call 28; refine (HB.out _ HV.out).mono ?_; rintro e w' ⟨rfl, rfl⟩)
  refine (DrawGame_any v l w HV.out HO.out (by omega)).mono ?_
  rintro e w1 ⟨a, b, o, p, q, L, vL, rfl, hsm, hpo, hpl, -, h11, hown, hb1⟩
  have hLL := play_lines hpl
  have hTF := text_facts hLL (by omega)
  have hRB := read_back hLL (by omega)
  have hPB := pos_back hpo
  have hps := pos_lt hpo
  have hz1 := hb1.size
  have hPS : ∀ y, y < (posText a b o p).length → (gD (posText a b o p) B0 y).size ≤ 1048576 := by
    intro y hy
    obtain ⟨hbk, _, _⟩ := posOk_bd hpo
    have hs1 := inR_iff.1 (boardOk_sides hbk).1
    have hT : posText a b o p = rowsB p o a.toNat b.toNat := by simp [posText, hpo]
    rw [hT] at hy ⊢
    unfold rowsB at hy ⊢
    rw [gD_lt _ _ _ hy]
    simp [rowB, ByteArray.size, rowTo_length]
    omega
  have hJB : ∀ k, k < L.length → readJump a b o (jumpText a b o (gD L Ln0 k)) = some (gD L Ln0 k) ∧ (jumpText a b o (gD L Ln0 k)).size = 5 := fun k hk => ⟨jumpBack (hLL _ (gD_mem L Ln0 k hk)), (jt_facts (hLL _ (gD_mem L Ln0 k hk))).1⟩
  have HB1 := Lib.hid hb1
  have HOW := Lib.hid hown
  have HTF := Lib.hid hTF
  have HRB := Lib.hid hRB
  have HPB := Lib.hid hPB
  have HPS := Lib.hid hPS
  have HJB := Lib.hid hJB
  obtain ⟨aL, cL, rfl, -, -⟩ := hown.lineG
  clear hb1 hown hTF hRB hPB hPS hJB hLL hpl hpo hsm HB HV HO
  obtain ⟨w2, hw2⟩ : ∃ w2 : World, w2 = w1.alloc (.cells #[.int .i64 a, .int .i64 b, .int .i64 o] 29) := ⟨_, rfl⟩
  have hb2 : Below w1.heap.size w1 w2 := by rw [hw2]; exact (Below.refl _ _).alloc (Nat.le_refl _) _
  have hx2 : ∀ j, w2.cell? ⟨w1.heap.size, j, none⟩ = #[Value.int .i64 a, .int .i64 b, .int .i64 o][j]? := fun j => by rw [hw2]; simp
  have hz2 : w1.heap.size < w2.heap.size := by rw [hw2]; simp
  go_upto_region 4 with fail
  rw [← hw2]
  clear hw2
  have HO2 := Lib.hid (HOW.out.keep hb2)
  have HB2 := Lib.hid (HB1.out.trans (hb2.mono hz1))
  have hzw2 : w.heap.size ≤ w2.heap.size := by omega
  -- what is kept
  have HK : Hid (∀ W, Below w2.heap.size w2 W → (∀ j, W.cell? ⟨w1.heap.size, j, none⟩ = #[Value.int .i64 a, .int .i64 b, .int .i64 o][j]?) ∧ w1.heap.size < W.heap.size ∧ Own ELine W w.heap.size (.slice aL L.length cL) L ∧ MaxCell W ∧ Below w.heap.size w W) := fun W hb => ⟨fun j => (hb.cell (p := ⟨w1.heap.size, j, none⟩) hz2).trans (hx2 j), Nat.lt_of_lt_of_le hz2 hb.size, HO2.out.keep hb, HMX.out.keep (HB2.out.trans (hb.mono hzw2)), HB2.out.trans (hb.mono hzw2)⟩
  clear hb2 HOW HB1
  go_wp2_with fail
  refine (GameText_any a b o L _ w2 HO2.out).mono ?_
  rintro e w3 ⟨rfl, hb3⟩
  obtain ⟨hx3, hl3, hO3, hM3, hB3⟩ := HK.out w3 hb3
  have HB3 := Lib.hid hb3
  clear hb3 hx2 hB3
  have hts : (gameText a b o L).size ≤ 1048576 := by
    by_cases hL0 : L = []
    · rw [HTF.out.1 hL0]; decide
    · have h1 := (HTF.out.2 hL0).1
      have h2 := sweepsTo_le L L.length
      unfold sweeps at h1
      omega
  go_wp2_with fail
  refine (ReadGame_any a b o (gameText a b o L) hts w3 hM3).mono ?_
  rintro e w4 ⟨v2, rfl, hown2, hb4⟩
  have HB4 := Lib.hid (HB3.out.trans (hb4.mono HB3.out.size))
  obtain ⟨hx4, hl4, hO4, hM4, hB4⟩ := HK.out w4 HB4.out
  clear hb4 hx3 hO3 hM3 hl3 HB3
  have hV2 : (readGI a b o (gameText a b o L)).isSome = decide (0 < L.length) ∧ (readGI a b o (gameText a b o L)).getD [] = L := by
    rw [HRB.out]
    by_cases hL0 : L = []
    · simp [hL0]
    · have := List.length_pos_iff.2 hL0
      simp [hL0, this]
  rw [hV2.1]
  rw [hV2.2] at hown2
  have HO4 := Lib.hid hO4
  have HV4 := Lib.hid hown2
  obtain ⟨a2, c2, rfl, -, -⟩ := hown2.lineG
  clear hV2 hown2 hO4 HRB
  have HTX := Lib.hid HTF.out
  generalize gameText a b o L = t at *
  go_upto_region 6 with fail
  have HPT : Hid (∀ W, Below w4.heap.size w4 W → Calls Tryd.prog 38 #[.agg #[.int .i64 a, .int .i64 b, .int .i64 o], .int .i64 p] W fun e w' => ∃ v, e = .returned v ∧ Own EStr w' W.heap.size v (posText a b o p) ∧ Hid (Below w4.heap.size w4 w')) := fun W hb => (sPositionText_any a b o p (by omega) W).mono fun e w' ⟨v, he, ho, hb2⟩ => ⟨v, he, ho, hb.trans (hb2.mono hb.size)⟩
  have HRP : Hid (∀ v W B, Below w4.heap.size w4 W → Own EStr W B v (posText a b o p) → Calls Tryd.prog 37 #[.agg #[.int .i64 a, .int .i64 b, .int .i64 o], v] W fun e w' => e = .returned (.tuple #[.int .i64 p, .bool true]) ∧ Hid (Below w4.heap.size w4 w')) := fun v W B hb ho => by
    have h := ReadPosition_any a b o (posText a b o p) v HPS.out W ho
    rw [HPB.out] at h
    exact h.mono fun e w' ⟨he, hb2⟩ => ⟨he, hb.trans (hb2.mono hb.size)⟩
  have HKX : Hid (∀ W, Below w4.heap.size w4 W → (∀ j, W.cell? ⟨w1.heap.size, j, none⟩ = #[Value.int .i64 a, .int .i64 b, .int .i64 o][j]?) ∧ w1.heap.size < W.heap.size) := fun W hb => ⟨fun j => (hb.cell (p := ⟨w1.heap.size, j, none⟩) hl4).trans (hx4 j), Nat.lt_of_lt_of_le hl4 hb.size⟩
  have HD4 : Hid (Below w4.heap.size w4 w4.drew) := (Below.refl _ _).drew
  go_cut [9, 10] (fun x y wx => x = .int .i64 p ∧ y = .bool true ∧ Below w4.heap.size w4 wx)
  case first =>
    as_aux_lemma =>
      go_region_with (first
        | (go_at_call 38; refine (HPT.out _ HD4.out).mono ?_; rintro e w5 ⟨vt, rfl, ho5, HB5⟩; have HO5 := Lib.hid ho5; have hkx := HKX.out w5 HB5.out; obtain ⟨hx5, hl5⟩ := hkx)
        | (go_at_call 37; refine (HRP.out _ _ _ HB5.out HO5.out).mono ?_; rintro e w6 ⟨rfl, HB6⟩))
      all_goals (go_wp2_with fail; go_meet; case rel => exact ⟨rfl, rfl, HB6.out⟩)
  obtain ⟨rfl, rfl, hbc⟩ := hcut
  obtain ⟨w6, rfl⟩ : ∃ w6 : World, w6 = wc := ⟨_, rfl⟩
  have HB6 := Lib.hid (HB4.out.trans (hbc.mono HB4.out.size))
  have HV6 := Lib.hid (HV4.out.keep hbc)
  obtain ⟨hx6, hl6, hO6, hM6, hB6⟩ := HK.out w6 HB6.out
  have HO6 := Lib.hid hO6
  clear hbc HPT HRP HKX HD4 hx4 HV4 HO4 hO6 hM4 hM6 hB4 hB6 HPB HPS
  have HSJ : Hid (∀ W, Below w6.heap.size w6 W → Calls Tryd.prog 39 #[.slice a2 L.length c2, .slice aL L.length cL] W fun e w' => e = .returned (.bool true) ∧ Below W.heap.size W w') := fun W hb => sSameJumps_same _ _ L W (HV6.out.keep hb) (HO6.out.keep hb)
  go_upto_region 7 with fail
  go_cut [63] (fun x wx => x = .bool false ∧ Below w6.heap.size w6 wx)
  case first =>
    as_aux_lemma =>
      go_wp2_with (go_at_call 39; refine (HSJ.out _ (Below.refl _ _)).mono ?_; rintro e w7 ⟨rfl, hb7⟩)
      all_goals (go_meet; case rel => exact ⟨by simp, by first | exact hb7 | exact Below.refl _ _⟩)
  obtain ⟨rfl, hbc⟩ := hcut
  obtain ⟨w7, rfl⟩ : ∃ w7 : World, w7 = wc := ⟨_, rfl⟩
  have HB7 := Lib.hid (HB6.out.trans (hbc.mono HB6.out.size))
  obtain ⟨hx7, hl7, hO7, hM7, hB7⟩ := HK.out w7 HB7.out
  have HO7 := Lib.hid hO7
  clear hbc HSJ HV6 HO6 hO7 hM7 hB7 hx6 hl6
  have HPL : Hid (∀ k, k < L.length → ∃ bL, aL = some ⟨bL, 0, none⟩ ∧ bL < w7.heap.size ∧ w7.cell? ⟨bL, k * 3, none⟩ = some (.int .i64 (gD L Ln0 k).f) ∧ w7.cell? ⟨bL, k * 3 + 1, none⟩ = some (.int .i64 (gD L Ln0 k).o) ∧ w7.cell? ⟨bL, k * 3 + 2, none⟩ = some (.int .i64 (gD L Ln0 k).t)) := by
    obtain ⟨a', c', he, _, hg⟩ := HO7.out.lineG
    cases he
    exact fun k hk => by obtain ⟨bL, h1, _, h3, h4⟩ := hg k hk; exact ⟨bL, h1, h3, h4⟩
  have hzw7 : w.heap.size ≤ w7.heap.size := by have := HB7.out.size; omega
  go_wp2_with fail
  go_loopw [11] (fun i wr => ∃ k : Nat, k ≤ L.length ∧ i = .int .i64 k ∧ Hid (Below w7.heap.size w7 wr)) (fun i _ => L.length - (intOf i).toNat)
  case atStart => exact ⟨0, by omega, rfl, Below.refl _ _⟩
  case round =>
    obtain ⟨k, hk, rfl, HBr⟩ := hrel
    have hzr := HBr.out.size
    by_cases hke : k < L.length
    · obtain ⟨hj1, hj2⟩ := HJB.out k hke
      obtain ⟨bL, rfl, hbL7, q0, q1, q2⟩ := HPL.out k hke
      obtain ⟨hxr, hlr, hOr, hMr, hBr⟩ := HK.out wr (HB7.out.trans (HBr.out.mono HB7.out.size))
      clear hOr hMr hBr
      obtain ⟨w8, rfl⟩ : ∃ w8 : World, w8 = wr := ⟨_, rfl⟩
      have d0 : w8.cell? ⟨bL, k * 3, none⟩ = some (.int .i64 (gD L Ln0 k).f) := (HBr.out.cell (p := ⟨bL, k * 3, none⟩) hbL7).trans q0
      have d1 : w8.cell? ⟨bL, k * 3 + 1, none⟩ = some (.int .i64 (gD L Ln0 k).o) := (HBr.out.cell (p := ⟨bL, k * 3 + 1, none⟩) hbL7).trans q1
      have d2 : w8.cell? ⟨bL, k * 3 + 2, none⟩ = some (.int .i64 (gD L Ln0 k).t) := (HBr.out.cell (p := ⟨bL, k * 3 + 2, none⟩) hbL7).trans q2
      have hbL8 : bL < w8.heap.size := by omega
      clear q0 q1 q2
      have HJT0 : Hid (∀ W, Calls Tryd.prog 15 #[.agg #[.int .i64 a, .int .i64 b, .int .i64 o], .agg #[.int .i64 (gD L Ln0 k).f, .int .i64 (gD L Ln0 k).o, .int .i64 (gD L Ln0 k).t]] W fun e w' => e = .returned (.string (jumpText a b o (gD L Ln0 k))) ∧ Below W.heap.size W w') := fun W => JumpText_any a b o (gD L Ln0 k) W
      have HRJ0 : Hid (∀ W, Calls Tryd.prog 22 #[.agg #[.int .i64 a, .int .i64 b, .int .i64 o], .string (jumpText a b o (gD L Ln0 k))] W fun e w' => e = .returned (.tuple #[.agg #[.int .i64 (gD L Ln0 k).f, .int .i64 (gD L Ln0 k).o, .int .i64 (gD L Ln0 k).t], .bool true]) ∧ Below W.heap.size W w') := fun W => by
        have h := ReadJump_any a b o (jumpText a b o (gD L Ln0 k)) (by omega) W
        rw [hj1] at h
        exact h
      clear hj1
      generalize jumpText a b o (gD L Ln0 k) = jt at *
      generalize gD L Ln0 k = x at *
      have HJT : Hid (∀ W, Below w8.heap.size w8 W → Calls Tryd.prog 15 #[.agg #[.int .i64 a, .int .i64 b, .int .i64 o], .agg #[.int .i64 x.f, .int .i64 x.o, .int .i64 x.t]] W fun e w' => e = .returned (.string jt) ∧ Hid (Below w8.heap.size w8 w') ∧ ∀ B, K1 w8 B W → K1 w8 B w') := fun W hk => (HJT0.out W).mono fun e w' ⟨he, hb⟩ => ⟨he, hk.trans (hb.mono hk.size), fun B h => h.next hb⟩
      have HRJ : Hid (∀ W, Below w8.heap.size w8 W → Calls Tryd.prog 22 #[.agg #[.int .i64 a, .int .i64 b, .int .i64 o], .string jt] W fun e w' => e = .returned (.tuple #[.agg #[.int .i64 x.f, .int .i64 x.o, .int .i64 x.t], .bool true]) ∧ Hid (Below w8.heap.size w8 w') ∧ ∀ B, K1 w8 B W → K1 w8 B w') := fun W hk => (HRJ0.out W).mono fun e w' ⟨he, hb⟩ => ⟨he, hk.trans (hb.mono hk.size), fun B h => h.next hb⟩
      have HS : Hid (∀ W, Below w8.heap.size w8 W → Below w8.heap.size w8 W ∧ w8.heap.size ≤ W.heap.size ∧ W.cell? ⟨w1.heap.size, 0, none⟩ = some (.int .i64 a) ∧ W.cell? ⟨w1.heap.size, 1, none⟩ = some (.int .i64 b) ∧ W.cell? ⟨w1.heap.size, 2, none⟩ = some (.int .i64 o) ∧ W.cell? ⟨bL, k * 3, none⟩ = some (.int .i64 x.f) ∧ W.cell? ⟨bL, k * 3 + 1, none⟩ = some (.int .i64 x.o) ∧ W.cell? ⟨bL, k * 3 + 2, none⟩ = some (.int .i64 x.t)) := fun W hb =>
        ⟨hb, hb.size, (hb.cell (p := ⟨w1.heap.size, 0, none⟩) hlr).trans (hxr 0), (hb.cell (p := ⟨w1.heap.size, 1, none⟩) hlr).trans (hxr 1), (hb.cell (p := ⟨w1.heap.size, 2, none⟩) hlr).trans (hxr 2), (hb.cell (p := ⟨bL, k * 3, none⟩) hbL8).trans d0, (hb.cell (p := ⟨bL, k * 3 + 1, none⟩) hbL8).trans d1, (hb.cell (p := ⟨bL, k * 3 + 2, none⟩) hbL8).trans d2⟩
      clear hxr d0 d1 d2
      have hi0 : (0 : Int) ≤ (k : Int) := by omega
      have hi1 : (k : Int) < (L.length : Int) := by omega
      go_upto_region 12 with fail
      go_cut [12, 13] (fun p t wx => ∃ B : Nat, p = .pointer (some ⟨B, 0, none⟩) ∧ t = .bool true ∧ w8.heap.size ≤ B ∧ B < wx.heap.size ∧ Hid (∀ j, wx.cell? ⟨B, j, none⟩ = #[Value.int .i64 x.f, .int .i64 x.o, .int .i64 x.t][j]?) ∧ Hid (Below w8.heap.size w8 wx))
      case first =>
        as_aux_lemma =>
          have HD8 : Hid (Below w8.heap.size w8 w8.drew) := (Below.refl _ _).drew
          have HA8 : Hid (Below w8.heap.size w8 (w8.alloc (.cells #[.int .i64 0, .int .i64 0, .int .i64 0] 31)).drew) := ((Below.refl _ _).alloc (Nat.le_refl _) _).drew
          go_region_held3 (fun W : World => Below w8.heap.size w8 W ∧ w8.heap.size ≤ W.heap.size ∧ W.cell? ⟨w1.heap.size, 0, none⟩ = some (.int .i64 a) ∧ W.cell? ⟨w1.heap.size, 1, none⟩ = some (.int .i64 b) ∧ W.cell? ⟨w1.heap.size, 2, none⟩ = some (.int .i64 o) ∧ W.cell? ⟨bL, k * 3, none⟩ = some (.int .i64 x.f) ∧ W.cell? ⟨bL, k * 3 + 1, none⟩ = some (.int .i64 x.o) ∧ W.cell? ⟨bL, k * 3 + 2, none⟩ = some (.int .i64 x.t)) ((exact HS.out _ (by (repeat' first | exact HB11.out | exact HB9.out | exact Below.refl _ _ | exact e11 | (with_reducible refine Below.drew ?_) | (with_reducible refine Below.alloc ?_ ?_ _) | (with_reducible refine Below.setCell ?_ ?_ _) | exact Nat.le_refl _ | exact HB11.out.size | exact HB9.out.size)))) ((first
            | (go_at_call 15; with_reducible refine (HJT.out w8.drew HD8.out).mono ?_; rintro e w9 ⟨rfl, HB9, K9⟩)
            | (go_at_call 15; with_reducible refine (HJT.out (w8.alloc (.cells #[.int .i64 0, .int .i64 0, .int .i64 0] 31)).drew HA8.out).mono ?_; rintro e w9 ⟨rfl, HB9, K9⟩; have z9 := Lib.hid (K9 _ (K1.made w8 w8 (Nat.le_refl _)).drew))
            | (go_at_call 22; with_reducible refine (HRJ.out w9 HB9.out).mono ?_; rintro e w11 ⟨rfl, HB11, K11⟩; (try (have z11 := K11 _ z9.out; obtain ⟨c11, f11, l11, e11⟩ := z11)))
            | (go_at_call 22; with_reducible refine (HRJ.out (w9.alloc (.cells #[.int .i64 0, .int .i64 0, .int .i64 0] 31)) (HB9.out.alloc HB9.out.size _)).mono ?_; rintro e w11 ⟨rfl, HB11, K11⟩; have z11 := K11 _ (K1.made w8 w9 HB9.out.size); obtain ⟨c11, f11, l11, e11⟩ := z11)))
          all_goals (go_wp2_with fail; go_meet; case rel => first | (exact ⟨w11.heap.size, rfl, rfl, HB11.out.size, by simp, fun j => by simp, HB11.out.alloc HB11.out.size _⟩) | (exact ⟨_, rfl, rfl, e11, by simpa using l11, box3_put _ _ _ _ _ _ _ _ c11, ((HB11.out.setCell e11 _).setCell e11 _).setCell e11 _⟩))
      obtain ⟨Bx, rfl, rfl, hBx8, hBxc, hY, hbc⟩ := hcut
      obtain ⟨w12, rfl⟩ : ∃ w12 : World, w12 = wc := ⟨_, rfl⟩
      have hY12 := hY.out
      obtain ⟨_, hz12, s0, s1, s2, s3, s4, s5⟩ := HS.out w12 hbc.out
      have hbL12 : bL < w12.heap.size := by omega
      have hl12 : w1.heap.size < w12.heap.size := by omega
      have hj5 : (jt.size : Int) = 5 := by omega
      have hj5b : ((jt.size : Int) != 5) = false := by rw [hj5]; rfl
      clear HJT HRJ HS hY
      go_upto_region 13 with fail
      go_cut [100] (fun t wx => t = .bool false ∧ Below w12.heap.size w12 wx)
      case first =>
        as_aux_lemma =>
          ((with_reducible refine wp_region_qb ?_ ?_ (fun hq => ?_)); (focus kernel_rfl); (focus kernel_rfl); (repeat (go_big_quiet_step ((go_at_call 15; exact Calls.regrown_of (HJT0.out _))))); refine wpQuiet_nil ?_; intro wz hb; go_wp2_with fail; go_meet; (case rel => exact ⟨by simp [hj2], hb⟩))
      obtain ⟨rfl, hbd⟩ := hcut
      have HBE := Lib.hid (HBr.out.trans ((hbc.out.trans (hbd.mono hz12)).mono hzr))
      clear hbd
      go_wp2_with fail
      go_roundw
      case rel => exact ⟨k + 1, by omega, by go_num, HBE.out⟩
      case measure => simp [intOf]; omega
    · obtain rfl : k = L.length := by omega
      have HB8 := Lib.hid (HB7.out.trans (HBr.out.mono HB7.out.size))
      obtain ⟨hx8, hl8, hO8, hM8, hB8⟩ := HK.out wr HB8.out
      have HO8 := Lib.hid hO8
      clear hO8 hM8 hB8 hx8
      have HSPS := Lib.hid (spTo_succ t)
      have HBT : Hid (∀ x W, Calls Tryd.prog 40 #[.bool x] W fun e w' => e = .returned (.int .i64 (if x = true then 1 else 0)) ∧ W = w') := fun x W => btoiN_any x W
      go_wp2_with fail
      go_loopw [14, 15] (fun c i wz => ∃ j : Nat, j ≤ t.size ∧ i = .int .i64 j ∧ c = .int .i64 (spTo t j : Nat) ∧ wz = wr) (fun _ i _ => t.size - (intOf i).toNat)
      case atStart => exact ⟨0, by omega, rfl, rfl, rfl⟩
      case round =>
        obtain ⟨j, hj, rfl, rfl, rfl⟩ := hrel
        have hsl := spTo_le t j
        by_cases hje : j < t.size
        · have hs := HSPS.out j hje
          have hlt : (j : Int) < (t.size : Int) := by omega
          by_cases hc : t[j] = 32
          · have q3 : (t[j].toNat : Int) = 32 := by rw [hc]; rfl
            have q5 : ((t[j].toNat : Int) == 32) = true := by rw [q3]; rfl
            rw [if_pos hc] at hs
            have HSS := Lib.hid hs
            clear hs
            go_wp2_with (go_at_call 40; refine (HBT.out _ _).mono ?_; rintro e w' ⟨rfl, rfl⟩)
            all_goals exact ⟨⟨j + 1, by omega, by go_num, by rw [HSS.out]; simp, trivial⟩, by simp [intOf] <;> omega⟩
          · have q3 : ¬ (t[j].toNat : Int) = 32 := fun e => hc (UInt8.toNat_inj.1 (by rw [show (t[j].toNat : Nat) = 32 by omega]; rfl))
            have q5 : ((t[j].toNat : Int) == 32) = false := by rw [beq_eq_false_iff_ne]; exact q3
            rw [if_neg hc] at hs
            have HSS := Lib.hid hs
            clear hs
            go_wp2_with (go_at_call 40; refine (HBT.out _ _).mono ?_; rintro e w' ⟨rfl, rfl⟩)
            all_goals exact ⟨⟨j + 1, by omega, by go_num, by rw [HSS.out]; simp, trivial⟩, by simp [intOf] <;> omega⟩
        · obtain rfl : j = t.size := by omega
          have hcnt := spTo_all t
          have hsw := sweepsTo_le L L.length
          have HCS : Hid (∀ W, Below wr.heap.size wr W → Calls Tryd.prog 41 #[.slice aL L.length cL] W fun e w' => e = .returned (.int .i64 (sweeps L : Nat)) ∧ Below W.heap.size W w') := fun W hb => sCountSweeps_any L _ W (HO8.out.keep hb)
          by_cases hL0 : L = []
          · have ht0 := HTX.out.1 hL0
            have hs0 : sweeps L = 0 := by rw [hL0]; rfl
            have hn0 : L.length = 0 := by rw [hL0]; rfl
            have hsp : spTo t t.size = 0 := by rw [ht0]; rfl
            rw [hs0] at HCS
            rw [hsp]
            have hti : t.toList = [] := by rw [Go.Lib.toList_data, ht0]
            have hti2 : t.toList.isEmpty = true := by rw [hti]; rfl
            have hti3 : (t.toList == []) = true := by rw [hti]; rfl
            have htz : t.size = 0 := by rw [ht0]; rfl
            clear ht0 hs0 hsp HTX hcnt
            rw [hn0] at HCS
            have hln : (((L.length : Nat) : Int) == 0) = true := by rw [hn0]; rfl
            clear HSPS
            have hacc : Below wr.heap.size wr wr := Below.refl _ _
            go_wp2_with (go_at_call 41; refine (HCS.out _ hacc).mono ?_; rintro e w9 ⟨rfl, hb9⟩; have hacc := hacc.trans (hb9.mono hacc.size))
            all_goals go_ret
            all_goals exact ⟨by first | rfl | decide | simp, HB2.out.trans ((HB8.out.trans (hacc.mono HB8.out.size)).mono hzw2)⟩
          · obtain ⟨f1, f2, -⟩ := HTX.out.2 hL0
            rw [← hcnt] at f2
            have hn0 : L.length ≠ 0 := fun e => hL0 (List.eq_nil_of_length_eq_zero e)
            unfold sweeps at *
            generalize sweepsTo L L.length = sw at *
            generalize spTo t t.size = sp at *
            have hln : (((L.length : Nat) : Int) == 0) = false := by rw [beq_eq_false_iff_ne]; omega
            have heq : (((sp : Nat) : Int) + 1 == (sw : Int)) = true := by rw [beq_iff_eq]; omega
            have hlen : ((t.size : Int) == 3 * (L.length : Int) + 3 * (sw : Int) - 1) = true := by rw [beq_iff_eq]; omega
            have hmax : ((t.size : Int) == max 0 (3 * (L.length : Int) + 3 * (sw : Int) - 1)) = true := by rw [beq_iff_eq, Int.max_eq_right (by omega)]; omega
            clear HTX hcnt
            clear HSPS
            have hacc : Below wr.heap.size wr wr := Below.refl _ _
            go_wp2_with (go_at_call 41; refine (HCS.out _ hacc).mono ?_; rintro e w9 ⟨rfl, hb9⟩; have hacc := hacc.trans (hb9.mono hacc.size))
            all_goals go_ret
            all_goals exact ⟨by first | rfl | (simp only [hmax]; done) | (simp [hmax]; done) | (rw [hmax]), HB2.out.trans ((HB8.out.trans (hacc.mono HB8.out.size)).mono hzw2)⟩

set_option maxRecDepth 100000 in
theorem law_walk : CardWalkS 9 Tryd.f9.params.toList Rows.fnNotesRow.laid := by
  intro H enc W base args ds ps hval hA hL hSh
  rw [MakeChecks.laidMetH_plain _ _ _ (by kernel_rfl)] at hL
  have ht : HTab W := htab_of hL
  clear hL
  rw [Tryd.params9] at hA hval
  obtain ⟨v0, vs0, d0, ds0, p0, q0, hargs, rfl, rfl, h0, r0⟩ := trodAll_cons hA
  obtain ⟨rfl, rfl, rfl⟩ := trodAll_nil r0
  obtain rfl : args = #[v0] := by cases args; simp_all
  obtain ⟨l0, rd0, ok0⟩ := arg_ByteS (hval 0 _ _ rfl rfl) h0
  exact law_any v0 l0 W rd0 ok0 ht (MaxCell.of W hSh)

set_option maxRecDepth 100000 in
theorem lifted (os : Os) (started : os.Started) (H : Type) (enc : TypeId × Value → H) :
    ReturnsInHanded {} Tryd.checked os 9 .any (fun w args => (Rows.fnNotesSpec.pre enc Tryd.prog Tryd.f9 [] false w args ∧ laidMetH Tryd.prog Rows.fnNotesRow.laid w) ∧ sizedMet enc Tryd.prog Tryd.f9 (OpenSpec.ofChange Rows.fnNotesSpec) false w args) (Rows.fnNotesSpec.post enc Tryd.prog Tryd.f9 false true false false) :=
  card_lift_s started (by kernel_rfl) Tryd.func9
    (ChangeSpec.witness_shaped (enc := enc) (C := Tryd.checked) (os := os) (X := fun w _ => laidMetH Tryd.prog Rows.fnNotesRow.laid w) false (World.laidAll Tryd.prog os Rows.fnNotesRow.laid) #[.slice none 0 0] 8 (World.laidAll_os _ _ _)
      (World.shaped_of_ZipB (by kernel_rfl) (by kernel_rfl)) (by kernel_rfl) (by kernel_rfl) (by kernel_rfl)
      (by rw [MakeChecks.laidMetH_plain _ _ _ (by kernel_rfl)]; exact laidMet_laidAll _ (by kernel_rfl) (by kernel_rfl)))
    rfl rfl (readable_all (by kernel_rfl)) (by intro ds h; match ds, h with | [a0], _ => rfl) law_walk

theorem over : Rows.fnNotesRow.holds Tryd.pinned (OpenSpec.ofChange Rows.fnNotesSpec) :=
  OpenClaim.holds_of_wide 9 Tryd.f9 rfl rfl rfl rfl rfl rfl rfl ⟨rfl, rfl, rfl, rfl, rfl⟩ rfl rfl rfl rfl rfl (by kernel_rfl) Tryd.func9 (by kernel_rfl)
    (of_decide_eq_true (by kernel_rfl)) (by unfold Func.isWrapper; first | (rw [if_pos (by decide +kernel)]; kernel_rfl) | (rw [if_neg (by decide +kernel)]; exact ⟨rfl, rfl⟩))
    (fun os started H enc _ => lifted os started H enc)

theorem proved : Rows.FnNotesCardSaid :=
  Claim7.holds_tied_plain_at .later [] [.data, .data, .data, .data, .pinned] true (true, "5828c335e3e33a8983c50da5d50c33a2dc7594e3330d9515997873203da2638e") false over (fun _ h => by cases h) (by kernel_rfl) (fun _ h => by cases h) fnNotes_row_tie rfl ⟨rfl, rfl⟩ (by kernel_rfl) rfl
    (fun f fn hf hfn => by
      obtain rfl : f = 9 := Option.some.inj ((show Tryd.prog.funcNamed "loop.example/g03302/laws.FnNotes" = some 9 by kernel_rfl).symm.trans hf) |>.symm
      obtain rfl : fn = Tryd.f9 := (Option.some.inj (Tryd.func9.symm.trans hfn)).symm
      exact ⟨by kernel_rfl, fun j t ht => by
        have hall : (Tryd.f9.params.toList.all fun u => !Tryd.prog.wantsStandIn u) = true := by kernel_rfl
        have hm : t ∈ Tryd.f9.params.toList := by simpa using Array.mem_of_getElem? ht
        exact (show Tryd.prog.wantsStandIn t = false by simpa using List.all_eq_true.1 hall t hm)⟩)
    (by kernel_rfl)
#print axioms proved
end Go.Proofs.YtkaojpcpfbbicaaDoor.fnNotes
