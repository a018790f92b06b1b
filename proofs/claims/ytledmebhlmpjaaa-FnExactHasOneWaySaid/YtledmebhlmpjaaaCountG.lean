/- CountG: contracts of the counter of games: count (a memo map) and counterOf. Conditions: the map's and the lines' form. -/
import Derived.Test.YtledmebhlmpjaaaMapM
import Derived.Test.YtledmebhlmpjaaaGames0
import Derived.Test.YtledmebhlmpjaaaMem3
import Derived.Deep.RegionWith
import Derived.Deep.DeepCutAuto
import Derived.Deep.Cut
import Derived.IntWalk
set_option linter.unusedVariables false
set_option linter.unusedSimpArgs false
namespace Peg
theorem sum_take_f (F : Ln → Nat) (P : Ln → Bool) (L : List Ln) (j : Nat) (h : j < L.length) : (((L.take (j + 1)).filter P).map F).sum = (((L.take j).filter P).map F).sum + if P (gD L Ln0 j) = true then F (gD L Ln0 j) else 0 := by
  rw [take_gD L Ln0 j h, List.filter_append, List.map_append, List.sum_append]
  cases hp : P (gD L Ln0 j) <;> simp [hp]
theorem sum_take_le (F : Ln → Nat) (P : Ln → Bool) (L : List Ln) (j : Nat) : (((L.take j).filter P).map F).sum ≤ ((L.filter P).map F).sum := by
  conv => rhs; rw [← List.take_append_drop j L]
  rw [List.filter_append, List.map_append, List.sum_append]
  omega
end Peg
namespace Go.Proofs.Ytledmebhlmpjaaa
open Go.ChangeShapes Go.WideShapes Go.ChangeAt Go.RowKit Peg Go.Sort
def GK : List Lit := (List.range 65536).map fun n : Nat => Lit.int .i64 n
def gk (a b o g : Int) : Lit → Int
  | .int _ p => (games a b o g p : Nat)
  | _ => 0
theorem GK_len : GK.length < maxLen := by unfold GK maxLen; rw [List.length_map, List.length_range]; omega
theorem GK_mem {p : Int} (h0 : 0 ≤ p) (h : p < 65536) : Lit.int .i64 p ∈ GK := by
  unfold GK
  refine List.mem_map.2 ⟨p.toNat, List.mem_range.2 (by omega), ?_⟩
  rw [show ((p.toNat : Nat) : Int) = p from by omega]
/-- lines that can be read -/
def LnAt (w : World) (aL : Option Addr) (L : List Ln) : Prop :=
  ∀ i, i < L.length → ∃ b, aL = some ⟨b, 0, none⟩ ∧ b < w.heap.size ∧ w.cell? ⟨b, i * 3, none⟩ = some (.int .i64 (gD L Ln0 i).f) ∧ w.cell? ⟨b, i * 3 + 1, none⟩ = some (.int .i64 (gD L Ln0 i).o) ∧ w.cell? ⟨b, i * 3 + 2, none⟩ = some (.int .i64 (gD L Ln0 i).t)
theorem LnAt.below {w w' : World} {aL : Option Addr} {L : List Ln} (h : LnAt w aL L) (hb : Below w.heap.size w w') : LnAt w' aL L := fun i hi => by
  obtain ⟨b, h1, h2, h3, h4, h5⟩ := h i hi
  exact ⟨b, h1, Nat.lt_of_lt_of_le h2 hb.size, (hb.cell h2).trans h3, (hb.cell h2).trans h4, (hb.cell h2).trans h5⟩
theorem LnAt.gro {w w' : World} {aL : Option Addr} {L : List Ln} {K E : TypeId} {B : Nat} {KS : List Lit} {G : Lit → Int} (h : LnAt w aL L) (hm : Memo w K E B KS G) (hg : w.grownBy w' (some B)) : LnAt w' aL L := fun i hi => by
  obtain ⟨b, h1, h2, h3, h4, h5⟩ := h i hi
  have hne := hm.nocell h3
  exact ⟨b, h1, Nat.lt_of_lt_of_le h2 hg.size, (gro_cell hg h2 hne).trans h3, (gro_cell hg h2 hne).trans h4, (gro_cell hg h2 hne).trans h5⟩
theorem lnN {a b o : Int} (hs : isSmall a b o = true) : (linesOf a b o).length ≤ 256 := by
  have h := linesFrom_le a b o (holesOf a b o)
  have := holesOf_length a b o
  unfold linesOf
  omega
theorem zero3 (w : World) : (zeroValue 3).run Try.prog w = .ok (.int .i64 0) w := by kernel_rfl
set_option maxHeartbeats 4000000 in
set_option maxRecDepth 100000 in
theorem count_any (a b o g : Int) (hs : isSmall a b o = true) (hg : posOk a b o g = true) (B : Nat) (aL : Option Addr) (cL : Nat) : ∀ (n : Nat) (p : Int) (w : World), pegs p = n → posOk a b o p = true →
    Memo w 3 3 B GK (gk a b o g) → LnAt w aL (linesOf a b o) →
    Calls Try.prog 61 #[.agg #[.slice aL (linesOf a b o).length cL, .int .i64 g, .int .i64 (-1), .map (some B)], .int .i64 p] w fun e w' => e = .returned (.int .i64 (games a b o g p : Nat)) ∧ Memo w' 3 3 B GK (gk a b o g) ∧ w.grownBy w' (some B) := by
  intro n
  induction n using Nat.strongRecOn with
  | _ n ih =>
  intro p w hn hp hM hL
  by_cases hpg : p = g
  · subst hpg
    have HM := Lib.hid hM
    have HG := Lib.hid (games_goal a b o p)
    clear hM hL ih hn
    go_enter Try.func61, Try.ntmps61
    go_wp2_with fail
    go_ret
    exact ⟨by simp [HG.out], HM.out.below (by (repeat' first | (with_reducible exact Below.refl _ _) | (with_reducible refine Below.alloc ?_ ?_ _) | (with_reducible refine Below.drew ?_) | (with_reducible refine Below.setCell ?_ ?_ _) | (with_reducible refine below_via (by assumption) ?_ ?_) | go_size)), gro_below (by (repeat' first | (with_reducible exact Below.refl _ _) | (with_reducible refine Below.alloc ?_ ?_ _) | (with_reducible refine Below.drew ?_) | (with_reducible refine Below.setCell ?_ ?_ _) | (with_reducible refine below_via (by assumption) ?_ ?_) | go_size))⟩
  have hpg1 : (p == g) = false := by simp [hpg]
  have hMlt := hM.lt
  have HM := Lib.hid hM
  have HLA := Lib.hid hL
  have hpl := pos_lt hp
  have hkey := Go.Maps.keyOf_int_mk (q := .i64) Try.underlying3 (a := p) (WalkArith.wf_i64 (by omega))
  clear hM hL
  go_enter Try.func61, Try.ntmps61
  go_wp2_with (first | (at_lookup; refine wpList_memo_look _ rfl _ _ 77 rfl (HM.out.below (by (repeat' first | (with_reducible exact Below.refl _ _) | (with_reducible refine Below.alloc ?_ ?_ _) | (with_reducible refine Below.drew ?_) | (with_reducible refine Below.setCell ?_ ?_ _) | (with_reducible refine below_via (by assumption) ?_ ?_) | go_size))) (Go.Maps.int_keyed Try.underlying3) Try.underlying77 Try.underlying3 (zero3 _) rfl rfl hkey ?_; intro c ok hcok) | go_in)
  · have hc := hcok (by assumption)
    go_ret
    exact ⟨by simp [hc, gk], HM.out.below (by (repeat' first | (with_reducible exact Below.refl _ _) | (with_reducible refine Below.alloc ?_ ?_ _) | (with_reducible refine Below.drew ?_) | (with_reducible refine Below.setCell ?_ ?_ _) | (with_reducible refine below_via (by assumption) ?_ ?_) | go_size)), gro_below (by (repeat' first | (with_reducible exact Below.refl _ _) | (with_reducible refine Below.alloc ?_ ?_ _) | (with_reducible refine Below.drew ?_) | (with_reducible refine Below.setCell ?_ ?_ _) | (with_reducible refine below_via (by assumption) ?_ ?_) | go_size))⟩
  obtain rfl : ok = false := by assumption
  have hN := lnN hs
  have HIH := Lib.hid ih
  have HPP := Lib.hid hp
  have HLI : Hid (∀ x ∈ linesOf a b o, LnOk x) := fun x hx => (linesOf_in hx).1
  have HST : Hid (games a b o g p = (((linesOf a b o).filter (canJ p)).map fun l => games a b o g (flip p l)).sum) := games_step hpg
  have HFT := Lib.hid (games_fits (g := g) hs hp)
  have HNX : Hid (∀ x ∈ linesOf a b o, canJ p x = true → pegs (flip p x) < n ∧ posOk a b o (flip p x) = true) := fun x hx hc => ⟨by have := pegs_jump (linesOf_in hx).1 hc; omega, posOk_flip hp hx⟩
  have HTK := Lib.hid (sum_take_f (fun l => games a b o g (flip p l)) (canJ p) (linesOf a b o))
  have HTL := Lib.hid (sum_take_le (fun l => games a b o g (flip p l)) (canJ p) (linesOf a b o))
  have hkey64 : p < 65536 := by have := pos_N hp; have := (small_N hs).2.2.2.1; omega
  clear ih hp hn hcok
  have hX : ∀ j, ((w.alloc (.cells #[.slice aL (linesOf a b o).length cL, .int .i64 g, .int .i64 (-1), .map (some B)] 79))).cell? ⟨w.heap.size, j, none⟩ = #[Value.slice aL (linesOf a b o).length cL, .int .i64 g, .int .i64 (-1), .map (some B)][j]? := fun j => by simp
  generalize linesOf a b o = L at *
  go_loopw [7, 8, 29] (fun s t i wr => ∃ (j : Nat) (y : Bool), j ≤ L.length ∧ i = .int .i64 j ∧ s = .int .i64 (((((L.take j).filter (canJ p)).map fun l => games a b o g (flip p l)).sum : Nat) : Int) ∧ t = .bool y ∧ Hid (Memo wr 3 3 B GK (gk a b o g)) ∧ Hid (LnAt wr aL L) ∧ Hid (w.grownBy wr (some B)) ∧ (∀ j, wr.cell? ⟨w.heap.size, j, none⟩ = #[Value.slice aL L.length cL, .int .i64 g, .int .i64 (-1), .map (some B)][j]?) ∧ w.heap.size < wr.heap.size) (fun _ _ i _ => L.length - (intOf i).toNat)
  case atStart => exact ⟨0, true, by omega, rfl, rfl, rfl, HM.out.below (by (repeat' first | (with_reducible exact Below.refl _ _) | (with_reducible refine Below.alloc ?_ ?_ _) | (with_reducible refine Below.drew ?_) | (with_reducible refine Below.setCell ?_ ?_ _) | (with_reducible refine below_via (by assumption) ?_ ?_) | go_size)), HLA.out.below (by (repeat' first | (with_reducible exact Below.refl _ _) | (with_reducible refine Below.alloc ?_ ?_ _) | (with_reducible refine Below.drew ?_) | (with_reducible refine Below.setCell ?_ ?_ _) | (with_reducible refine below_via (by assumption) ?_ ?_) | go_size)), gro_below (by (repeat' first | (with_reducible exact Below.refl _ _) | (with_reducible refine Below.alloc ?_ ?_ _) | (with_reducible refine Below.drew ?_) | (with_reducible refine Below.setCell ?_ ?_ _) | (with_reducible refine below_via (by assumption) ?_ ?_) | go_size)), hX, by simp⟩
  case round =>
    obtain ⟨j, y, hj, rfl, rfl, rfl, HMr, HLr, HGr, hXr, hzr⟩ := hrel
    by_cases hlt : j < L.length
    · obtain ⟨bL, hbL, hbL1, hf, ho, ht⟩ := HLr.out j hlt
      subst hbL
      have hmem := gD_mem L Ln0 j hlt
      have hln := HLI.out _ hmem
      have HT := HTK.out j hlt
      have HTl := HTL.out (j + 1)
      have HN := HNX.out _ hmem
      have HS := HST.out
      have HF := HFT.out
      have HB1 : Hid (Below wr.heap.size wr (wr.alloc (.cells #[.int .i64 (gD L Ln0 j).f, .int .i64 (gD L Ln0 j).o, .int .i64 (gD L Ln0 j).t] 47))) := (Below.refl _ _).alloc (Nat.le_refl _) _
      generalize gD L Ln0 j = x at *
      have hxt : (x.t == -1) = false := by unfold LnOk at hln; simp; omega
      have hxt2 : (x.t != -1) = true := by unfold LnOk at hln; simp; omega
      have hxt3 : ¬ x.t = -1 := by unfold LnOk at hln; omega
      by_cases hc : canJ p x = true
      · have HJF : Hid (∀ W, Calls Try.prog 40 #[.int .i64 p, .agg #[.int .i64 x.f, .int .i64 x.o, .int .i64 x.t]] W fun e w' => e = .returned (.tuple #[.int .i64 (flip p x), .bool true]) ∧ Below W.heap.size W w') := fun W => by
          have h := jumpFrom_any p x hln hpl.1 hpl.2 W
          rw [jumpTo, hc] at h
          simpa using h
        rw [hc] at HT
        simp only [if_true] at HT
        obtain ⟨N1, N2⟩ := HN hc
        have HIC := Lib.hid (fun W hM hL => HIH.out _ N1 (flip p x) W rfl N2 hM hL)
        generalize games a b o g (flip p x) = m at *
        generalize flip p x = q at *
        clear HN N1 N2
        go_wp2_with fail
        refine (HJF.out _).mono ?_
        rintro e w2 ⟨rfl, hb2⟩
        have hz2 := hb2.size
        simp only [World.size_alloc] at hz2
        have HB2 : Hid (Below wr.heap.size wr w2) := HB1.out.trans (hb2.mono (by simp))
        have hl2 : w2.cell? ⟨wr.heap.size, 2, none⟩ = some (.int .i64 x.t) := (hb2.cell (by simp)).trans (by simp)
        have hX2 : ∀ j, w2.cell? ⟨w.heap.size, j, none⟩ = #[Value.slice (some ⟨bL, 0, none⟩) L.length cL, .int .i64 g, .int .i64 (-1), .map (some B)][j]? := fun j => (HB2.out.cell hzr).trans (hXr j)
        have HM2 := Lib.hid (HMr.out.below HB2.out)
        have HL2 := Lib.hid (HLr.out.below HB2.out)
        have HG2 := Lib.hid (gro_via HGr.out HB2.out)
        have hwX : w.heap.size ≠ B := by omega
        have hz3 : w.heap.size < w2.heap.size := by omega
        clear hb2 hf ho ht hXr hX HB1 HB2
        have hmf : (m : Int) ≤ 9000000000000000000 := by rw [HS] at HF; rw [HT] at HTl; omega
        have hsf : (((((L.take j).filter (canJ p)).map fun l => games a b o g (flip p l)).sum : Nat) : Int) + m ≤ 9000000000000000000 := by rw [HS] at HF; rw [HT] at HTl; omega
        clear HS HF HTl
        generalize (((L.take j).filter (canJ p)).map fun l => games a b o g (flip p l)).sum = s at *
        have hw64 : wrap64 ((s : Int) + m) = (s : Int) + m := IntWalk.wrap64_in _ (by omega)
        go_wp2_with fail
        refine (HIC.out w2 HM2.out HL2.out).mono ?_
        rintro e w3 ⟨rfl, HM3, HG3⟩
        have HL3 := Lib.hid (HL2.out.gro HM2.out HG3)
        have hX3 : ∀ j, w3.cell? ⟨w.heap.size, j, none⟩ = #[Value.slice (some ⟨bL, 0, none⟩) L.length cL, .int .i64 g, .int .i64 (-1), .map (some B)][j]? := fun j => (gro_cell HG3 hz3 hwX).trans (hX2 j)
        have HG4 := Lib.hid (gro_trans HG2.out HG3)
        have hz4 : w.heap.size < w3.heap.size := by have := HG3.size; omega
        have HM4 := Lib.hid HM3
        clear HG3 HM3 hX2
        go_wp2_with fail
        go_roundw
        case rel => exact ⟨j + 1, false, by omega, by go_num, by rw [HT]; simp [hw64], rfl, HM4, HL3, HG4, hX3, hz4⟩
        case measure => simp [intOf]; omega
      · have hcf : canJ p x = false := by simpa using hc
        have HJF : Hid (∀ W, Calls Try.prog 40 #[.int .i64 p, .agg #[.int .i64 x.f, .int .i64 x.o, .int .i64 x.t]] W fun e w' => e = .returned (.tuple #[.int .i64 p, .bool false]) ∧ Below W.heap.size W w') := fun W => by
          have h := jumpFrom_any p x hln hpl.1 hpl.2 W
          rw [jumpTo, hcf] at h
          simpa using h
        rw [hcf] at HT
        simp only [Bool.false_eq_true, if_false, Nat.add_zero] at HT
        clear HN HS HF HTl
        generalize (((L.take j).filter (canJ p)).map fun l => games a b o g (flip p l)).sum = s at *
        go_wp2_with fail
        refine (HJF.out _).mono ?_
        rintro e w2 ⟨rfl, hb2⟩
        have hz2 := hb2.size
        simp only [World.size_alloc] at hz2
        have HB2 : Hid (Below wr.heap.size wr w2) := HB1.out.trans (hb2.mono (by simp))
        have hX2 : ∀ j, w2.cell? ⟨w.heap.size, j, none⟩ = #[Value.slice (some ⟨bL, 0, none⟩) L.length cL, .int .i64 g, .int .i64 (-1), .map (some B)][j]? := fun j => (HB2.out.cell hzr).trans (hXr j)
        have HM2 := Lib.hid (HMr.out.below HB2.out)
        have HL2 := Lib.hid (HLr.out.below HB2.out)
        have HG2 := Lib.hid (gro_via HGr.out HB2.out)
        have hz3 : w.heap.size < w2.heap.size := by omega
        clear hb2 hf ho ht hXr hX HB1 HB2
        go_wp2_with fail
        go_roundw
        case rel => exact ⟨j + 1, y, by omega, by go_num, by rw [HT], rfl, HM2, HL2, HG2, hX2, hz3⟩
        case measure => simp [intOf]; omega
    · obtain rfl : j = L.length := by omega
      have hg0 : decide (g < 0) = false := decide_eq_false (by have := pos_lt hg; omega)
      have HS := HST.out
      have HF := HFT.out
      rw [List.take_length]
      have hu : (((((L.filter (canJ p)).map fun l => games a b o g (flip p l)).sum : Nat) : Int)) = gk a b o g (.int .i64 p) := by rw [← HS]; rfl
      have hwf : (Lit.int .i64 (((((L.filter (canJ p)).map fun l => games a b o g (flip p l)).sum : Nat) : Int))).wf = true := WalkArith.wf_i64 (by rw [← HS]; omega)
      have HSS := Lib.hid HS
      have HU := Lib.hid hu
      clear HS HF hu
      generalize ((L.filter (canJ p)).map fun l => games a b o g (flip p l)).sum = m at *
      cases y
      all_goals go_wp2_with (first | (at_mapUpdate; refine wpList_memo_store _ rfl _ _ _ 77 rfl HMr.out (Go.Maps.int_keyed Try.underlying3) Try.underlying77 Try.underlying3 GK_len rfl rfl rfl hkey (GK_mem hpl.1 hkey64) HU.out hwf ?_; intro w5 HM5 HG5) | go_in)
      all_goals go_ret
      all_goals exact ⟨by rw [HSS.out]; rfl, HM5, gro_trans HGr.out HG5⟩
end Go.Proofs.Ytledmebhlmpjaaa
