/- ClD: several texts in one (DrawC, DrawC2, DrawC3, DrawC4). Conditions: those that each theorem names. -/
import Derived.Test.YtfmplmlilmalpaaGreatDrawP3
import Derived.Test.YtfmplmlilmalpaaGreatClaimKZ
import Derived.Test.YtfmplmlilmalpaaGreatClP
import Derived.Deep.RegionWith
import Derived.Deep.DeepCutAuto
import Derived.Deep.Cut
set_option linter.unusedVariables false
set_option linter.unusedSimpArgs false
namespace Go.Proofs.YtfmplmlilmalpaaGreat
open Go.ChangeShapes Go.WideShapes Go.ChangeAt Go.RowKit Peg Go.Sort
theorem Own.lit {α : Type} {E : Elt α} (L : List α) (w : World) (base : Nat) (hb : base ≤ w.heap.size) (hl : L.length ≤ 1000) : Own E (w.alloc (.cells (L.flatMap E.enc).toArray E.e)) base (.slice (some ⟨w.heap.size, 0, none⟩) L.length L.length) L := by
  right
  refine ⟨by rw [flat_length], .inr ⟨w.heap.size, L.length, (L.flatMap E.enc).toArray, by simp, hb, heap_alloc_new w _, by simp, by unfold maxLen; omega, by rw [List.size_toArray]; exact flat_length E L, ?_⟩⟩
  rw [List.take_of_length_le (by rw [List.toList_toArray]; exact Nat.le_of_eq (flat_length E L))]
theorem box_set (w : World) (g i : Nat) (u : Value) (xs : Array Value) (h : ∀ j, w.cell? ⟨g, j, none⟩ = xs[j]?) (hi : i < xs.size) (j : Nat) : (w.setCell ⟨g, i, none⟩ u).cell? ⟨g, j, none⟩ = (xs.setIfInBounds i u)[j]? := by
  by_cases e : i = j
  · subst e
    rw [World.cell?_setCell_same' _ _ _ (by rw [h]; simp [hi])]
    simp [hi]
  · rw [World.cell?_setCell_other _ _ _ _ (by simp [e]), h]
    simp [Array.getElem?_setIfInBounds, e]
theorem box_far (w : World) (g g2 i j : Nat) (u : Value) (hne : g2 ≠ g) : (w.setCell ⟨g, i, none⟩ u).cell? ⟨g2, j, none⟩ = w.cell? ⟨g2, j, none⟩ := World.cell?_setCell_other _ _ _ _ (by intro e; cases e; exact hne rfl)
/-- a box of the call's own -/
def BoxAt (W : World) (b : Nat) (xs : Array Value) : Prop := b < W.heap.size ∧ (∀ j, W.cell? ⟨b, j, none⟩ = xs[j]?) ∧ ∀ j, W.frozen? ⟨b, j, none⟩ = false
theorem BoxAt.new (W : World) (xs : Array Value) (t : TypeId) : BoxAt (W.alloc (.cells xs t)) W.heap.size xs := ⟨by simp, fun j => by simp, fun j => by simp⟩
theorem BoxAt.only {W W' : World} {b c : Nat} {xs : Array Value} (h : BoxAt W b xs) (hg : W.grownBy W' (some c)) (hne : b ≠ c) : BoxAt W' b xs :=
  ⟨Nat.lt_of_lt_of_le h.1 hg.size, fun j => (only_cell hg h.1 hne).trans (h.2.1 j), fun j => (only_frozen hg h.1 hne).trans (h.2.2 j)⟩
theorem BoxAt.keep {W W' : World} {b : Nat} {xs : Array Value} (h : BoxAt W b xs) (hb : Below W.heap.size W W') : BoxAt W' b xs :=
  ⟨Nat.lt_of_lt_of_le h.1 hb.size, fun j => (hb.cell h.1).trans (h.2.1 j), fun j => (hb.frozen h.1).trans (h.2.2 j)⟩
theorem BoxAt.alloc {W : World} {b : Nat} {xs : Array Value} (h : BoxAt W b xs) (o : Obj) : BoxAt (W.alloc o) b xs := h.keep ((Below.refl _ _).alloc (Nat.le_refl _) _)
theorem BoxAt.put {W : World} {b : Nat} {xs : Array Value} (h : BoxAt W b xs) (i : Nat) (u : Value) (hi : i < xs.size) : BoxAt (W.setCell ⟨b, i, none⟩ u) b (xs.setIfInBounds i u) :=
  ⟨by simpa using h.1, fun j => box_set W b i u xs h.2.1 hi j, fun j => by simp [go_sem, h.2.2]⟩
theorem BoxAt.far {W : World} {b : Nat} {xs : Array Value} (h : BoxAt W b xs) (g i : Nat) (u : Value) (hne : b ≠ g) : BoxAt (W.setCell ⟨g, i, none⟩ u) b xs :=
  ⟨by simpa using h.1, fun j => (box_far W g b i j u hne).trans (h.2.1 j), fun j => by simp [go_sem, h.2.2]⟩
/-- the state of a draw: the cursor stands, nothing else of the start's world is written -/
def DS (w0 : World) (c : Nat) (v : Value) (n : Nat) (w W : World) : Prop := CurAt W c v n ∧ w.grownBy W (some c) ∧ w0.heap.size ≤ c ∧ Below w0.heap.size w0 w ∧ c < w.heap.size
theorem DS.start {w0 w : World} {c n : Nat} {v : Value} (h0 : w0.heap.size ≤ c) (hbel : Below w0.heap.size w0 w) (hcur : CurAt w c v n) : DS w0 c v n w w := ⟨hcur, only_refl w c, h0, hbel, hcur.1⟩
theorem DS.call {w0 w W W' : World} {c n : Nat} {v : Value} (h : DS w0 c v n w W) (h1 : CurAt W' c v n) (h2 : W.grownBy W' (some c)) : DS w0 c v n w W' := ⟨h1, only_trans h.2.1 h2, h.2.2.1, h.2.2.2.1, h.2.2.2.2⟩
theorem DS.keep {w0 w W W' : World} {c n : Nat} {v : Value} (h : DS w0 c v n w W) (hb : Below W.heap.size W W') : DS w0 c v n w W' := ⟨h.1.keep hb, only_via hb h.2.1, h.2.2.1, h.2.2.2.1, h.2.2.2.2⟩
theorem DS.alloc {w0 w W : World} {c n : Nat} {v : Value} (h : DS w0 c v n w W) (o : Obj) : DS w0 c v n w (W.alloc o) := h.keep ((Below.refl _ _).alloc (Nat.le_refl _) _)
theorem DS.set {w0 w W : World} {c n : Nat} {v : Value} (h : DS w0 c v n w W) {b : Nat} (hb : w.heap.size ≤ b) (i : Nat) (u : Value) : DS w0 c v n w (W.setCell ⟨b, i, none⟩ u) :=
  ⟨h.1.keepB (B := w.heap.size) h.2.2.2.2 (by simp) ((Below.refl _ _).setCell (by simpa using hb) _), only_new h.2.1 hb, h.2.2.1, h.2.2.2.1, h.2.2.2.2⟩
theorem DS.below {w0 w W : World} {c n : Nat} {v : Value} (h : DS w0 c v n w W) : Below w0.heap.size w0 W :=
  h.2.2.2.1.trans ((only_below (Nat.le_of_lt h.2.2.2.2) h.2.1).mono h.2.2.1)
theorem DS.size {w0 w W : World} {c n : Nat} {v : Value} (h : DS w0 c v n w W) : w.heap.size ≤ W.heap.size := h.2.1.size
set_option maxHeartbeats 1000000 in
set_option maxRecDepth 100000 in
theorem l01PickInt_any (c : Nat) (v : Value) (l : List Int) (w0 w : World) (hv : Rd EBy w0 v l) (hok : ∀ y ∈ l, ByOk y) (h0 : w0.heap.size ≤ c) (hbel : Below w0.heap.size w0 w) (hcur : CurAt w c v l.length) (L : List Int) (hL : 0 < L.length) (hL2 : L.length ≤ 256) (B : Nat) (vL : Value) (hcB : c < B) (hown : Own EInt w B vL L) :
    Calls Tryz.prog 48 #[.pointer (some ⟨c, 0, none⟩), vL] w fun e w' => (∃ y ∈ L, e = .returned (.int .i64 y)) ∧ CurAt w' c v l.length ∧ w.grownBy w' (some c) := by
  have HB := Lib.hid (l01Below_any c v l L.length (by omega) (by omega) w0 w hv hok h0 hbel hcur)
  have HO := Lib.hid (fun w' (hg : w.grownBy w' (some c)) => (hown.only hg hcB).intG)
  obtain ⟨a, cap, rfl, -, -⟩ := hown.intG
  clear hv hok hbel hcur hown
  go_enter Tryz.func48, Tryz.ntmps48
  go_wp2_with fail
  refine HB.out.mono ?_
  rintro e w1 ⟨⟨x, rfl, x0, x1⟩, hcu, hg⟩
  obtain ⟨a2, c2, hv2, -, hget⟩ := HO.out w1 hg
  simp only [Value.slice.injEq] at hv2
  obtain ⟨rfl, -, rfl⟩ := hv2
  obtain ⟨b, rfl, _, hb, hc⟩ := hget x.toNat (by omega)
  have hm := gD_mem L 0 x.toNat (by omega)
  have HCU := Lib.hid hcu
  have HG := Lib.hid hg
  clear hget HO HB hcu hg
  go_wp2_with fail
  all_goals go_ret
  all_goals exact ⟨⟨_, hm, by simp⟩, HCU.out, HG.out⟩
set_option maxHeartbeats 1000000 in
set_option maxRecDepth 100000 in
theorem CrossBoard_some (w : World) :
    Calls Tryz.prog 110 #[] w fun e w' => (∃ o : Int, e = .returned (.agg #[.int .i64 7, .int .i64 7, .int .i64 o])) ∧ Below w.heap.size w w' := by
  go_enter Tryz.func110, Tryz.ntmps110
  go_wp2_with fail
  go_loopw [2] (fun i wr => ∃ (k : Nat) (o : Int), k ≤ 49 ∧ i = .int .i64 k ∧ (∀ j, wr.cell? ⟨w.heap.size + 1, j, none⟩ = #[Value.int .i64 7, .int .i64 7, .int .i64 o][j]?) ∧ (∀ j, wr.frozen? ⟨w.heap.size + 1, j, none⟩ = false) ∧ (∀ j, wr.cell? ⟨w.heap.size, j, none⟩ = #[Value.int .i64 0, .int .i64 0, .int .i64 0][j]?) ∧ (∀ j, wr.frozen? ⟨w.heap.size, j, none⟩ = false) ∧ Hid (Below w.heap.size w wr) ∧ w.heap.size + 1 < wr.heap.size) (fun i _ => 49 - (intOf i).toNat)
  case atStart => exact ⟨0, 0, by omega, rfl, fun j => by simp, fun j => by simp, fun j => by simp, fun j => by simp, by show Below _ _ _; (repeat' first | (with_reducible exact Below.refl _ _) | (with_reducible refine Below.alloc ?_ ?_ _) | (with_reducible refine Below.drew ?_) | (with_reducible refine Below.setCell ?_ ?_ _) | (with_reducible refine below_via (by assumption) ?_ ?_) | go_size), by simp⟩
  case round =>
    obtain ⟨k, o, hk, rfl, h1, h2, h3, h4, HB, hz⟩ := hrel
    by_cases hlt : k < 49
    · have hd : decide ((k : Int) < 49) = true := decide_eq_true (by omega)
      have hsome : (wr.cell? ⟨w.heap.size + 1, 2, none⟩) = some (.int .i64 o) := by simp [h1]
      go_wp2_with go_region
      all_goals go_roundw
      all_goals (try (case measure => simp [intOf]; omega))
      all_goals (case rel => first
        | exact ⟨k + 1, o, by omega, by go_num, h1, h2, h3, h4, HB, hz⟩
        | exact ⟨k + 1, _, by omega, by go_num, fun j => by simpa using box_set wr _ 2 _ _ h1 (by simp) j, fun j => by simp [go_sem, h2], fun j => by simpa using (box_far wr (w.heap.size + 1) w.heap.size 2 j _ (by omega)).trans (h3 j), fun j => by simp [go_sem, h4], (HB.out.setCell (by simp) _).drew, by simpa using hz⟩)
    · obtain rfl : k = 49 := by omega
      go_wp2_with fail
      all_goals (try simp only [Exit.inBlock, Exit.then])
      refine bodyPost_ret (v := .agg #[.int .i64 7, .int .i64 7, .int .i64 o]) (by simp [results, Tryz.results110, go_sem, *]) rfl ⟨⟨o, rfl⟩, ?_⟩
      exact ((HB.out.setCell (by simp) _).setCell (by simp) _).setCell (by simp) _
set_option maxHeartbeats 4000000 in
set_option maxRecDepth 100000 in
theorem l02Any_any (c : Nat) (v : Value) (l : List Int) (w0 w : World) (hv : Rd EBy w0 v l) (hok : ∀ y ∈ l, ByOk y) (h0 : w0.heap.size ≤ c) (hbel : Below w0.heap.size w0 w) (hcur : CurAt w c v l.length) :
    Calls Tryz.prog 80 #[.pointer (some ⟨c, 0, none⟩)] w fun e w' => (∃ a b o : Int, e = .returned (.agg #[.int .i64 a, .int .i64 b, .int .i64 o])) ∧ CurAt w' c v l.length ∧ w.grownBy w' (some c) := by
  have HV := Lib.hid hv
  have HO := Lib.hid hok
  have D0 := Lib.hid (DS.start h0 hbel hcur)
  have hcw := hcur.1
  clear hbel hcur
  have HRET : Hid (∀ W, DS w0 c v l.length w W → CurAt W c v l.length ∧ w.grownBy W (some c)) := fun W h => ⟨h.1, h.2.1⟩
  go_enter Tryz.func80, Tryz.ntmps80
  have D1 := Lib.hid (D0.out.alloc (.cells #[.int .i64 0, .int .i64 0, .int .i64 0] 25))
  have R1 := Lib.hid (BoxAt.new w #[.int .i64 0, .int .i64 0, .int .i64 0] 25)
  go_wp2_with fail
  refine (l02Small_any c v l w0 _ HV.out HO.out h0 D1.out.below D1.out.1).mono ?_
  rintro e w1 ⟨⟨a, b, o, rfl, -⟩, hcu1, hg1⟩
  have D2 := Lib.hid ((D1.out.call hcu1 hg1).alloc (.cells #[.int .i64 a, .int .i64 b, .int .i64 o] 25))
  have R2 := Lib.hid ((R1.out.only hg1 (by omega)).alloc (.cells #[.int .i64 a, .int .i64 b, .int .i64 o] 25))
  have X2 := Lib.hid (BoxAt.new w1 #[.int .i64 a, .int .i64 b, .int .i64 o] 25)
  have hz1 := (D1.out.call hcu1 hg1).size
  have hzw1 : w.heap.size < w1.heap.size := (R1.out.only hg1 (by omega)).1
  clear hcu1 hg1 D1 R1
  go_wp2_with fail
  refine (l01Below_any c v l 10 (by omega) (by omega) w0 _ HV.out HO.out h0 D2.out.below D2.out.1).mono ?_
  rintro e w2 ⟨⟨x, rfl, x0, x1⟩, hcu2, hg2⟩
  have D3 := Lib.hid (D2.out.call hcu2 hg2)
  have R3 := Lib.hid (R2.out.only hg2 (by omega))
  have X3 := Lib.hid (X2.out.only hg2 (by omega))
  clear hcu2 hg2 D2 R2 X2
  obtain ⟨r1, r2, r3⟩ := R3.out
  obtain ⟨y1, y2, y3⟩ := X3.out
  by_cases h9 : x = 0
  · subst h9
    have O4 := Lib.hid (Own.lit (E := EInt) [0, 1, 7, 8, -1] w2 w2.heap.size (Nat.le_refl _) (by decide))
    have D4 := Lib.hid (D3.out.alloc (.cells #[.int .i64 0, .int .i64 1, .int .i64 7, .int .i64 8, .int .i64 (-1)] 3))
    have R4 := Lib.hid (R3.out.alloc (.cells #[.int .i64 0, .int .i64 1, .int .i64 7, .int .i64 8, .int .i64 (-1)] 3))
    have X4 := Lib.hid (X3.out.alloc (.cells #[.int .i64 0, .int .i64 1, .int .i64 7, .int .i64 8, .int .i64 (-1)] 3))
    have hc2 : c < w2.heap.size := by have := D3.out.size; omega
    go_wp2_with fail
    refine (l01PickInt_any c v l w0 _ HV.out HO.out h0 D4.out.below D4.out.1 [0, 1, 7, 8, -1] (by decide) (by decide) w2.heap.size _ hc2 O4.out).mono ?_
    rintro e w3 ⟨⟨y, -, rfl⟩, hcu3, hg3⟩
    have D5 := Lib.hid (D4.out.call hcu3 hg3)
    obtain ⟨s1, s2, s3⟩ := R4.out.only hg3 (by omega)
    obtain ⟨t1, t2, t3⟩ := X4.out.only hg3 (by omega)
    clear hcu3 hg3 r1 r2 r3 y1 y2 y3 O4 D4 R4 X4
    go_wp2_with fail
    refine bodyPost_ret (v := .agg #[.int .i64 y, .int .i64 b, .int .i64 o]) (by simp [results, Tryz.results80, go_sem, *]) rfl ⟨⟨_, _, _, rfl⟩, ?_⟩
    exact HRET.out _ ((((D5.out.set (by omega) _ _).set (Nat.le_refl _) _ _).set (Nat.le_refl _) _ _).set (Nat.le_refl _) _ _)
  have e0 : (x == 0) = false := by simp [h9]
  by_cases h8 : x = 1
  · subst h8
    have O4 := Lib.hid (Own.lit (E := EInt) [0, -1, 1, 562949953421312, 9223372036854775807] w2 w2.heap.size (Nat.le_refl _) (by decide))
    have D4 := Lib.hid (D3.out.alloc (.cells #[.int .i64 0, .int .i64 (-1), .int .i64 1, .int .i64 562949953421312, .int .i64 9223372036854775807] 3))
    have R4 := Lib.hid (R3.out.alloc (.cells #[.int .i64 0, .int .i64 (-1), .int .i64 1, .int .i64 562949953421312, .int .i64 9223372036854775807] 3))
    have X4 := Lib.hid (X3.out.alloc (.cells #[.int .i64 0, .int .i64 (-1), .int .i64 1, .int .i64 562949953421312, .int .i64 9223372036854775807] 3))
    have hc2 : c < w2.heap.size := by have := D3.out.size; omega
    go_wp2_with fail
    refine (l01PickInt_any c v l w0 _ HV.out HO.out h0 D4.out.below D4.out.1 [0, -1, 1, 562949953421312, 9223372036854775807] (by decide) (by decide) w2.heap.size _ hc2 O4.out).mono ?_
    rintro e w3 ⟨⟨y, -, rfl⟩, hcu3, hg3⟩
    have D5 := Lib.hid (D4.out.call hcu3 hg3)
    obtain ⟨s1, s2, s3⟩ := R4.out.only hg3 (by omega)
    obtain ⟨t1, t2, t3⟩ := X4.out.only hg3 (by omega)
    clear hcu3 hg3 r1 r2 r3 y1 y2 y3 O4 D4 R4 X4
    go_wp2_with fail
    refine bodyPost_ret (v := .agg #[.int .i64 a, .int .i64 b, .int .i64 y]) (by simp [results, Tryz.results80, go_sem, *]) rfl ⟨⟨_, _, _, rfl⟩, ?_⟩
    exact HRET.out _ ((((D5.out.set (by omega) _ _).set (Nat.le_refl _) _ _).set (Nat.le_refl _) _ _).set (Nat.le_refl _) _ _)
  have e1 : (x == 1) = false := by simp [h8]
  by_cases h7 : x = 2
  · subst h7
    go_wp2_with fail
    refine (CrossBoard_some _).mono ?_
    rintro e w3 ⟨⟨y, rfl⟩, hb3⟩
    have D5 := Lib.hid (D3.out.keep hb3)
    obtain ⟨s1, s2, s3⟩ := R3.out.keep hb3
    obtain ⟨t1, t2, t3⟩ := X3.out.keep hb3
    clear hb3 r1 r2 r3 y1 y2 y3
    go_wp2_with fail
    refine bodyPost_ret (v := .agg #[.int .i64 7, .int .i64 7, .int .i64 y]) (by simp [results, Tryz.results80, go_sem, *]) rfl ⟨⟨_, _, _, rfl⟩, ?_⟩
    exact HRET.out _ ((((((D5.out.set (by omega) _ _).set (by omega) _ _).set (by omega) _ _).set (Nat.le_refl _) _ _).set (Nat.le_refl _) _ _).set (Nat.le_refl _) _ _)
  have e2 : (x == 2) = false := by simp [h7]
  go_wp2_with fail
  refine bodyPost_ret (v := .agg #[.int .i64 a, .int .i64 b, .int .i64 o]) (by simp [results, Tryz.results80, go_sem, *]) rfl ⟨⟨_, _, _, rfl⟩, ?_⟩
  exact HRET.out _ (((D3.out.set (Nat.le_refl _) _ _).set (Nat.le_refl _) _ _).set (Nat.le_refl _) _ _)
set_option maxHeartbeats 4000000 in
set_option maxRecDepth 100000 in
theorem l26Any_any (c : Nat) (v : Value) (l : List Int) (w0 w : World) (hv : Rd EBy w0 v l) (hok : ∀ y ∈ l, ByOk y) (h0 : w0.heap.size ≤ c) (hbel : Below w0.heap.size w0 w) (hcur : CurAt w c v l.length) :
    Calls Tryz.prog 43 #[.pointer (some ⟨c, 0, none⟩)] w fun e w' => (∃ a b o s g : Int, e = .returned (.agg #[.int .i64 a, .int .i64 b, .int .i64 o, .int .i64 s, .int .i64 g]) ∧ s ≤ 9223372036854775807 ∧ g ≤ 9223372036854775807) ∧ CurAt w' c v l.length ∧ w.grownBy w' (some c) := by
  have HV := Lib.hid hv
  have HO := Lib.hid hok
  have D0 := Lib.hid (DS.start h0 hbel hcur)
  have hcw := hcur.1
  clear hbel hcur
  have HRET : Hid (∀ W, DS w0 c v l.length w W → CurAt W c v l.length ∧ w.grownBy W (some c)) := fun W h => ⟨h.1, h.2.1⟩
  go_enter Tryz.func43, Tryz.ntmps43
  have D1 := Lib.hid (D0.out.alloc (.cells #[.int .i64 0, .int .i64 0, .int .i64 0, .int .i64 0, .int .i64 0] 27))
  have R1 := Lib.hid (BoxAt.new w #[.int .i64 0, .int .i64 0, .int .i64 0, .int .i64 0, .int .i64 0] 27)
  go_wp2_with fail
  refine (l26Puzzle_any c v l w0 _ HV.out HO.out h0 D1.out.below D1.out.1).mono ?_
  rintro e w1 ⟨⟨a, b, o, s, g, rfl, hpz⟩, hcu1, hg1⟩
  have hs9 : s ≤ 9223372036854775807 := by
    simp only [puzzleOk, Bool.and_eq_true] at hpz
    have := pos_lt hpz.1.2; omega
  have hg9 : g ≤ 9223372036854775807 := by
    simp only [puzzleOk, Bool.and_eq_true] at hpz
    have := pos_lt hpz.2; omega
  have D2 := Lib.hid ((D1.out.call hcu1 hg1).alloc (.cells #[.int .i64 a, .int .i64 b, .int .i64 o, .int .i64 s, .int .i64 g] 27))
  have R2 := Lib.hid ((R1.out.only hg1 (by omega)).alloc (.cells #[.int .i64 a, .int .i64 b, .int .i64 o, .int .i64 s, .int .i64 g] 27))
  have X2 := Lib.hid (BoxAt.new w1 #[.int .i64 a, .int .i64 b, .int .i64 o, .int .i64 s, .int .i64 g] 27)
  have hz1 := (D1.out.call hcu1 hg1).size
  have hzw1 : w.heap.size < w1.heap.size := (R1.out.only hg1 (by omega)).1
  clear hcu1 hg1 D1 R1 hpz
  go_wp2_with fail
  refine (l01Below_any c v l 12 (by omega) (by omega) w0 _ HV.out HO.out h0 D2.out.below D2.out.1).mono ?_
  rintro e w2 ⟨⟨x, rfl, x0, x1⟩, hcu2, hg2⟩
  have D3 := Lib.hid (D2.out.call hcu2 hg2)
  have R3 := Lib.hid (R2.out.only hg2 (by omega))
  have X3 := Lib.hid (X2.out.only hg2 (by omega))
  clear hcu2 hg2 D2 R2 X2
  obtain ⟨r1, r2, r3⟩ := R3.out
  obtain ⟨y1, y2, y3⟩ := X3.out
  by_cases h9 : x = 0
  · subst h9
    have O4 := Lib.hid (Own.lit (E := EInt) [-1, 0, 65536] w2 w2.heap.size (Nat.le_refl _) (by decide))
    have D4 := Lib.hid (D3.out.alloc (.cells #[.int .i64 (-1), .int .i64 0, .int .i64 65536] 3))
    have R4 := Lib.hid (R3.out.alloc (.cells #[.int .i64 (-1), .int .i64 0, .int .i64 65536] 3))
    have X4 := Lib.hid (X3.out.alloc (.cells #[.int .i64 (-1), .int .i64 0, .int .i64 65536] 3))
    have hc2 : c < w2.heap.size := by have := D3.out.size; omega
    go_wp2_with fail
    refine (l01PickInt_any c v l w0 _ HV.out HO.out h0 D4.out.below D4.out.1 [-1, 0, 65536] (by decide) (by decide) w2.heap.size _ hc2 O4.out).mono ?_
    rintro e w3 ⟨⟨y, hy, rfl⟩, hcu3, hg3⟩
    have hy9 : y ≤ 9223372036854775807 := by simp at hy; omega
    have D5 := Lib.hid (D4.out.call hcu3 hg3)
    obtain ⟨s1, s2, s3⟩ := R4.out.only hg3 (by omega)
    obtain ⟨t1, t2, t3⟩ := X4.out.only hg3 (by omega)
    clear hcu3 hg3 r1 r2 r3 y1 y2 y3 O4 D4 R4 X4 hy
    go_wp2_with fail
    refine bodyPost_ret (v := .agg #[.int .i64 a, .int .i64 b, .int .i64 o, .int .i64 y, .int .i64 g]) (by simp [results, Tryz.results43, go_sem, *]) rfl ⟨⟨_, _, _, _, _, rfl, by omega, by omega⟩, ?_⟩
    exact HRET.out _ ((((((D5.out.set (by omega) _ _).set (Nat.le_refl _) _ _).set (Nat.le_refl _) _ _).set (Nat.le_refl _) _ _).set (Nat.le_refl _) _ _).set (Nat.le_refl _) _ _)
  have e0 : (x == 0) = false := by simp [h9]
  by_cases h8 : x = 1
  · subst h8
    have O4 := Lib.hid (Own.lit (E := EInt) [-1, 0, 65536] w2 w2.heap.size (Nat.le_refl _) (by decide))
    have D4 := Lib.hid (D3.out.alloc (.cells #[.int .i64 (-1), .int .i64 0, .int .i64 65536] 3))
    have R4 := Lib.hid (R3.out.alloc (.cells #[.int .i64 (-1), .int .i64 0, .int .i64 65536] 3))
    have X4 := Lib.hid (X3.out.alloc (.cells #[.int .i64 (-1), .int .i64 0, .int .i64 65536] 3))
    have hc2 : c < w2.heap.size := by have := D3.out.size; omega
    go_wp2_with fail
    refine (l01PickInt_any c v l w0 _ HV.out HO.out h0 D4.out.below D4.out.1 [-1, 0, 65536] (by decide) (by decide) w2.heap.size _ hc2 O4.out).mono ?_
    rintro e w3 ⟨⟨y, hy, rfl⟩, hcu3, hg3⟩
    have hy9 : y ≤ 9223372036854775807 := by simp at hy; omega
    have D5 := Lib.hid (D4.out.call hcu3 hg3)
    obtain ⟨s1, s2, s3⟩ := R4.out.only hg3 (by omega)
    obtain ⟨t1, t2, t3⟩ := X4.out.only hg3 (by omega)
    clear hcu3 hg3 r1 r2 r3 y1 y2 y3 O4 D4 R4 X4 hy
    go_wp2_with fail
    refine bodyPost_ret (v := .agg #[.int .i64 a, .int .i64 b, .int .i64 o, .int .i64 s, .int .i64 y]) (by simp [results, Tryz.results43, go_sem, *]) rfl ⟨⟨_, _, _, _, _, rfl, by omega, by omega⟩, ?_⟩
    exact HRET.out _ ((((((D5.out.set (by omega) _ _).set (Nat.le_refl _) _ _).set (Nat.le_refl _) _ _).set (Nat.le_refl _) _ _).set (Nat.le_refl _) _ _).set (Nat.le_refl _) _ _)
  have e1 : (x == 1) = false := by simp [h8]
  by_cases h7 : x = 2
  · subst h7
    go_wp2_with fail
    refine (l02Any_any c v l w0 _ HV.out HO.out h0 D3.out.below D3.out.1).mono ?_
    rintro e w3 ⟨⟨a2, b2, o2, rfl⟩, hcu3, hg3⟩
    have D5 := Lib.hid (D3.out.call hcu3 hg3)
    obtain ⟨s1, s2, s3⟩ := R3.out.only hg3 (by omega)
    obtain ⟨t1, t2, t3⟩ := X3.out.only hg3 (by omega)
    clear hcu3 hg3 r1 r2 r3 y1 y2 y3
    go_wp2_with fail
    refine bodyPost_ret (v := .agg #[.int .i64 a2, .int .i64 b2, .int .i64 o2, .int .i64 s, .int .i64 g]) (by simp [results, Tryz.results43, go_sem, *]) rfl ⟨⟨_, _, _, _, _, rfl, by omega, by omega⟩, ?_⟩
    exact HRET.out _ ((((((((D5.out.set (by omega) _ _).set (by omega) _ _).set (by omega) _ _).set (Nat.le_refl _) _ _).set (Nat.le_refl _) _ _).set (Nat.le_refl _) _ _).set (Nat.le_refl _) _ _).set (Nat.le_refl _) _ _)
  have e2 : (x == 2) = false := by simp [h7]
  go_wp2_with fail
  refine bodyPost_ret (v := .agg #[.int .i64 a, .int .i64 b, .int .i64 o, .int .i64 s, .int .i64 g]) (by simp [results, Tryz.results43, go_sem, *]) rfl ⟨⟨_, _, _, _, _, rfl, by omega, by omega⟩, ?_⟩
  exact HRET.out _ (((((D3.out.set (Nat.le_refl _) _ _).set (Nat.le_refl _) _ _).set (Nat.le_refl _) _ _).set (Nat.le_refl _) _ _).set (Nat.le_refl _) _ _)
end Go.Proofs.YtfmplmlilmalpaaGreat
namespace Go.Proofs.YtfmplmlilmalpaaGreat
open Go.ChangeShapes Go.WideShapes Go.ChangeAt Go.RowKit Peg Go.Sort
theorem way_le2 (a b o s g : Int) : (wayTo a b o s g).length ≤ 60 := by
  cases hr : reach a b o s g false
  · simp [wayTo, hr]
  · obtain ⟨h1, h2, h3⟩ := reach_parts hr
    have h4 := wayRun_plays h1 h3 (pegs s) s h2 hr (Nat.le_refl _)
    have h5 := pegs_le s
    rw [wayTo, if_pos hr]
    omega
theorem wts_le2 (a b o : Int) (i : Nat) : (wtsAt a b o i).length ≤ 60 := by
  have key : ∀ (f : Nat → Int), boardOk a b o = true → (mapTo f (a * b).toNat).length ≤ 60 := fun f h => by
    have := area (boardOk_sides h).1 (boardOk_sides h).2
    rw [mapTo_len]; omega
  unfold wtsAt classW colW rowW
  split
  · split
    · rename_i h; rw [Bool.and_eq_true] at h; exact key _ h.1
    · simp
  · split
    · split
      · rename_i h; rw [Bool.and_eq_true] at h; exact key _ h.1
      · simp
    · split
      · rename_i h; rw [Bool.and_eq_true] at h; exact key _ h.1
      · simp
theorem findW_le2 (a b o p g : Int) : (findW a b o p g).length ≤ 60 := by
  unfold findW
  split
  · exact wts_le2 a b o _
  · simp
theorem Own.setD {α : Type} {E : Elt α} {w : World} {base : Nat} {v : Value} {l : List α} (h : Own E w base v l) {b : Nat} (hb : b < base) (i : Nat) (u : Value) : Own E (w.setCell ⟨b, i, none⟩ u) base v l :=
  h.keep_of fun k hk _ _ => Below.heap_setCell _ _ _ _ (fun e => by have e2 : k = b := e; omega)
theorem Own.fresh {α : Type} {E : Elt α} {w : World} {base : Nat} {v : Value} {l : List α} (h : Own E w base v l) : l = [] ∨ v.ownBlock ≠ some w.heap.size := by
  rcases h with h | h
  · exact .inl h.1
  · refine .inr fun e => ?_
    have := (World.ownsRow.lt h _ e).2
    omega
theorem Own.above {α : Type} {E : Elt α} {w : World} {base b : Nat} {v : Value} {l : List α} (h : Own E w base v l) (hb : b < base) : l = [] ∨ v.ownBlock ≠ some b := by
  rcases h with h | h
  · exact .inl h.1
  · refine .inr fun e => ?_
    have := (World.ownsRow.lt h _ e).1
    omega
theorem Own.setNe {α : Type} {E : Elt α} {w : World} {base b : Nat} {v : Value} {l : List α} (h : Own E w base v l) (hn : l = [] ∨ v.ownBlock ≠ some b) (i : Nat) (u : Value) : Own E (w.setCell ⟨b, i, none⟩ u) base v l := by
  rcases hn with rfl | hn
  · rcases h with h | h
    · exact .inl h
    · have hl : v = .slice none 0 0 ∨ ∃ g cap, v = .slice (some ⟨g, 0, none⟩) 0 cap := by
        rcases h.2 with ⟨hv, _⟩ | ⟨g, cap, cur, hv, _⟩
        · exact .inl hv
        · exact .inr ⟨g, cap, hv⟩
      by_cases e : v.ownBlock = some b
      · rcases h.2 with ⟨hv, hn⟩ | ⟨g, cap, cur, hv, hb, hg, r1, r2, r3, r4⟩
        · rw [hv] at e; cases e
        · rw [hv] at e
          simp only [Value.ownBlock, Option.some.injEq] at e
          subst e
          refine .inr ⟨h.1, .inr ⟨g, cap, cur.setIfInBounds i u, hv, hb, ?_, r1, r2, by simpa using r3, by simp⟩⟩
          simp [World.setCell, Array.getElem?_modify, hg]
      · exact Own.setCell (.inr h) e u
  · exact h.setCell hn u
set_option maxHeartbeats 1000000 in
set_option maxRecDepth 100000 in
theorem l04Some_no (a b o : Int) (hbk : boardOk a b o = false) (c : Nat) (w : World) :
    Calls Tryz.prog 45 #[.pointer (some ⟨c, 0, none⟩), .agg #[.int .i64 a, .int .i64 b, .int .i64 o]] w fun e w' => e = .returned (.int .i64 0) ∧ Below w.heap.size w w' := by
  have HH : Hid (holesOf a b o = []) := by show _ = _; simp [holesOf, hbk]
  have HC := Lib.hid (fun W => sHolesOf_any a b o W)
  rw [HH.out] at HC
  unfold RetInts at HC
  clear hbk HH
  go_enter Tryz.func45, Tryz.ntmps45
  go_wp2_with fail
  refine (HC.out _).mono ?_
  rintro e w3 ⟨vH, rfl, ownH, hb⟩
  have HB := Lib.hid (show Below w.heap.size w w3 by (repeat' first | (with_reducible exact Below.refl _ _) | (with_reducible refine Below.alloc ?_ ?_ _) | (with_reducible refine Below.drew ?_) | (with_reducible refine Below.setCell ?_ ?_ _) | (with_reducible refine below_via (by assumption) ?_ ?_) | go_size))
  obtain ⟨a1, c1, rfl, -, -⟩ := ownH.intG
  clear hb ownH
  go_wp2_with fail
  go_loopw [5, 7] (fun p k wr => p = .int .i64 0 ∧ k = .int .i64 0 ∧ wr = w3) (fun _ _ _ => 0)
  case atStart => exact ⟨rfl, rfl, rfl⟩
  case round =>
    obtain ⟨rfl, rfl, rfl⟩ := hrel
    go_wp2_with fail
    all_goals go_ret
    all_goals exact ⟨by simp, HB.out⟩
set_option maxHeartbeats 1000000 in
set_option maxRecDepth 100000 in
theorem l06Play_no (a b o p0 : Int) (n : Nat) (hp0 : posOk a b o p0 = false) (hp9 : p0 ≤ 9223372036854775807) (c : Nat) (w : World) :
    Calls Tryz.prog 82 #[.pointer (some ⟨c, 0, none⟩), .agg #[.int .i64 a, .int .i64 b, .int .i64 o], .int .i64 p0, .int .i64 n] w fun e w' => (∃ (ad : Option Addr) (cp : Nat), e = .returned (.slice ad 0 cp) ∧ Own ELine w' w.heap.size (.slice ad 0 cp) []) ∧ Below w.heap.size w w' := by
  have HJ : Hid (jumpsOf a b o p0 = []) := by show _ = _; simp [jumpsOf, hp0]
  have HC := Lib.hid (fun W => sJumpsOf_any a b o p0 hp9 W)
  rw [HJ.out] at HC
  unfold RetLines at HC
  clear hp0 HJ
  go_enter Tryz.func82, Tryz.ntmps82
  go_wp2_with fail
  go_loopw [2, 9, 10] (fun q out k wr => q = .int .i64 p0 ∧ k = .int .i64 0 ∧ Own ELine wr (w.heap.size + 1) out [] ∧ (∀ j, wr.cell? ⟨w.heap.size, j, none⟩ = #[Value.int .i64 a, .int .i64 b, .int .i64 o][j]?) ∧ w.heap.size < wr.heap.size ∧ Hid (Below w.heap.size w wr)) (fun _ _ _ _ => 0)
  case atStart => exact ⟨rfl, rfl, Own.emptyAny _ _ _ _, fun j => by simp, by simp; omega, by show Below _ _ _; (repeat' first | (with_reducible exact Below.refl _ _) | (with_reducible refine Below.alloc ?_ ?_ _) | (with_reducible refine Below.drew ?_) | (with_reducible refine Below.setCell ?_ ?_ _) | (with_reducible refine below_via (by assumption) ?_ ?_) | go_size)⟩
  case round =>
    obtain ⟨rfl, rfl, hown, hbox, hz, HB⟩ := hrel
    have HW := Lib.hid hown
    obtain ⟨a1, c1, rfl, -, -⟩ := hown.lineG
    clear hown
    by_cases hn : 0 < n
    · have hd : decide ((0 : Int) < (n : Nat)) = true := decide_eq_true (by omega)
      go_wp2_with fail
      refine (HC.out _).mono ?_
      rintro e w3 ⟨vJ, rfl, ownJ, hb3⟩
      obtain ⟨a2, c2, rfl, -, -⟩ := ownJ.lineG
      have HW3 := Lib.hid (HW.out.keep hb3)
      have HB3 := Lib.hid (HB.out.trans (hb3.mono (by omega)))
      clear ownJ hb3
      go_wp2_with fail
      all_goals go_ret
      all_goals exact ⟨⟨_, _, rfl, HW3.out.mono (by omega)⟩, HB3.out⟩
    · have hd : decide ((0 : Int) < (n : Nat)) = false := decide_eq_false (by omega)
      go_wp2_with fail
      all_goals go_ret
      all_goals exact ⟨⟨_, _, rfl, HW.out.mono (by omega)⟩, HB.out⟩
theorem l04Some_all (a b o : Int) (c : Nat) (v : Value) (l : List Int) (w0 w : World) (hv : Rd EBy w0 v l) (hok : ∀ y ∈ l, ByOk y) (h0 : w0.heap.size ≤ c) (hbel : Below w0.heap.size w0 w) (hcur : CurAt w c v l.length) :
    Calls Tryz.prog 45 #[.pointer (some ⟨c, 0, none⟩), .agg #[.int .i64 a, .int .i64 b, .int .i64 o]] w fun e w' => (∃ p : Int, e = .returned (.int .i64 p) ∧ p ≤ 9223372036854775807) ∧ CurAt w' c v l.length ∧ w.grownBy w' (some c) := by
  cases hb : boardOk a b o
  · refine (l04Some_no a b o hb c w).mono ?_
    rintro e w' ⟨rfl, hbl⟩
    exact ⟨⟨0, rfl, by omega⟩, hcur.keep hbl, only_old hbl⟩
  · refine (l04Some_any a b o hb c v l w0 w hv hok h0 hbel hcur).mono ?_
    rintro e w' ⟨⟨p, rfl, hp⟩, h1, h2⟩
    exact ⟨⟨p, rfl, by have := pos_lt hp; omega⟩, h1, h2⟩
theorem l06Play_all (a b o p0 : Int) (n : Nat) (hn : n ≤ 40) (hp9 : p0 ≤ 9223372036854775807) (c : Nat) (v : Value) (l : List Int) (w0 w : World) (hv : Rd EBy w0 v l) (hok : ∀ y ∈ l, ByOk y) (h0 : w0.heap.size ≤ c) (hbel : Below w0.heap.size w0 w) (hcur : CurAt w c v l.length) :
    Calls Tryz.prog 82 #[.pointer (some ⟨c, 0, none⟩), .agg #[.int .i64 a, .int .i64 b, .int .i64 o], .int .i64 p0, .int .i64 n] w fun e w' => (∃ (L : List Ln) (ad : Option Addr) (cp : Nat), e = .returned (.slice ad L.length cp) ∧ L.length ≤ 60 ∧ Own ELine w' w.heap.size (.slice ad L.length cp) L) ∧ CurAt w' c v l.length ∧ w.grownBy w' (some c) := by
  cases hp : posOk a b o p0
  · refine (l06Play_no a b o p0 n hp hp9 c w).mono ?_
    rintro e w' ⟨⟨ad, cp, rfl, ho⟩, hbl⟩
    exact ⟨⟨[], ad, cp, rfl, by simp, ho⟩, hcur.keep hbl, only_old hbl⟩
  · refine (l06Play_any a b o p0 n hn hp c v l w0 w hv hok h0 hbel hcur).mono ?_
    rintro e w' ⟨⟨q, L, vL, rfl, -, -, hL, ho⟩, h1, h2⟩
    obtain ⟨ad, cp, rfl, -, -⟩ := ho.lineG
    exact ⟨⟨L, ad, cp, rfl, by omega, ho⟩, h1, h2⟩
set_option maxHeartbeats 8000000 in
set_option maxRecDepth 100000 in
theorem l33Claim_any (a b o s g : Int) (hs9 : s ≤ 9223372036854775807) (hg9 : g ≤ 9223372036854775807) (c : Nat) (v : Value) (l : List Int) (w0 w : World) (hv : Rd EBy w0 v l) (hok : ∀ y ∈ l, ByOk y) (h0 : w0.heap.size ≤ c) (hbel : Below w0.heap.size w0 w) (hcur : CurAt w c v l.length) :
    Calls Tryz.prog 46 #[.pointer (some ⟨c, 0, none⟩), .agg #[.int .i64 a, .int .i64 b, .int .i64 o, .int .i64 s, .int .i64 g]] w fun e w' => (∃ (k n : Int) (J : List Ln) (W : List Int) (ad aw : Option Addr) (cp cw : Nat), e = .returned (.agg #[.int .i64 k, .int .i64 n, .slice ad J.length cp, .slice aw W.length cw]) ∧ J.length ≤ 60 ∧ W.length ≤ 60 ∧ Own ELine w' w.heap.size (.slice ad J.length cp) J ∧ Own EInt w' w.heap.size (.slice aw W.length cw) W) ∧ CurAt w' c v l.length ∧ w.grownBy w' (some c) := by
  have HV := Lib.hid hv
  have HO := Lib.hid hok
  have D0 := Lib.hid (DS.start h0 hbel hcur)
  have hcw := hcur.1
  clear hbel hcur
  have HRET : Hid (∀ W, DS w0 c v l.length w W → CurAt W c v l.length ∧ w.grownBy W (some c)) := fun W h => ⟨h.1, h.2.1⟩
  go_enter Tryz.func46, Tryz.ntmps46
  have D2 := Lib.hid ((D0.out.alloc (.cells #[.int .i64 a, .int .i64 b, .int .i64 o, .int .i64 s, .int .i64 g] 27)).alloc (.cells #[.int .i64 0, .int .i64 0, .slice none 0 0, .slice none 0 0] 31))
  have X2 := Lib.hid ((BoxAt.new w #[.int .i64 a, .int .i64 b, .int .i64 o, .int .i64 s, .int .i64 g] 27).alloc (.cells #[.int .i64 0, .int .i64 0, .slice none 0 0, .slice none 0 0] 31))
  have r2 : BoxAt ((w.alloc (.cells #[.int .i64 a, .int .i64 b, .int .i64 o, .int .i64 s, .int .i64 g] 27)).alloc (.cells #[.int .i64 0, .int .i64 0, .slice none 0 0, .slice none 0 0] 31)) (w.heap.size + 1) #[.int .i64 0, .int .i64 0, .slice none 0 0, .slice none 0 0] := by
    have := BoxAt.new (w.alloc (.cells #[.int .i64 a, .int .i64 b, .int .i64 o, .int .i64 s, .int .i64 g] 27)) #[.int .i64 0, .int .i64 0, .slice none 0 0, .slice none 0 0] 31
    simpa using this
  have R2 := Lib.hid r2
  clear r2
  go_wp2_with fail
  refine (l01Below_any c v l 4 (by omega) (by omega) w0 _ HV.out HO.out h0 D2.out.below D2.out.1).mono ?_
  rintro e w1 ⟨⟨k0, rfl, k00, k01⟩, hcu1, hg1⟩
  have D3 := Lib.hid (D2.out.call hcu1 hg1)
  have X3 := Lib.hid (X2.out.only hg1 (by omega))
  have R3 := Lib.hid (R2.out.only hg1 (by omega))
  have hk : wrap64 (1 + k0) = 1 + k0 := IntWalk.wrap64_in _ (by omega)
  clear hcu1 hg1 D2 X2 R2
  obtain ⟨x1, x2, x3⟩ := X3.out
  have D3d := Lib.hid (D3.out.keep ((Below.refl _ _).drew))
  have X3d := Lib.hid (X3.out.keep ((Below.refl _ _).drew))
  have R3d := Lib.hid (R3.out.keep ((Below.refl _ _).drew))
  have HB8 := Lib.hid (l01Below_any c v l 8 (by omega) (by omega) w0 w1.drew HV.out HO.out h0 D3d.out.below D3d.out.1)
  have HPL := Lib.hid (fun (n : Nat) (h : n ≤ 40) W (hd : DS w0 c v l.length w W) => l06Play_all a b o s n h hs9 c v l w0 W HV.out HO.out h0 hd.below hd.1)
  go_upto_region 2 with fail
  go_cut [6] (fun u wx => ∃ (J : List Ln) (ad : Option Addr) (cp : Nat), u = .slice ad J.length cp ∧ J.length ≤ 60 ∧ Hid (Own ELine wx (w.heap.size + 2) (.slice ad J.length cp) J) ∧ Hid (DS w0 c v l.length w wx) ∧ Hid (BoxAt wx w.heap.size #[.int .i64 a, .int .i64 b, .int .i64 o, .int .i64 s, .int .i64 g]) ∧ Hid (BoxAt wx (w.heap.size + 1) #[.int .i64 0, .int .i64 0, .slice none 0 0, .slice none 0 0]))
  case first =>
    go_region_with (first | (go_at_call 47; refine HB8.out.mono ?_; rintro e w3 ⟨⟨x, rfl, x0, x1'⟩, hcu3, hg3⟩; obtain ⟨n8, rfl⟩ := Int.eq_ofNat_of_zero_le x0; have hn8 : n8 ≤ 40 := (by omega); have D5 := Lib.hid (D3d.out.call hcu3 hg3); have X5 := Lib.hid (X3d.out.only hg3 (by omega)); have R5 := Lib.hid (R3d.out.only hg3 (by omega)); obtain ⟨p1, p2, p3⟩ := X5.out; clear hcu3 hg3) | (go_at_call 82; refine (HPL.out n8 hn8 w3 D5.out).mono ?_; rintro e w5 ⟨⟨J, ad, cp, rfl, hJ, hoJ⟩, hcu5, hg5⟩; have hown := hoJ.mono (B := w.heap.size + 2) (by have := D5.out.size; have := R5.out.1; omega); have D7 := D5.out.call hcu5 hg5; have X7 := X5.out.only hg5 (by omega); have R7 := R5.out.only hg5 (by omega); clear hcu5 hg5 hoJ))
    all_goals (go_wp2_with fail; go_meet; case rel => exact ⟨J, ad, cp, rfl, hJ, hown, D7, X7, R7⟩)
  obtain ⟨J0, ad0, cp0, rfl, hJ0, HJ0, D4, X4, R4⟩ := hcut
  clear HB8 HPL D3 X3 R3 D3d X3d R3d x1 x2 x3
  obtain ⟨x1, x2, x3⟩ := X4.out
  have HWY : Hid (∀ W, Calls Tryz.prog 83 #[.agg #[.int .i64 a, .int .i64 b, .int .i64 o], .int .i64 s, .int .i64 g] W (RetWay W a b o s g)) := fun W => sWayTo_any a b o s g hs9 hg9 W
  have HWL := Lib.hid (way_le2 a b o s g)
  unfold RetWay at HWY
  generalize wayTo a b o s g = WL at *
  generalize reach a b o s g false = rr at *
  go_wp2_with fail
  refine (HWY.out _).mono ?_
  rintro e w5 ⟨vW, rfl, hoW, hb5⟩
  obtain ⟨aW, cW, rfl, -, -⟩ := hoW.lineG
  have hsz4 : w.heap.size + 2 ≤ wc.heap.size := by have := R4.out.1; omega
  have HW5 := Lib.hid (hoW.mono hsz4)
  have D5 := Lib.hid (D4.out.keep hb5)
  have X5 := Lib.hid (X4.out.keep hb5)
  have R5 := Lib.hid (R4.out.keep hb5)
  have HJ5 := Lib.hid (HJ0.out.keep hb5)
  clear hb5 hoW HWY x1 x2 x3 D4 X4 R4 HJ0
  have HB3 := Lib.hid (l01Below_any c v l 3 (by omega) (by omega) w0 w5 HV.out HO.out h0 D5.out.below D5.out.1)
  go_upto_region 4 with fail
  go_cut [38] (fun u wx => ∃ y : Bool, u = .bool y ∧ Hid (Own ELine wx (w.heap.size + 2) (.slice ad0 J0.length cp0) J0) ∧ Hid (Own ELine wx (w.heap.size + 2) (.slice aW WL.length cW) WL) ∧ Hid (DS w0 c v l.length w wx) ∧ Hid (BoxAt wx w.heap.size #[.int .i64 a, .int .i64 b, .int .i64 o, .int .i64 s, .int .i64 g]) ∧ Hid (BoxAt wx (w.heap.size + 1) #[.int .i64 0, .int .i64 0, .slice none 0 0, .slice none 0 0]))
  case first =>
    cases rr
    · go_wp2_with fail
      all_goals (go_meet; case rel => exact ⟨_, rfl, HJ5, HW5, D5, X5, R5⟩)
    · go_wp2_with (go_at_call 47; refine HB3.out.mono ?_; rintro e w6 ⟨⟨x, rfl, x0, x1⟩, hcu6, hg6⟩)
      all_goals (go_meet; case rel => exact ⟨_, rfl, HJ5.out.only hg6 (by omega), HW5.out.only hg6 (by omega), D5.out.call hcu6 hg6, X5.out.only hg6 (by omega), R5.out.only hg6 (by omega)⟩)
  obtain ⟨y4, rfl, HJ6, HW6, D6, X6, R6⟩ := hcut
  clear HB3 HJ5 HW5 D5 X5 R5
  go_upto_if 38 with fail
  go_cut [6] (fun u wx => ∃ (J : List Ln) (ad : Option Addr) (cp : Nat), u = .slice ad J.length cp ∧ J.length ≤ 60 ∧ Hid (Own ELine wx (w.heap.size + 2) (.slice ad J.length cp) J) ∧ Hid (DS w0 c v l.length w wx) ∧ Hid (BoxAt wx w.heap.size #[.int .i64 a, .int .i64 b, .int .i64 o, .int .i64 s, .int .i64 g]) ∧ Hid (BoxAt wx (w.heap.size + 1) #[.int .i64 0, .int .i64 0, .slice none 0 0, .slice none 0 0]))
  case first =>
    cases y4
    · go_wp2_with fail
      all_goals (go_meet; case rel => exact ⟨J0, ad0, cp0, rfl, hJ0, HJ6, D6, X6, R6⟩)
    · go_wp2_with fail
      all_goals (go_meet; case rel => exact ⟨WL, aW, cW, rfl, HWL.out, HW6, D6, X6, R6⟩)
  clear HJ6 HW6 D6 X6 R6
  obtain ⟨J, ad, cp, rfl, hJ, HJ7, D7, X7, R7⟩ := hcut
  clear hJ0 hsz4
  obtain ⟨x1, x2, x3⟩ := X7.out
  have HPA := Lib.hid (sPlayAll_any a b o s J _ hs9 _ HJ7.out)
  obtain ⟨q, yq, hq, hq9⟩ : ∃ (q : Int) (yq : Bool), optInt s (playAll a b o s J) = .tuple #[.int .i64 q, .bool yq] ∧ q ≤ 9223372036854775807 := by
    cases hp : playAll a b o s J with
    | none => exact ⟨s, false, rfl, hs9⟩
    | some q =>
      have := pos_lt (playAll_endC hp).1
      exact ⟨q, true, rfl, by omega⟩
  rw [hq] at HPA
  clear hq
  have HCP : Hid (∃ m : Int, ∀ W, Calls Tryz.prog 31 #[.agg #[.int .i64 a, .int .i64 b, .int .i64 o], .int .i64 q] W fun e w' => e = .returned (.int .i64 m) ∧ Below W.heap.size W w') := ⟨_, fun W => sCountPegs_any a b o q hq9 W⟩
  obtain ⟨m, hm⟩ := HCP.out
  have HCM := Lib.hid hm
  clear hm HCP
  go_wp2_with fail
  refine HPA.out.mono ?_
  rintro e w8 ⟨rfl, hb8⟩
  have D8 := Lib.hid (D7.out.keep hb8)
  have X8 := Lib.hid (X7.out.keep hb8)
  have R8 := Lib.hid (R7.out.keep hb8)
  have HJ8 := Lib.hid (HJ7.out.keep hb8)
  clear hb8 HPA x1 x2 x3 D7 X7 R7 HJ7
  obtain ⟨x1, x2, x3⟩ := X8.out
  go_upto_region 7 with fail
  go_cut [11] (fun u wx => ∃ (bY : Nat) (nn : Int), u = .pointer (some ⟨bY, 0, none⟩) ∧ w.heap.size + 2 ≤ bY ∧ Hid (J = [] ∨ (Value.slice ad J.length cp).ownBlock ≠ some bY) ∧ Hid (BoxAt wx bY #[.int .i64 (1 + k0), .int .i64 nn, .slice ad J.length cp, .slice none 0 0]) ∧ Hid (Own ELine wx (w.heap.size + 2) (.slice ad J.length cp) J) ∧ Hid (DS w0 c v l.length w wx) ∧ Hid (BoxAt wx w.heap.size #[.int .i64 a, .int .i64 b, .int .i64 o, .int .i64 s, .int .i64 g]) ∧ Hid (BoxAt wx (w.heap.size + 1) #[.int .i64 0, .int .i64 0, .slice none 0 0, .slice none 0 0]))
  case first =>
    rcases (by omega : m < 0 ∨ m = 0 ∨ 0 < m) with h | h | h
    all_goals (try subst h)
    all_goals go_wp2_with (go_at_call 31; refine (HCM.out _).mono ?_; rintro e w9 ⟨rfl, hb9⟩)
    all_goals (have HO9 := Lib.hid (HJ8.out.keep hb9); have D9 := Lib.hid (D8.out.keep hb9); have X9 := Lib.hid (X8.out.keep hb9); have R9 := Lib.hid (R8.out.keep hb9); have hz9 : w.heap.size + 2 ≤ w9.heap.size := (by have := R9.out.1; omega))
    all_goals (go_meet; case rel => exact ⟨w9.heap.size, _, rfl, hz9, HO9.out.fresh, BoxAt.new w9 _ _, HO9.out.alloc _, D9.out.alloc _, X9.out.alloc _, R9.out.alloc _⟩)
  clear HCM HJ8 D8 X8 R8 x1 x2 x3
  obtain ⟨bY, nn, rfl, hbY, HNE, Y1, HJ1, D1, X1, R1⟩ := hcut
  have hcY : c < bY := by omega
  have HCS := Lib.hid (fun W (h : Own ELine W (w.heap.size + 2) (.slice ad J.length cp) J) => sCountSweeps_any J _ W h)
  go_upto_if 58 with fail
  go_cut [] (fun wx => ∃ nn : Int, Hid (BoxAt wx bY #[.int .i64 (1 + k0), .int .i64 nn, .slice ad J.length cp, .slice none 0 0]) ∧ Hid (Own ELine wx (w.heap.size + 2) (.slice ad J.length cp) J) ∧ Hid (DS w0 c v l.length w wx) ∧ Hid (BoxAt wx w.heap.size #[.int .i64 a, .int .i64 b, .int .i64 o, .int .i64 s, .int .i64 g]) ∧ Hid (BoxAt wx (w.heap.size + 1) #[.int .i64 0, .int .i64 0, .slice none 0 0, .slice none 0 0]))
  case first =>
    by_cases hk4 : k0 = 3
    · have hd : (1 + k0 == 4) = true := by simp [hk4]
      have HK := Lib.hid hk4
      clear hk4
      go_wp2_with (go_at_call 32; refine (HCS.out _ HJ1.out).mono ?_; rintro e w9 ⟨rfl, hb9⟩; have Y9 := Y1.out.keep hb9; have HJ9 := HJ1.out.keep hb9; have D9 := D1.out.keep hb9; have X9 := X1.out.keep hb9; have R9 := R1.out.keep hb9; obtain ⟨p1, p2, p3⟩ := Y9)
      all_goals (go_meet; case rel => exact ⟨_, (Y1.out.keep hb9).put 1 _ (by simp), HJ9.setNe HNE.out _ _, D9.set (by omega) _ _, X9.far _ _ _ (by omega), R9.far _ _ _ (by omega)⟩)
    · have hd : (1 + k0 == 4) = false := by simp; omega
      go_wp2_with fail
      all_goals (go_meet; case rel => exact ⟨nn, Y1, HJ1, D1, X1, R1⟩)
  clear Y1 HJ1 D1 X1 R1 HCS
  obtain ⟨n2, Y2, HJ2, D2, X2, R2⟩ := hcut
  have HFP : Hid (∀ W, Calls Tryz.prog 84 #[.agg #[.int .i64 a, .int .i64 b, .int .i64 o], .int .i64 s, .int .i64 g] W (RetFind W a b o s g)) := fun W => sFindProof_any a b o s g hs9 hg9 W
  have HFL := Lib.hid (findW_le2 a b o s g)
  unfold RetFind at HFP
  generalize findW a b o s g = WF at *
  generalize (findProof a b o s g).isSome = yf at *
  go_upto_if 63 with fail
  go_cut [] (fun wx => ∃ (W : List Int) (aw : Option Addr) (cw : Nat), W.length ≤ 60 ∧ Hid (Own EInt wx (w.heap.size + 2) (.slice aw W.length cw) W) ∧ Hid (W = [] ∨ (Value.slice aw W.length cw).ownBlock ≠ some bY) ∧ Hid (BoxAt wx bY #[.int .i64 (1 + k0), .int .i64 n2, .slice ad J.length cp, .slice aw W.length cw]) ∧ Hid (Own ELine wx (w.heap.size + 2) (.slice ad J.length cp) J) ∧ Hid (DS w0 c v l.length w wx) ∧ Hid (BoxAt wx w.heap.size #[.int .i64 a, .int .i64 b, .int .i64 o, .int .i64 s, .int .i64 g]) ∧ Hid (BoxAt wx (w.heap.size + 1) #[.int .i64 0, .int .i64 0, .slice none 0 0, .slice none 0 0]))
  case first =>
    by_cases hk4 : k0 = 1
    · have hd : (1 + k0 == 2) = true := by simp [hk4]
      have HK := Lib.hid hk4
      clear hk4
      obtain ⟨x1, x2, x3⟩ := X2.out
      go_wp2_with (go_at_call 84; refine (HFP.out _).mono ?_; rintro e w9 ⟨vw, rfl, hoW, hb9⟩; obtain ⟨aw, cw, rfl, -, -⟩ := hoW.intG; have Y9 := Y2.out.keep hb9; have HJ9 := HJ2.out.keep hb9; have D9 := D2.out.keep hb9; have X9 := X2.out.keep hb9; have R9 := R2.out.keep hb9; have hYl := Y2.out.1; have hRl := R2.out.1; obtain ⟨p1, p2, p3⟩ := Y2.out.keep hb9)
      all_goals (go_meet; case rel => exact ⟨WF, aw, cw, HFL.out, (hoW.mono (by omega)).setNe (hoW.above hYl) _ _, hoW.above hYl, Y9.put 3 _ (by simp), HJ9.setNe HNE.out _ _, D9.set (by omega) _ _, X9.far _ _ _ (by omega), R9.far _ _ _ (by omega)⟩)
    · have hd : (1 + k0 == 2) = false := by simp; omega
      go_wp2_with fail
      all_goals (go_meet; case rel => exact ⟨[], none, 0, by simp, Own.nil _ _ _, .inl rfl, Y2, HJ2, D2, X2, R2⟩)
  clear Y2 HJ2 D2 X2 R2 HFP HFL
  obtain ⟨W, aw, cw, hWl, HW3, HNW, Y3, HJ3, D3, X3, R3⟩ := hcut
  have HON := Lib.hid (l01Once_any c v l 5 (by omega) (by omega) w0 _ HV.out HO.out h0 D3.out.below D3.out.1)
  go_wp2_with fail
  refine HON.out.mono ?_
  rintro e w9 ⟨⟨y9, rfl⟩, hcu9, hg9'⟩
  have HW4 := Lib.hid (HW3.out.only hg9' (by omega))
  have HJ4 := Lib.hid (HJ3.out.only hg9' (by omega))
  have D4 := Lib.hid (D3.out.call hcu9 hg9')
  have Y4 := Lib.hid (Y3.out.only hg9' (by omega))
  have X4 := Lib.hid (X3.out.only hg9' (by omega))
  have R4 := Lib.hid (R3.out.only hg9' (by omega))
  clear hcu9 hg9' HON HW3 Y3 HJ3 D3 X3 R3
  go_upto_if 76 with fail
  go_cut [] (fun wx => ∃ n5 : Int, Hid (BoxAt wx bY #[.int .i64 (1 + k0), .int .i64 n5, .slice ad J.length cp, .slice aw W.length cw]) ∧ Hid (Own EInt wx (w.heap.size + 2) (.slice aw W.length cw) W) ∧ Hid (Own ELine wx (w.heap.size + 2) (.slice ad J.length cp) J) ∧ Hid (DS w0 c v l.length w wx) ∧ Hid (BoxAt wx w.heap.size #[.int .i64 a, .int .i64 b, .int .i64 o, .int .i64 s, .int .i64 g]) ∧ Hid (BoxAt wx (w.heap.size + 1) #[.int .i64 0, .int .i64 0, .slice none 0 0, .slice none 0 0]))
  case first =>
    cases y9
    · go_wp2_with fail
      all_goals (go_meet; case rel => exact ⟨n2, Y4, HW4, HJ4, D4, X4, R4⟩)
    · obtain ⟨p1, p2, p3⟩ := Y4.out
      generalize hwn : wrap64 (n2 + -1) = n4 at *
      have hwn2 : wrap64 (n2 - 1) = n4 := by rw [← hwn]; rfl
      rcases (by omega : n4 < 0 ∨ n4 = 0 ∨ 0 < n4) with h | h | h
      all_goals go_wp2_with fail
      all_goals (go_meet; case rel => exact ⟨_, Y4.out.put 1 _ (by simp), HW4.out.setNe HNW.out _ _, HJ4.out.setNe HNE.out _ _, D4.out.set (by omega) _ _, X4.out.far _ _ _ (by omega), R4.out.far _ _ _ (by omega)⟩)
  clear Y4 HW4 HJ4 D4 X4 R4
  obtain ⟨n5, Y5, HW5, HJ5, D5, X5, R5⟩ := hcut
  obtain ⟨p1, p2, p3⟩ := Y5.out
  obtain ⟨q1, q2, q3⟩ := R5.out
  go_wp2_with fail
  refine bodyPost_ret (v := .agg #[.int .i64 (1 + k0), .int .i64 n5, .slice ad J.length cp, .slice aw W.length cw]) (by simp [results, Tryz.results46, go_sem, *]) rfl ⟨⟨_, _, J, W, ad, aw, cp, cw, rfl, hJ, hWl, ?_, ?_⟩, ?_⟩
  · exact ((((HJ5.out.setD (by omega) _ _).setD (by omega) _ _).setD (by omega) _ _).setD (by omega) _ _).mono (by omega)
  · exact ((((HW5.out.setD (by omega) _ _).setD (by omega) _ _).setD (by omega) _ _).setD (by omega) _ _).mono (by omega)
  · exact HRET.out _ ((((D5.out.set (by omega) _ _).set (by omega) _ _).set (by omega) _ _).set (by omega) _ _)
end Go.Proofs.YtfmplmlilmalpaaGreat
namespace Go.Proofs.YtfmplmlilmalpaaGreat
open Go.ChangeShapes Go.WideShapes Go.ChangeAt Go.RowKit Peg Go.Sort
theorem fillXY (W : World) (gx gy : Nat) (hne : gx ≠ gy) (a0 a1 a2 a3 a4 b0 b1 b2 b3 x0 x1 x2 x3 x4 y0 y1 y2 y3 : Value) (hx : BoxAt W gx #[a0, a1, a2, a3, a4]) (hy : BoxAt W gy #[b0, b1, b2, b3]) : BoxAt (((((((((W.setCell ⟨gx, 0, none⟩ x0).setCell ⟨gx, 1, none⟩ x1).setCell ⟨gx, 2, none⟩ x2).setCell ⟨gx, 3, none⟩ x3).setCell ⟨gx, 4, none⟩ x4).setCell ⟨gy, 0, none⟩ y0).setCell ⟨gy, 1, none⟩ y1).setCell ⟨gy, 2, none⟩ y2).setCell ⟨gy, 3, none⟩ y3) gx #[x0, x1, x2, x3, x4] ∧ BoxAt (((((((((W.setCell ⟨gx, 0, none⟩ x0).setCell ⟨gx, 1, none⟩ x1).setCell ⟨gx, 2, none⟩ x2).setCell ⟨gx, 3, none⟩ x3).setCell ⟨gx, 4, none⟩ x4).setCell ⟨gy, 0, none⟩ y0).setCell ⟨gy, 1, none⟩ y1).setCell ⟨gy, 2, none⟩ y2).setCell ⟨gy, 3, none⟩ y3) gy #[y0, y1, y2, y3] := by
  have h1 := (((((((((hx.put 0 x0 (by simp)).put 1 x1 (by simp)).put 2 x2 (by simp)).put 3 x3 (by simp)).put 4 x4 (by simp)).far gy 0 y0 hne).far gy 1 y1 hne).far gy 2 y2 hne).far gy 3 y3 hne)
  have h2 := (((((((((hy.far gx 0 x0 (Ne.symm hne)).far gx 1 x1 (Ne.symm hne)).far gx 2 x2 (Ne.symm hne)).far gx 3 x3 (Ne.symm hne)).far gx 4 x4 (Ne.symm hne)).put 0 y0 (by simp)).put 1 y1 (by simp)).put 2 y2 (by simp)).put 3 y3 (by simp))
  exact ⟨by simpa using h1, by simpa using h2⟩
theorem fillYX (W : World) (gx gy : Nat) (hne : gx ≠ gy) (a0 a1 a2 a3 a4 b0 b1 b2 b3 x0 x1 x2 x3 x4 y0 y1 y2 y3 : Value) (hx : BoxAt W gx #[a0, a1, a2, a3, a4]) (hy : BoxAt W gy #[b0, b1, b2, b3]) : BoxAt (((((((((W.setCell ⟨gy, 0, none⟩ y0).setCell ⟨gy, 1, none⟩ y1).setCell ⟨gy, 2, none⟩ y2).setCell ⟨gy, 3, none⟩ y3).setCell ⟨gx, 0, none⟩ x0).setCell ⟨gx, 1, none⟩ x1).setCell ⟨gx, 2, none⟩ x2).setCell ⟨gx, 3, none⟩ x3).setCell ⟨gx, 4, none⟩ x4) gx #[x0, x1, x2, x3, x4] ∧ BoxAt (((((((((W.setCell ⟨gy, 0, none⟩ y0).setCell ⟨gy, 1, none⟩ y1).setCell ⟨gy, 2, none⟩ y2).setCell ⟨gy, 3, none⟩ y3).setCell ⟨gx, 0, none⟩ x0).setCell ⟨gx, 1, none⟩ x1).setCell ⟨gx, 2, none⟩ x2).setCell ⟨gx, 3, none⟩ x3).setCell ⟨gx, 4, none⟩ x4) gy #[y0, y1, y2, y3] := by
  have h1 := (((((((((hx.far gy 0 y0 hne).far gy 1 y1 hne).far gy 2 y2 hne).far gy 3 y3 hne).put 0 x0 (by simp)).put 1 x1 (by simp)).put 2 x2 (by simp)).put 3 x3 (by simp)).put 4 x4 (by simp))
  have h2 := (((((((((hy.put 0 y0 (by simp)).put 1 y1 (by simp)).put 2 y2 (by simp)).put 3 y3 (by simp)).far gx 0 x0 (Ne.symm hne)).far gx 1 x1 (Ne.symm hne)).far gx 2 x2 (Ne.symm hne)).far gx 3 x3 (Ne.symm hne)).far gx 4 x4 (Ne.symm hne))
  exact ⟨by simpa using h1, by simpa using h2⟩
theorem BoxAt.drw {W : World} {b : Nat} {xs : Array Value} (h : BoxAt W b xs) : BoxAt W.drew b xs := h.keep ((Below.refl _ _).drew)
set_option maxHeartbeats 8000000 in
set_option maxRecDepth 100000 in
theorem l33Any_any (c : Nat) (v : Value) (l : List Int) (w0 w : World) (hv : Rd EBy w0 v l) (hok : ∀ y ∈ l, ByOk y) (h0 : w0.heap.size ≤ c) (hbel : Below w0.heap.size w0 w) (hcur : CurAt w c v l.length) :
    Calls Tryz.prog 15 #[.pointer (some ⟨c, 0, none⟩)] w fun e w' => (∃ (a b o s g k n : Int) (J : List Ln) (W : List Int) (ad aw : Option Addr) (cp cw : Nat), e = .returned (.tuple #[.agg #[.int .i64 a, .int .i64 b, .int .i64 o, .int .i64 s, .int .i64 g], .agg #[.int .i64 k, .int .i64 n, .slice ad J.length cp, .slice aw W.length cw]]) ∧ s ≤ 9223372036854775807 ∧ g ≤ 9223372036854775807 ∧ J.length ≤ 60 ∧ W.length ≤ 60 ∧ Own ELine w' w.heap.size (.slice ad J.length cp) J ∧ Own EInt w' w.heap.size (.slice aw W.length cw) W) ∧ CurAt w' c v l.length ∧ w.grownBy w' (some c) := by
  have HV := Lib.hid hv
  have HO := Lib.hid hok
  have D0 := Lib.hid (DS.start h0 hbel hcur)
  have hcw := hcur.1
  clear hbel hcur
  have HRET : Hid (∀ W, DS w0 c v l.length w W → CurAt W c v l.length ∧ w.grownBy W (some c)) := fun W h => ⟨h.1, h.2.1⟩
  go_enter Tryz.func15, Tryz.ntmps15
  have D2 := Lib.hid ((D0.out.alloc (.cells #[.int .i64 0, .int .i64 0, .int .i64 0, .int .i64 0, .int .i64 0] 27)).alloc (.cells #[.int .i64 0, .int .i64 0, .slice none 0 0, .slice none 0 0] 31))
  have R2 := Lib.hid ((BoxAt.new w #[.int .i64 0, .int .i64 0, .int .i64 0, .int .i64 0, .int .i64 0] 27).alloc (.cells #[.int .i64 0, .int .i64 0, .slice none 0 0, .slice none 0 0] 31))
  have s2 : BoxAt ((w.alloc (.cells #[.int .i64 0, .int .i64 0, .int .i64 0, .int .i64 0, .int .i64 0] 27)).alloc (.cells #[.int .i64 0, .int .i64 0, .slice none 0 0, .slice none 0 0] 31)) (w.heap.size + 1) #[.int .i64 0, .int .i64 0, .slice none 0 0, .slice none 0 0] := by
    have := BoxAt.new (w.alloc (.cells #[.int .i64 0, .int .i64 0, .int .i64 0, .int .i64 0, .int .i64 0] 27)) #[.int .i64 0, .int .i64 0, .slice none 0 0, .slice none 0 0] 31
    simpa using this
  have S2 := Lib.hid s2
  clear s2
  go_wp2_with fail
  refine (l26Any_any c v l w0 _ HV.out HO.out h0 D2.out.below D2.out.1).mono ?_
  rintro e w1 ⟨⟨a, b, o, s, g, rfl, hs9, hg9⟩, hcu1, hg1⟩
  have D3 := Lib.hid ((D2.out.call hcu1 hg1).alloc (.cells #[.int .i64 a, .int .i64 b, .int .i64 o, .int .i64 s, .int .i64 g] 27))
  have R3 := Lib.hid ((R2.out.only hg1 (by omega)).alloc (.cells #[.int .i64 a, .int .i64 b, .int .i64 o, .int .i64 s, .int .i64 g] 27))
  have S3 := Lib.hid ((S2.out.only hg1 (by omega)).alloc (.cells #[.int .i64 a, .int .i64 b, .int .i64 o, .int .i64 s, .int .i64 g] 27))
  have X3 := Lib.hid (BoxAt.new w1 #[.int .i64 a, .int .i64 b, .int .i64 o, .int .i64 s, .int .i64 g] 27)
  have hbX : w.heap.size + 2 ≤ w1.heap.size := by have := (S2.out.only hg1 (by omega)).1; omega
  clear hcu1 hg1 D2 R2 S2
  obtain ⟨bX, hX⟩ : ∃ bX, bX = w1.heap.size := ⟨_, rfl⟩
  go_wp2_with fail
  refine (l01Once_any c v l 3 (by omega) (by omega) w0 _ HV.out HO.out h0 D3.out.below D3.out.1).mono ?_
  rintro e w2 ⟨⟨y2, rfl⟩, hcu2, hg2⟩
  have D4 := Lib.hid (D3.out.call hcu2 hg2)
  have R4 := Lib.hid (R3.out.only hg2 (by omega))
  have S4 := Lib.hid (S3.out.only hg2 (by omega))
  have X4 := Lib.hid (X3.out.only hg2 (by omega))
  clear hcu2 hg2 D3 R3 S3 X3
  go_upto_if 10 with fail
  go_cut [] (fun wx => ∃ g2 : Int, g2 ≤ 9223372036854775807 ∧ Hid (BoxAt wx w1.heap.size #[.int .i64 a, .int .i64 b, .int .i64 o, .int .i64 s, .int .i64 g2]) ∧ Hid (DS w0 c v l.length w wx) ∧ Hid (BoxAt wx w.heap.size #[.int .i64 0, .int .i64 0, .int .i64 0, .int .i64 0, .int .i64 0]) ∧ Hid (BoxAt wx (w.heap.size + 1) #[.int .i64 0, .int .i64 0, .slice none 0 0, .slice none 0 0]))
  case first =>
    cases y2
    · go_wp2_with fail
      all_goals (go_meet; case rel => exact ⟨g, hg9, X4, D4, R4, S4⟩)
    · obtain ⟨p1, p2, p3⟩ := X4.out
      have D5 := Lib.hid (D4.out.alloc (.cells #[.int .i64 a, .int .i64 b, .int .i64 o] 25))
      have X5 := Lib.hid (X4.out.alloc (.cells #[.int .i64 a, .int .i64 b, .int .i64 o] 25))
      have R5 := Lib.hid (R4.out.alloc (.cells #[.int .i64 a, .int .i64 b, .int .i64 o] 25))
      have S5 := Lib.hid (S4.out.alloc (.cells #[.int .i64 a, .int .i64 b, .int .i64 o] 25))
      go_wp2_with (go_at_call 45; refine (l04Some_all a b o c v l w0 _ HV.out HO.out h0 D5.out.below D5.out.1).mono ?_; rintro e w5 ⟨⟨p, rfl, hp9⟩, hcu5, hg5⟩; obtain ⟨t1, t2, t3⟩ := X5.out.only hg5 (by omega))
      all_goals (go_meet; case rel => exact ⟨p, hp9, (X5.out.only hg5 (by omega)).put 4 _ (by simp), (D5.out.call hcu5 hg5).set (by omega) _ _, (R5.out.only hg5 (by omega)).far _ _ _ (by omega), (S5.out.only hg5 (by omega)).far _ _ _ (by omega)⟩)
  clear D4 R4 S4 X4 hg9
  obtain ⟨g2, hg9, X5, D5, R5, S5⟩ := hcut
  obtain ⟨p1, p2, p3⟩ := X5.out
  go_wp2_with fail
  refine (l33Claim_any a b o s g2 hs9 hg9 c v l w0 _ HV.out HO.out h0 D5.out.below D5.out.1).mono ?_
  rintro e w5 ⟨⟨k, n, J, W, ad, aw, cp, cw, rfl, hJ, hW, hoJ, hoW⟩, hcu5, hg5⟩
  have hw5 : w.heap.size + 2 ≤ wc.heap.size := by have := S5.out.1; omega
  have HNE := Lib.hid hoJ.fresh
  have HNW := Lib.hid hoW.fresh
  have HJ5 := Lib.hid (((hoJ.mono hw5)).alloc (.cells #[.int .i64 k, .int .i64 n, .slice ad J.length cp, .slice aw W.length cw] 31))
  have HW5 := Lib.hid (((hoW.mono hw5)).alloc (.cells #[.int .i64 k, .int .i64 n, .slice ad J.length cp, .slice aw W.length cw] 31))
  have D6 := Lib.hid ((D5.out.call hcu5 hg5).alloc (.cells #[.int .i64 k, .int .i64 n, .slice ad J.length cp, .slice aw W.length cw] 31))
  have X6 := Lib.hid ((X5.out.only hg5 (by omega)).alloc (.cells #[.int .i64 k, .int .i64 n, .slice ad J.length cp, .slice aw W.length cw] 31))
  have R6 := Lib.hid ((R5.out.only hg5 (by omega)).alloc (.cells #[.int .i64 k, .int .i64 n, .slice ad J.length cp, .slice aw W.length cw] 31))
  have S6 := Lib.hid ((S5.out.only hg5 (by omega)).alloc (.cells #[.int .i64 k, .int .i64 n, .slice ad J.length cp, .slice aw W.length cw] 31))
  have Y6 := Lib.hid (BoxAt.new w5 #[.int .i64 k, .int .i64 n, .slice ad J.length cp, .slice aw W.length cw] 31)
  have hbY : w1.heap.size < w5.heap.size := (X5.out.only hg5 (by omega)).1
  clear hcu5 hg5 hoJ hoW D5 X5 R5 S5 p1 p2 p3 hw5
  go_wp2_with fail
  refine (l01Below_any c v l 12 (by omega) (by omega) w0 _ HV.out HO.out h0 D6.out.below D6.out.1).mono ?_
  rintro e wz ⟨⟨x, rfl, x0, x1⟩, hcu7, hg7⟩
  have HJ6 := Lib.hid (HJ5.out.only hg7 (by omega))
  have HW6 := Lib.hid (HW5.out.only hg7 (by omega))
  have D7 := Lib.hid (D6.out.call hcu7 hg7)
  have X7 := Lib.hid (X6.out.only hg7 (by omega))
  have R7 := Lib.hid (R6.out.only hg7 (by omega))
  have S7 := Lib.hid (S6.out.only hg7 (by omega))
  have Y7 := Lib.hid (Y6.out.only hg7 (by omega))
  clear hcu7 hg7 HJ5 HW5 D6 X6 R6 S6 Y6
  have D6 := D7
  have X6 := X7
  have R6 := R7
  have S6 := S7
  have Y6 := Y7
  clear D7 X7 R7 S7 Y7
  have hcY : c < w5.heap.size := by omega
  by_cases h9 : x = 0
  · subst h9
    have O4 := Lib.hid (Own.lit (E := EInt) [0, 5, 1] wz wz.heap.size (Nat.le_refl _) (by decide))
    have D4 := Lib.hid (D6.out.alloc (.cells #[.int .i64 0, .int .i64 5, .int .i64 1] 3))
    have R4 := Lib.hid (R6.out.alloc (.cells #[.int .i64 0, .int .i64 5, .int .i64 1] 3))
    have S4 := Lib.hid (S6.out.alloc (.cells #[.int .i64 0, .int .i64 5, .int .i64 1] 3))
    have X4 := Lib.hid (X6.out.alloc (.cells #[.int .i64 0, .int .i64 5, .int .i64 1] 3))
    have Y4 := Lib.hid (Y6.out.alloc (.cells #[.int .i64 0, .int .i64 5, .int .i64 1] 3))
    have HJ4 := Lib.hid (HJ6.out.alloc (.cells #[.int .i64 0, .int .i64 5, .int .i64 1] 3))
    have HW4 := Lib.hid (HW6.out.alloc (.cells #[.int .i64 0, .int .i64 5, .int .i64 1] 3))
    have hcz : c < wz.heap.size := by have := D6.out.size; omega
    go_upto_region 11 with (go_at_call 48; refine (l01PickInt_any c v l w0 _ HV.out HO.out h0 D4.out.below D4.out.1 [0, 5, 1] (by decide) (by decide) wz.heap.size _ hcz O4.out).mono ?_; rintro e w9 ⟨⟨y, -, rfl⟩, hcu9, hg9'⟩; have y9 := Y4.out.only hg9' (by omega); obtain ⟨t1, t2, t3⟩ := y9; have x9 := X4.out.only hg9' (by omega); obtain ⟨x1', x2', x3'⟩ := x9; have HG := Lib.hid hg9'; have HCU := Lib.hid hcu9; clear hcu9 hg9')
    have yz := Lib.hid ((Y4.out.only HG.out (by omega)).put 0 (.int .i64 y) (by simp))
    have xz := Lib.hid ((X4.out.only HG.out (by omega)).far w5.heap.size 0 (.int .i64 y) (by omega))
    have rz := Lib.hid ((R4.out.only HG.out (by omega)).far w5.heap.size 0 (.int .i64 y) (by omega))
    have sz := Lib.hid ((S4.out.only HG.out (by omega)).far w5.heap.size 0 (.int .i64 y) (by omega))
    have dz := Lib.hid ((D4.out.call HCU.out HG.out).set (b := w5.heap.size) (by omega) 0 (.int .i64 y))
    have jz := Lib.hid ((HJ4.out.only HG.out (by omega)).setNe HNE.out 0 (.int .i64 y))
    have wz' := Lib.hid ((HW4.out.only HG.out (by omega)).setNe HNW.out 0 (.int .i64 y))
    clear t1 t2 t3 x1' x2' x3' O4 D4 R4 S4 X4 Y4 HJ4 HW4 HG HCU D6 R6 S6 X6 Y6 HJ6 HW6
    generalize hwn : w9.setCell ⟨w5.heap.size, 0, none⟩ (.int .i64 y) = wn at *
    clear hwn
    obtain ⟨t1, t2, t3⟩ := yz.out
    obtain ⟨x1', x2', x3'⟩ := xz.out
    obtain ⟨r1', r2', r3'⟩ := rz.out
    obtain ⟨s1', s2', s3'⟩ := sz.out
    go_cut [] (fun wx => Hid (BoxAt wx w.heap.size #[.int .i64 a, .int .i64 b, .int .i64 o, .int .i64 s, .int .i64 g2]) ∧ Hid (BoxAt wx (w.heap.size + 1) #[.int .i64 y, .int .i64 n, .slice ad J.length cp, .slice aw W.length cw]) ∧ Hid (DS w0 c v l.length w wx) ∧ Hid (Own ELine wx (w.heap.size + 2) (.slice ad J.length cp) J) ∧ Hid (Own EInt wx (w.heap.size + 2) (.slice aw W.length cw) W))
    case first =>
      have HRL : Hid (∀ W', BoxAt W' w.heap.size #[.int .i64 a, .int .i64 b, .int .i64 o, .int .i64 s, .int .i64 g2] ∧ BoxAt W' (w.heap.size + 1) #[.int .i64 y, .int .i64 n, .slice ad J.length cp, .slice aw W.length cw] → DS w0 c v l.length w W' → Own ELine W' (w.heap.size + 2) (.slice ad J.length cp) J → Own EInt W' (w.heap.size + 2) (.slice aw W.length cw) W → (fun wx => Hid (BoxAt wx w.heap.size #[.int .i64 a, .int .i64 b, .int .i64 o, .int .i64 s, .int .i64 g2]) ∧ Hid (BoxAt wx (w.heap.size + 1) #[.int .i64 y, .int .i64 n, .slice ad J.length cp, .slice aw W.length cw]) ∧ Hid (DS w0 c v l.length w wx) ∧ Hid (Own ELine wx (w.heap.size + 2) (.slice ad J.length cp) J) ∧ Hid (Own EInt wx (w.heap.size + 2) (.slice aw W.length cw) W)) W'.drew) := fun W' h1 h2 h3 h4 => ⟨h1.1.drw, h1.2.drw, h2.keep ((Below.refl _ _).drew), h3.keep ((Below.refl _ _).drew), h4.keep ((Below.refl _ _).drew)⟩
      go_wp2_with go_region
      all_goals (go_meet; case rel => ((first | (with_reducible refine HRL.out _ (fillXY _ _ _ (by omega) _ _ _ _ _ _ _ _ _ _ _ _ _ _ _ _ _ _ rz.out sz.out) ?_ ?_ ?_) | (with_reducible refine HRL.out _ (fillYX _ _ _ (by omega) _ _ _ _ _ _ _ _ _ _ _ _ _ _ _ _ _ _ rz.out sz.out) ?_ ?_ ?_)) <;> (repeat' (first | (with_reducible exact dz.out) | (with_reducible exact jz.out) | (with_reducible exact wz'.out) | (with_reducible refine DS.set ?_ (by omega) _ _) | (with_reducible refine Own.setD ?_ (by omega) _ _)))))
    obtain ⟨R9, S9, D9, J9, W9⟩ := hcut
    obtain ⟨e1', e2', e3'⟩ := R9.out
    obtain ⟨f1', f2', f3'⟩ := S9.out
    go_wp2_with fail
    refine bodyPost_ret (v := .tuple #[.agg #[.int .i64 a, .int .i64 b, .int .i64 o, .int .i64 s, .int .i64 g2], .agg #[.int .i64 y, .int .i64 n, .slice ad J.length cp, .slice aw W.length cw]]) (by simp [results, Tryz.results15, go_sem, *]) rfl ⟨⟨a, b, o, s, g2, _, _, J, W, ad, aw, cp, cw, rfl, hs9, hg9, hJ, hW, J9.out.mono (by omega), W9.out.mono (by omega)⟩, HRET.out _ D9.out⟩
  have e0 : (x == 0) = false := by simp [h9]
  by_cases h8 : x = 1
  · subst h8
    have O4 := Lib.hid (Own.lit (E := EInt) [-1, 60, 61] wz wz.heap.size (Nat.le_refl _) (by decide))
    have D4 := Lib.hid (D6.out.alloc (.cells #[.int .i64 (-1), .int .i64 60, .int .i64 61] 3))
    have R4 := Lib.hid (R6.out.alloc (.cells #[.int .i64 (-1), .int .i64 60, .int .i64 61] 3))
    have S4 := Lib.hid (S6.out.alloc (.cells #[.int .i64 (-1), .int .i64 60, .int .i64 61] 3))
    have X4 := Lib.hid (X6.out.alloc (.cells #[.int .i64 (-1), .int .i64 60, .int .i64 61] 3))
    have Y4 := Lib.hid (Y6.out.alloc (.cells #[.int .i64 (-1), .int .i64 60, .int .i64 61] 3))
    have HJ4 := Lib.hid (HJ6.out.alloc (.cells #[.int .i64 (-1), .int .i64 60, .int .i64 61] 3))
    have HW4 := Lib.hid (HW6.out.alloc (.cells #[.int .i64 (-1), .int .i64 60, .int .i64 61] 3))
    have hcz : c < wz.heap.size := by have := D6.out.size; omega
    go_upto_region 11 with (go_at_call 48; refine (l01PickInt_any c v l w0 _ HV.out HO.out h0 D4.out.below D4.out.1 [-1, 60, 61] (by decide) (by decide) wz.heap.size _ hcz O4.out).mono ?_; rintro e w9 ⟨⟨y, -, rfl⟩, hcu9, hg9'⟩; have y9 := Y4.out.only hg9' (by omega); obtain ⟨t1, t2, t3⟩ := y9; have x9 := X4.out.only hg9' (by omega); obtain ⟨x1', x2', x3'⟩ := x9; have HG := Lib.hid hg9'; have HCU := Lib.hid hcu9; clear hcu9 hg9')
    have yz := Lib.hid ((Y4.out.only HG.out (by omega)).put 1 (.int .i64 y) (by simp))
    have xz := Lib.hid ((X4.out.only HG.out (by omega)).far w5.heap.size 1 (.int .i64 y) (by omega))
    have rz := Lib.hid ((R4.out.only HG.out (by omega)).far w5.heap.size 1 (.int .i64 y) (by omega))
    have sz := Lib.hid ((S4.out.only HG.out (by omega)).far w5.heap.size 1 (.int .i64 y) (by omega))
    have dz := Lib.hid ((D4.out.call HCU.out HG.out).set (b := w5.heap.size) (by omega) 1 (.int .i64 y))
    have jz := Lib.hid ((HJ4.out.only HG.out (by omega)).setNe HNE.out 1 (.int .i64 y))
    have wz' := Lib.hid ((HW4.out.only HG.out (by omega)).setNe HNW.out 1 (.int .i64 y))
    clear t1 t2 t3 x1' x2' x3' O4 D4 R4 S4 X4 Y4 HJ4 HW4 HG HCU D6 R6 S6 X6 Y6 HJ6 HW6
    generalize hwn : w9.setCell ⟨w5.heap.size, 1, none⟩ (.int .i64 y) = wn at *
    clear hwn
    obtain ⟨t1, t2, t3⟩ := yz.out
    obtain ⟨x1', x2', x3'⟩ := xz.out
    obtain ⟨r1', r2', r3'⟩ := rz.out
    obtain ⟨s1', s2', s3'⟩ := sz.out
    go_cut [] (fun wx => Hid (BoxAt wx w.heap.size #[.int .i64 a, .int .i64 b, .int .i64 o, .int .i64 s, .int .i64 g2]) ∧ Hid (BoxAt wx (w.heap.size + 1) #[.int .i64 k, .int .i64 y, .slice ad J.length cp, .slice aw W.length cw]) ∧ Hid (DS w0 c v l.length w wx) ∧ Hid (Own ELine wx (w.heap.size + 2) (.slice ad J.length cp) J) ∧ Hid (Own EInt wx (w.heap.size + 2) (.slice aw W.length cw) W))
    case first =>
      have HRL : Hid (∀ W', BoxAt W' w.heap.size #[.int .i64 a, .int .i64 b, .int .i64 o, .int .i64 s, .int .i64 g2] ∧ BoxAt W' (w.heap.size + 1) #[.int .i64 k, .int .i64 y, .slice ad J.length cp, .slice aw W.length cw] → DS w0 c v l.length w W' → Own ELine W' (w.heap.size + 2) (.slice ad J.length cp) J → Own EInt W' (w.heap.size + 2) (.slice aw W.length cw) W → (fun wx => Hid (BoxAt wx w.heap.size #[.int .i64 a, .int .i64 b, .int .i64 o, .int .i64 s, .int .i64 g2]) ∧ Hid (BoxAt wx (w.heap.size + 1) #[.int .i64 k, .int .i64 y, .slice ad J.length cp, .slice aw W.length cw]) ∧ Hid (DS w0 c v l.length w wx) ∧ Hid (Own ELine wx (w.heap.size + 2) (.slice ad J.length cp) J) ∧ Hid (Own EInt wx (w.heap.size + 2) (.slice aw W.length cw) W)) W'.drew) := fun W' h1 h2 h3 h4 => ⟨h1.1.drw, h1.2.drw, h2.keep ((Below.refl _ _).drew), h3.keep ((Below.refl _ _).drew), h4.keep ((Below.refl _ _).drew)⟩
      go_wp2_with go_region
      all_goals (go_meet; case rel => ((first | (with_reducible refine HRL.out _ (fillXY _ _ _ (by omega) _ _ _ _ _ _ _ _ _ _ _ _ _ _ _ _ _ _ rz.out sz.out) ?_ ?_ ?_) | (with_reducible refine HRL.out _ (fillYX _ _ _ (by omega) _ _ _ _ _ _ _ _ _ _ _ _ _ _ _ _ _ _ rz.out sz.out) ?_ ?_ ?_)) <;> (repeat' (first | (with_reducible exact dz.out) | (with_reducible exact jz.out) | (with_reducible exact wz'.out) | (with_reducible refine DS.set ?_ (by omega) _ _) | (with_reducible refine Own.setD ?_ (by omega) _ _)))))
    obtain ⟨R9, S9, D9, J9, W9⟩ := hcut
    obtain ⟨e1', e2', e3'⟩ := R9.out
    obtain ⟨f1', f2', f3'⟩ := S9.out
    go_wp2_with fail
    refine bodyPost_ret (v := .tuple #[.agg #[.int .i64 a, .int .i64 b, .int .i64 o, .int .i64 s, .int .i64 g2], .agg #[.int .i64 k, .int .i64 y, .slice ad J.length cp, .slice aw W.length cw]]) (by simp [results, Tryz.results15, go_sem, *]) rfl ⟨⟨a, b, o, s, g2, _, _, J, W, ad, aw, cp, cw, rfl, hs9, hg9, hJ, hW, J9.out.mono (by omega), W9.out.mono (by omega)⟩, HRET.out _ D9.out⟩
  have e1 : (x == 1) = false := by simp [h8]
  go_upto_region 11 with fail
  have rz := R6
  have sz := S6
  have dz := D6
  have jz := HJ6
  have wz' := HW6
  obtain ⟨t1, t2, t3⟩ := Y6.out
  obtain ⟨x1', x2', x3'⟩ := X6.out
  obtain ⟨r1', r2', r3'⟩ := R6.out
  obtain ⟨s1', s2', s3'⟩ := S6.out
  go_cut [] (fun wx => Hid (BoxAt wx w.heap.size #[.int .i64 a, .int .i64 b, .int .i64 o, .int .i64 s, .int .i64 g2]) ∧ Hid (BoxAt wx (w.heap.size + 1) #[.int .i64 k, .int .i64 n, .slice ad J.length cp, .slice aw W.length cw]) ∧ Hid (DS w0 c v l.length w wx) ∧ Hid (Own ELine wx (w.heap.size + 2) (.slice ad J.length cp) J) ∧ Hid (Own EInt wx (w.heap.size + 2) (.slice aw W.length cw) W))
  case first =>
    have HRL : Hid (∀ W', BoxAt W' w.heap.size #[.int .i64 a, .int .i64 b, .int .i64 o, .int .i64 s, .int .i64 g2] ∧ BoxAt W' (w.heap.size + 1) #[.int .i64 k, .int .i64 n, .slice ad J.length cp, .slice aw W.length cw] → DS w0 c v l.length w W' → Own ELine W' (w.heap.size + 2) (.slice ad J.length cp) J → Own EInt W' (w.heap.size + 2) (.slice aw W.length cw) W → (fun wx => Hid (BoxAt wx w.heap.size #[.int .i64 a, .int .i64 b, .int .i64 o, .int .i64 s, .int .i64 g2]) ∧ Hid (BoxAt wx (w.heap.size + 1) #[.int .i64 k, .int .i64 n, .slice ad J.length cp, .slice aw W.length cw]) ∧ Hid (DS w0 c v l.length w wx) ∧ Hid (Own ELine wx (w.heap.size + 2) (.slice ad J.length cp) J) ∧ Hid (Own EInt wx (w.heap.size + 2) (.slice aw W.length cw) W)) W'.drew) := fun W' h1 h2 h3 h4 => ⟨h1.1.drw, h1.2.drw, h2.keep ((Below.refl _ _).drew), h3.keep ((Below.refl _ _).drew), h4.keep ((Below.refl _ _).drew)⟩
    go_wp2_with go_region
    all_goals (go_meet; case rel => ((first | (with_reducible refine HRL.out _ (fillXY _ _ _ (by omega) _ _ _ _ _ _ _ _ _ _ _ _ _ _ _ _ _ _ rz.out sz.out) ?_ ?_ ?_) | (with_reducible refine HRL.out _ (fillYX _ _ _ (by omega) _ _ _ _ _ _ _ _ _ _ _ _ _ _ _ _ _ _ rz.out sz.out) ?_ ?_ ?_)) <;> (repeat' (first | (with_reducible exact dz.out) | (with_reducible exact jz.out) | (with_reducible exact wz'.out) | (with_reducible refine DS.set ?_ (by omega) _ _) | (with_reducible refine Own.setD ?_ (by omega) _ _)))))
  obtain ⟨R9, S9, D9, J9, W9⟩ := hcut
  obtain ⟨e1', e2', e3'⟩ := R9.out
  obtain ⟨f1', f2', f3'⟩ := S9.out
  go_wp2_with fail
  refine bodyPost_ret (v := .tuple #[.agg #[.int .i64 a, .int .i64 b, .int .i64 o, .int .i64 s, .int .i64 g2], .agg #[.int .i64 k, .int .i64 n, .slice ad J.length cp, .slice aw W.length cw]]) (by simp [results, Tryz.results15, go_sem, *]) rfl ⟨⟨a, b, o, s, g2, _, _, J, W, ad, aw, cp, cw, rfl, hs9, hg9, hJ, hW, J9.out.mono (by omega), W9.out.mono (by omega)⟩, HRET.out _ D9.out⟩
end Go.Proofs.YtfmplmlilmalpaaGreat
namespace Go.Proofs.YtfmplmlilmalpaaGreat
open Go.ChangeShapes Go.WideShapes Go.ChangeAt Go.RowKit Peg Go.Sort
set_option maxHeartbeats 8000000 in
set_option maxRecDepth 100000 in
theorem DrawCheckClaim_any (v : Value) (l : List Int) (w : World) (hv : Rd EBy w v l) (hok : ∀ y ∈ l, ByOk y) (hl : l.length ≤ 1048576) :
    Calls Tryz.prog 5 #[v] w fun e w' => ∃ (a b o s g k n : Int) (J : List Ln) (W : List Int) (ad aw : Option Addr) (cp cw : Nat), e = .returned (.tuple #[.agg #[.int .i64 a, .int .i64 b, .int .i64 o, .int .i64 s, .int .i64 g], .agg #[.int .i64 k, .int .i64 n, .slice ad J.length cp, .slice aw W.length cw]]) ∧ s ≤ 9223372036854775807 ∧ g ≤ 9223372036854775807 ∧ J.length ≤ 60 ∧ W.length ≤ 60 ∧ Own ELine w' w.heap.size (.slice ad J.length cp) J ∧ Own EInt w' w.heap.size (.slice aw W.length cw) W ∧ Below w.heap.size w w' := by
  have hA1 : Below w.heap.size w (w.alloc (.cells #[.int .i64 0, .int .i64 0, .int .i64 0, .int .i64 0, .int .i64 0] 27)) := (Below.refl _ _).alloc (Nat.le_refl _) _
  have hA2 : Below w.heap.size w ((w.alloc (.cells #[.int .i64 0, .int .i64 0, .int .i64 0, .int .i64 0, .int .i64 0] 27)).alloc (.cells #[.int .i64 0, .int .i64 0, .slice none 0 0, .slice none 0 0] 31)) := hA1.alloc (by simp) _
  have HV := Lib.hid (hv.keep hA2)
  have HO := Lib.hid hok
  have HN := Lib.hid (l01New_any v l _ (hv.keep hA2) hok hl)
  have r2 : BoxAt ((w.alloc (.cells #[.int .i64 0, .int .i64 0, .int .i64 0, .int .i64 0, .int .i64 0] 27)).alloc (.cells #[.int .i64 0, .int .i64 0, .slice none 0 0, .slice none 0 0] 31)) w.heap.size #[.int .i64 0, .int .i64 0, .int .i64 0, .int .i64 0, .int .i64 0] := (BoxAt.new w #[.int .i64 0, .int .i64 0, .int .i64 0, .int .i64 0, .int .i64 0] 27).alloc (.cells #[.int .i64 0, .int .i64 0, .slice none 0 0, .slice none 0 0] 31)
  have s2 : BoxAt ((w.alloc (.cells #[.int .i64 0, .int .i64 0, .int .i64 0, .int .i64 0, .int .i64 0] 27)).alloc (.cells #[.int .i64 0, .int .i64 0, .slice none 0 0, .slice none 0 0] 31)) (w.heap.size + 1) #[.int .i64 0, .int .i64 0, .slice none 0 0, .slice none 0 0] := by
    have := BoxAt.new (w.alloc (.cells #[.int .i64 0, .int .i64 0, .int .i64 0, .int .i64 0, .int .i64 0] 27)) #[.int .i64 0, .int .i64 0, .slice none 0 0, .slice none 0 0] 31
    simpa using this
  have R2 := Lib.hid r2
  have S2 := Lib.hid s2
  have HA2 := Lib.hid hA2
  clear hv hok hA1 hA2 r2 s2
  go_enter Tryz.func5, Tryz.ntmps5
  go_wp2_with fail
  refine HN.out.mono ?_
  rintro e w1 ⟨c, rfl, hc, hcu1, hb1⟩
  have R3 := Lib.hid (R2.out.keep hb1)
  have S3 := Lib.hid (S2.out.keep hb1)
  have HB1 := Lib.hid (HA2.out.trans (hb1.mono (by simp; omega)))
  simp only [World.size_alloc] at hc
  have hcw := hcu1.1
  have HC := Lib.hid (l33Any_any c v l _ w1 HV.out HO.out (by simpa using hc) hb1 hcu1)
  clear HN R2 S2 HA2 hcu1 hb1
  go_wp2_with fail
  refine HC.out.mono ?_
  rintro e w2 ⟨⟨a, b, o, s, g, k, n, J, W, ad, aw, cp, cw, rfl, hs9, hg9, hJ, hW, hoJ, hoW⟩, hcu2, hg2⟩
  have R4 := Lib.hid ((R3.out.only hg2 (by omega)))
  have S4 := Lib.hid ((S3.out.only hg2 (by omega)))
  have HB2 := Lib.hid (HB1.out.trans ((only_below (Nat.le_of_lt hcw) hg2).mono (by omega)))
  have hz1 := S3.out.1
  have hz2 := S4.out.1
  have HJ := Lib.hid (hoJ.mono (B := w.heap.size + 2) (by omega))
  have HW := Lib.hid (hoW.mono (B := w.heap.size + 2) (by omega))
  clear hcu2 hg2 hoJ hoW HC R3 S3
  obtain ⟨w3, hw3⟩ : ∃ w3 : World, w3 = (w2.alloc (.cells #[.int .i64 a, .int .i64 b, .int .i64 o, .int .i64 s, .int .i64 g] 27)).alloc (.cells #[.int .i64 k, .int .i64 n, .slice ad J.length cp, .slice aw W.length cw] 31) := ⟨_, rfl⟩
  have hB3 : Below w2.heap.size w2 w3 := by rw [hw3]; exact ((Below.refl _ _).alloc (Nat.le_refl _) _).alloc (by simp) _
  have hX3 : BoxAt w3 w2.heap.size #[.int .i64 a, .int .i64 b, .int .i64 o, .int .i64 s, .int .i64 g] := by rw [hw3]; exact (BoxAt.new w2 _ _).alloc _
  have hY3 : BoxAt w3 (w2.heap.size + 1) #[.int .i64 k, .int .i64 n, .slice ad J.length cp, .slice aw W.length cw] := by
    rw [hw3]
    have := BoxAt.new (w2.alloc (.cells #[.int .i64 a, .int .i64 b, .int .i64 o, .int .i64 s, .int .i64 g] 27)) #[.int .i64 k, .int .i64 n, .slice ad J.length cp, .slice aw W.length cw] 31
    simpa using this
  have rz := Lib.hid (R4.out.keep hB3)
  have sz := Lib.hid (S4.out.keep hB3)
  have jz := Lib.hid (HJ.out.keep hB3)
  have wz' := Lib.hid (HW.out.keep hB3)
  have bz := Lib.hid (HB2.out.trans (hB3.mono (by omega)))
  go_upto_region 2 with fail
  rw [← hw3]
  clear hw3 hB3 R4 S4 HJ HW HB2 HB1
  obtain ⟨x1, x2, x3⟩ := hX3
  obtain ⟨y1, y2, y3⟩ := hY3
  obtain ⟨r1', r2', r3'⟩ := rz.out
  obtain ⟨s1', s2', s3'⟩ := sz.out
  go_cut [] (fun wx => Hid (BoxAt wx w.heap.size #[.int .i64 a, .int .i64 b, .int .i64 o, .int .i64 s, .int .i64 g]) ∧ Hid (BoxAt wx (w.heap.size + 1) #[.int .i64 k, .int .i64 n, .slice ad J.length cp, .slice aw W.length cw]) ∧ Hid (Below w.heap.size w wx) ∧ Hid (Own ELine wx (w.heap.size + 2) (.slice ad J.length cp) J) ∧ Hid (Own EInt wx (w.heap.size + 2) (.slice aw W.length cw) W))
  case first =>
    have HRL : Hid (∀ W', BoxAt W' w.heap.size #[.int .i64 a, .int .i64 b, .int .i64 o, .int .i64 s, .int .i64 g] ∧ BoxAt W' (w.heap.size + 1) #[.int .i64 k, .int .i64 n, .slice ad J.length cp, .slice aw W.length cw] → Below w.heap.size w W' → Own ELine W' (w.heap.size + 2) (.slice ad J.length cp) J → Own EInt W' (w.heap.size + 2) (.slice aw W.length cw) W → (fun wx => Hid (BoxAt wx w.heap.size #[.int .i64 a, .int .i64 b, .int .i64 o, .int .i64 s, .int .i64 g]) ∧ Hid (BoxAt wx (w.heap.size + 1) #[.int .i64 k, .int .i64 n, .slice ad J.length cp, .slice aw W.length cw]) ∧ Hid (Below w.heap.size w wx) ∧ Hid (Own ELine wx (w.heap.size + 2) (.slice ad J.length cp) J) ∧ Hid (Own EInt wx (w.heap.size + 2) (.slice aw W.length cw) W)) W'.drew) := fun W' h1 h2 h3 h4 => ⟨h1.1.drw, h1.2.drw, h2.drew, h3.keep ((Below.refl _ _).drew), h4.keep ((Below.refl _ _).drew)⟩
    go_wp2_with go_region
    all_goals (go_meet; case rel => ((first | (with_reducible refine HRL.out _ (fillXY _ _ _ (by omega) _ _ _ _ _ _ _ _ _ _ _ _ _ _ _ _ _ _ rz.out sz.out) ?_ ?_ ?_) | (with_reducible refine HRL.out _ (fillYX _ _ _ (by omega) _ _ _ _ _ _ _ _ _ _ _ _ _ _ _ _ _ _ rz.out sz.out) ?_ ?_ ?_)) <;> (repeat' (first | (with_reducible exact bz.out) | (with_reducible exact jz.out) | (with_reducible exact wz'.out) | (with_reducible refine Below.setCell ?_ (by simp) _) | (with_reducible refine Own.setD ?_ (by omega) _ _)))))
  obtain ⟨R9, S9, B9, J9, W9⟩ := hcut
  obtain ⟨e1', e2', e3'⟩ := R9.out
  obtain ⟨f1', f2', f3'⟩ := S9.out
  go_wp2_with fail
  refine bodyPost_ret (v := .tuple #[.agg #[.int .i64 a, .int .i64 b, .int .i64 o, .int .i64 s, .int .i64 g], .agg #[.int .i64 k, .int .i64 n, .slice ad J.length cp, .slice aw W.length cw]]) (by simp [results, Tryz.results5, go_sem, *]) rfl ⟨a, b, o, s, g, _, _, J, W, ad, aw, cp, cw, rfl, hs9, hg9, hJ, hW, J9.out.mono (by omega), W9.out.mono (by omega), B9.out⟩
end Go.Proofs.YtfmplmlilmalpaaGreat
