/- DrawJ: contract of the reference's drawn game with its puzzle. Conditions: the cursor's form. -/
import Derived.Test.YtfpofhkggojaoaaDrawP3
import Derived.Test.YtfpofhkggojaoaaWay2
set_option linter.unusedVariables false
set_option linter.unusedSimpArgs false
namespace Peg
theorem playTo_take {back : Bool} {a b o p q : Int} {L : List Ln} (h : playTo back a b o p L = some q) (k : Nat) : ∃ r, playTo back a b o p (L.take k) = some r := by
  rw [← List.take_append_drop k L, playTo_append] at h
  cases h2 : playTo back a b o p (L.take k) with
  | none => rw [h2] at h; cases h
  | some r => exact ⟨r, rfl⟩
end Peg
namespace Go.Proofs.Ytfpofhkggojaoaa
open Go.ChangeShapes Go.WideShapes Go.ChangeAt Go.RowKit Peg Go.Sort
theorem Own.take {α : Type} {E : Elt α} {w : World} {base : Nat} {a : Option Addr} {cap : Nat} {l : List α} (h : Own E w base (.slice a l.length cap) l) (k : Nat) (hk : k ≤ l.length) : Own E w base (.slice a k cap) (l.take k) := by
  have hl : (l.take k).length = k := by rw [List.length_take]; omega
  rcases h with ⟨rfl, a0, hv⟩ | ⟨hf, ⟨hv, hn⟩ | ⟨g, c, cur, hv, h1, h2, h3, h4, h5, h6⟩⟩
  · simp only [List.length_nil, Value.slice.injEq] at hv hk
    obtain rfl : k = 0 := by omega
    exact .inl ⟨rfl, a, by rw [hv.2.2]⟩
  · simp only [Value.slice.injEq] at hv
    obtain rfl : k = 0 := by omega
    exact .inl ⟨rfl, a, by rw [hv.2.2]⟩
  · simp only [Value.slice.injEq] at hv
    obtain ⟨ha, _, hc⟩ := hv
    subst ha hc
    refine .inr ⟨by rw [flat_length], .inr ⟨g, cap, cur, by rw [hl], h1, h2, by omega, h4, h5, ?_⟩⟩
    rw [hl]
    have e1 : cur.toList.take (k * E.size) = (cur.toList.take (l.length * E.size)).take (k * E.size) := by
      rw [List.take_take]
      congr 1
      exact (Nat.min_eq_left (Nat.mul_le_mul_right _ hk)).symm
    rw [e1, h6]
    have e2 : l.flatMap E.enc = (l.take k).flatMap E.enc ++ (l.drop k).flatMap E.enc := by rw [← List.flatMap_append, List.take_append_drop]
    rw [e2, List.take_append_of_le_length (by rw [flat_length, hl]; exact Nat.le_refl _), List.take_of_length_le (by rw [flat_length, hl]; exact Nat.le_refl _)]
theorem box8_set (w : World) (g : Nat) (x0 x1 x2 x3 x4 x5 x6 x7 u0 u1 u2 u3 u4 u5 u6 u7 : Value) (h : ∀ j, w.cell? ⟨g, j, none⟩ = #[x0, x1, x2, x3, x4, x5, x6, x7][j]?) (j : Nat) : ((((((((w.setCell ⟨g, 0, none⟩ u0).setCell ⟨g, 1, none⟩ u1).setCell ⟨g, 2, none⟩ u2).setCell ⟨g, 3, none⟩ u3).setCell ⟨g, 4, none⟩ u4).setCell ⟨g, 5, none⟩ u5).setCell ⟨g, 6, none⟩ u6).setCell ⟨g, 7, none⟩ u7).cell? ⟨g, j, none⟩ = #[u0, u1, u2, u3, u4, u5, u6, u7][j]? := by
  have k0 := h 0
  have k1 := h 1
  have k2 := h 2
  have k3 := h 3
  have k4 := h 4
  have k5 := h 5
  have k6 := h 6
  have k7 := h 7
  simp only [List.getElem?_toArray, List.getElem?_cons_succ, List.getElem?_cons_zero] at k0 k1 k2 k3 k4 k5 k6 k7
  match j with
  | 0 | 1 | 2 | 3 | 4 | 5 | 6 | 7 => simp [go_sem, *]
  | j + 8 =>
    have k := h (j + 8)
    simp [go_sem] at k ⊢
    exact k
theorem box8_below (w : World) (g : Nat) (u0 u1 u2 u3 u4 u5 u6 u7 : Value) : Below g w ((((((((w.setCell ⟨g, 0, none⟩ u0).setCell ⟨g, 1, none⟩ u1).setCell ⟨g, 2, none⟩ u2).setCell ⟨g, 3, none⟩ u3).setCell ⟨g, 4, none⟩ u4).setCell ⟨g, 5, none⟩ u5).setCell ⟨g, 6, none⟩ u6).setCell ⟨g, 7, none⟩ u7) := (((((((((Below.refl g w).setCell (p := ⟨g, 0, none⟩) (Nat.le_refl g) u0).setCell (p := ⟨g, 1, none⟩) (Nat.le_refl g) u1).setCell (p := ⟨g, 2, none⟩) (Nat.le_refl g) u2).setCell (p := ⟨g, 3, none⟩) (Nat.le_refl g) u3).setCell (p := ⟨g, 4, none⟩) (Nat.le_refl g) u4).setCell (p := ⟨g, 5, none⟩) (Nat.le_refl g) u5).setCell (p := ⟨g, 6, none⟩) (Nat.le_refl g) u6).setCell (p := ⟨g, 7, none⟩) (Nat.le_refl g) u7)
theorem box8_only {a : World} (w : World) {c g : Nat} (u0 u1 u2 u3 u4 u5 u6 u7 : Value) (h : a.grownBy w (some c)) (hb : a.heap.size ≤ g) : a.grownBy ((((((((w.setCell ⟨g, 0, none⟩ u0).setCell ⟨g, 1, none⟩ u1).setCell ⟨g, 2, none⟩ u2).setCell ⟨g, 3, none⟩ u3).setCell ⟨g, 4, none⟩ u4).setCell ⟨g, 5, none⟩ u5).setCell ⟨g, 6, none⟩ u6).setCell ⟨g, 7, none⟩ u7) (some c) := (only_new (o := 7) (u := u7) (only_new (o := 6) (u := u6) (only_new (o := 5) (u := u5) (only_new (o := 4) (u := u4) (only_new (o := 3) (u := u3) (only_new (o := 2) (u := u2) (only_new (o := 1) (u := u1) (only_new (o := 0) (u := u0) h hb) hb) hb) hb) hb) hb) hb) hb)
theorem box8_put5 (w : World) (g : Nat) (x0 x1 x2 x3 x4 x5 x6 x7 u : Value) (h : ∀ j, w.cell? ⟨g, j, none⟩ = #[x0, x1, x2, x3, x4, x5, x6, x7][j]?) (j : Nat) : (w.setCell ⟨g, 5, none⟩ u).cell? ⟨g, j, none⟩ = #[x0, x1, x2, x3, x4, u, x6, x7][j]? := by
  have k := h j
  have k5 := h 5
  simp only [List.getElem?_toArray, List.getElem?_cons_succ, List.getElem?_cons_zero] at k5
  match j with
  | 0 | 1 | 2 | 3 | 4 | 5 | 6 | 7 => simp [go_sem, *] at k ⊢; try assumption
  | j + 8 => simp [go_sem] at k ⊢; exact k
theorem box8_size (w : World) (g : Nat) (u0 u1 u2 u3 u4 u5 u6 u7 : Value) : ((((((((w.setCell ⟨g, 0, none⟩ u0).setCell ⟨g, 1, none⟩ u1).setCell ⟨g, 2, none⟩ u2).setCell ⟨g, 3, none⟩ u3).setCell ⟨g, 4, none⟩ u4).setCell ⟨g, 5, none⟩ u5).setCell ⟨g, 6, none⟩ u6).setCell ⟨g, 7, none⟩ u7).heap.size = w.heap.size := by simp
theorem box8_frozen (w : World) (g : Nat) (u0 u1 u2 u3 u4 u5 u6 u7 : Value) (x : Addr) : ((((((((w.setCell ⟨g, 0, none⟩ u0).setCell ⟨g, 1, none⟩ u1).setCell ⟨g, 2, none⟩ u2).setCell ⟨g, 3, none⟩ u3).setCell ⟨g, 4, none⟩ u4).setCell ⟨g, 5, none⟩ u5).setCell ⟨g, 6, none⟩ u6).setCell ⟨g, 7, none⟩ u7).frozen? x = w.frozen? x := by simp
set_option maxHeartbeats 8000000 in
set_option maxRecDepth 100000 in
theorem l37Game_any (c : Nat) (v : Value) (l : List Int) (w0 w : World) (hv : Rd EBy w0 v l) (hok : ∀ y ∈ l, ByOk y) (h0 : w0.heap.size ≤ c) (hbel : Below w0.heap.size w0 w) (hcur : CurAt w c v l.length) :
    Calls Try.prog 99 #[.pointer (some ⟨c, 0, none⟩)] w fun e w' => (∃ (a b o p q h u r : Int) (L : List Ln) (vL : Value), e = .returned (.agg #[.int .i64 a, .int .i64 b, .int .i64 o, .int .i64 p, .int .i64 q, vL, .int .i64 h, .int .i64 u]) ∧ puzzleOk a b o p q = true ∧ playTo false a b o p L = some r ∧ L.length ≤ 60 ∧ Own ELine w' w.heap.size vL L) ∧ CurAt w' c v l.length ∧ w.grownBy w' (some c) := by
  have HV := Lib.hid hv
  have HO := Lib.hid hok
  have HL := Lib.hid hbel
  have hcw := hcur.1
  have HC := Lib.hid hcur
  clear hv hok hbel hcur
  go_enter Try.func99, Try.ntmps99
  go_wp2_with fail
  obtain ⟨wA, hwA⟩ : ∃ wA : World, wA = w.alloc (.cells #[.int .i64 0, .int .i64 0, .int .i64 0, .int .i64 0, .int .i64 0, .slice none 0 0, .int .i64 0, .int .i64 0] 43) := ⟨_, rfl⟩
  have hb0 : Below w.heap.size w wA := by rw [hwA]; exact (Below.refl _ _).alloc (Nat.le_refl _) _
  have HRA : Hid ((∀ j, wA.cell? ⟨w.heap.size, j, none⟩ = #[Value.int .i64 0, .int .i64 0, .int .i64 0, .int .i64 0, .int .i64 0, .slice none 0 0, .int .i64 0, .int .i64 0][j]?) ∧ ∀ j, wA.frozen? ⟨w.heap.size, j, none⟩ = false) := ⟨fun j => by rw [hwA]; simp, fun j => by rw [hwA]; simp⟩
  have hzA : w.heap.size < wA.heap.size := by rw [hwA]; simp
  rw [← hwA]
  clear hwA
  refine (l26Puzzle_any c v l w0 wA HV.out HO.out h0 (HL.out.trans (hb0.mono (by omega))) (HC.out.keep hb0)).mono ?_
  rintro e w1 ⟨⟨a, b, o, p, q, rfl, hpz⟩, hcu1, hg1⟩
  have hz1 := hg1.size
  have HPZ := Lib.hid hpz
  have hb1 : Below w1.heap.size w1 (w1.alloc (.cells #[.int .i64 a, .int .i64 b, .int .i64 o, .int .i64 p, .int .i64 q] 29)) := (Below.refl _ _).alloc (Nat.le_refl _) _
  obtain ⟨w2, hw2⟩ : ∃ w2 : World, w2 = w1.alloc (.cells #[.int .i64 a, .int .i64 b, .int .i64 o, .int .i64 p, .int .i64 q] 29) := ⟨_, rfl⟩
  have hX2 : ∀ j, w2.cell? ⟨w1.heap.size, j, none⟩ = #[Value.int .i64 a, .int .i64 b, .int .i64 o, .int .i64 p, .int .i64 q][j]? := fun j => by rw [hw2]; simp
  have hz2 : w1.heap.size < w2.heap.size := by rw [hw2]; simp
  rw [← hw2] at hb1
  have HC2 := Lib.hid (hcu1.keep hb1)
  have HG2a := Lib.hid (only_trans hg1 (only_old (c := c) hb1))
  have HG2 := Lib.hid (only_trans (only_old (c := c) hb0) HG2a.out)
  have HL2 := Lib.hid (HL.out.trans ((only_below (Nat.le_of_lt hcw) HG2.out).mono h0))
  clear hpz hcu1 hg1 hb1 hb0
  go_wp2_with fail
  rw [← hw2]
  clear hw2
  have hc1 : c < w1.heap.size := by omega
  have hdr : Below w2.heap.size w2 w2.drew := (Below.refl _ _).drew
  have HPOST : Hid (∀ w4 : World, w2.grownBy w4 (some c) → (∀ j, w4.cell? ⟨w1.heap.size, j, none⟩ = #[Value.int .i64 a, .int .i64 b, .int .i64 o, .int .i64 p, .int .i64 q][j]?) ∧ Hid (w2.grownBy w4 (some c)) ∧ Hid (Below w0.heap.size w0 w4) ∧ w2.heap.size ≤ w4.heap.size) := fun w4 hg => ⟨fun j => (only_cell hg (by omega) (by omega)).trans (hX2 j), hg, HL2.out.trans ((only_below (by omega) hg).mono h0), hg.size⟩
  have HAL : Hid (∀ w4 : World, w2.grownBy w4 (some c) → ∀ j, (w4.alloc (.cells #[.int .i64 0, .int .i64 0, .int .i64 0, .int .i64 0, .int .i64 0, .slice none 0 0, .int .i64 0, .int .i64 0] 43)).cell? ⟨w1.heap.size, j, none⟩ = #[Value.int .i64 a, .int .i64 b, .int .i64 o, .int .i64 p, .int .i64 q][j]?) := fun w4 hg j => by
    have hsz := hg.size
    exact (((Below.refl w4.heap.size w4).alloc (Nat.le_refl _) (.cells #[.int .i64 0, .int .i64 0, .int .i64 0, .int .i64 0, .int .i64 0, .slice none 0 0, .int .i64 0, .int .i64 0] 43)).cell (p := ⟨w1.heap.size, j, none⟩) (show w1.heap.size < w4.heap.size by omega)).trans ((HPOST.out w4 hg).1 j)
  have HSEC : Hid (∀ w3, w2.grownBy w3 (some c) → CurAt w3 c v l.length → Calls Try.prog 117 #[.pointer (some ⟨c, 0, none⟩), .int .i64 3] w3 fun e w4 => (∃ x : Int, e = .returned (.int .i64 x) ∧ 0 ≤ x ∧ x < 3) ∧ Hid (CurAt w4 c v l.length) ∧ Hid (w3.grownBy w4 (some c)) ∧ Hid (w2.grownBy w4 (some c))) := fun w3 hg hc => by
    refine (l01Below_any c v l 3 (by omega) (by omega) w0 w3 HV.out HO.out h0 (HPOST.out w3 hg).2.2.1.out hc).mono ?_
    rintro e w4 ⟨⟨x, rfl, x0, x1⟩, hcu4, hg4⟩
    exact ⟨⟨x, rfl, x0, x1⟩, hcu4, hg4, only_trans hg hg4⟩
  have HSEB : Hid (∀ w3, w2.grownBy w3 (some c) → CurAt w3 c v l.length → Calls Try.prog 117 #[.pointer (some ⟨c, 0, none⟩), .int .i64 3] (w3.alloc (.cells #[.int .i64 0, .int .i64 0, .int .i64 0, .int .i64 0, .int .i64 0, .slice none 0 0, .int .i64 0, .int .i64 0] 43)) fun e w4 => (∃ x : Int, e = .returned (.int .i64 x) ∧ 0 ≤ x ∧ x < 3) ∧ Hid (CurAt w4 c v l.length) ∧ Hid (∀ j, w4.cell? ⟨w3.heap.size, j, none⟩ = #[Value.int .i64 0, .int .i64 0, .int .i64 0, .int .i64 0, .int .i64 0, .slice none 0 0, .int .i64 0, .int .i64 0][j]?) ∧ Hid (∀ j, w4.frozen? ⟨w3.heap.size, j, none⟩ = false) ∧ Hid (w2.grownBy w4 (some c)) ∧ w3.heap.size < w4.heap.size) := fun w3 hg hc => by
    have hbA : Below w3.heap.size w3 (w3.alloc (.cells #[.int .i64 0, .int .i64 0, .int .i64 0, .int .i64 0, .int .i64 0, .slice none 0 0, .int .i64 0, .int .i64 0] 43)) := (Below.refl _ _).alloc (Nat.le_refl _) _
    have hgA := only_trans hg (only_old (c := c) hbA)
    have hsz := hg.size
    have hzA : w3.heap.size < (w3.alloc (.cells #[.int .i64 0, .int .i64 0, .int .i64 0, .int .i64 0, .int .i64 0, .slice none 0 0, .int .i64 0, .int .i64 0] 43)).heap.size := by simp
    refine (HSEC.out _ hgA (hc.keep hbA)).mono ?_
    rintro e w4 ⟨⟨x, rfl, x0, x1⟩, hcu4, hg4, hg24⟩
    refine ⟨⟨x, rfl, x0, x1⟩, hcu4, fun j => ?_, fun j => ?_, hg24, Nat.lt_of_lt_of_le hzA hg4.out.size⟩
    · exact (only_cell hg4.out (by simp) (by simp; omega)).trans (by simp)
    · exact (only_frozen hg4.out (by simp) (by simp; omega)).trans (by simp)
  have HFIR : Hid (Calls Try.prog 117 #[.pointer (some ⟨c, 0, none⟩), .int .i64 3] (w2.alloc (.cells #[.int .i64 0, .int .i64 0, .int .i64 0, .int .i64 0, .int .i64 0, .slice none 0 0, .int .i64 0, .int .i64 0] 43)).drew fun e w4 => (∃ x : Int, e = .returned (.int .i64 x) ∧ 0 ≤ x ∧ x < 3) ∧ Hid (CurAt w4 c v l.length) ∧ Hid (∀ j, w4.cell? ⟨w2.heap.size, j, none⟩ = #[Value.int .i64 0, .int .i64 0, .int .i64 0, .int .i64 0, .int .i64 0, .slice none 0 0, .int .i64 0, .int .i64 0][j]?) ∧ Hid (∀ j, w4.frozen? ⟨w2.heap.size, j, none⟩ = false) ∧ Hid (w2.grownBy w4 (some c)) ∧ w2.heap.size < w4.heap.size) := by
    have hbA : Below w2.heap.size w2 (w2.alloc (.cells #[.int .i64 0, .int .i64 0, .int .i64 0, .int .i64 0, .int .i64 0, .slice none 0 0, .int .i64 0, .int .i64 0] 43)).drew := ((Below.refl _ _).alloc (Nat.le_refl _) _).drew
    have hgA := only_old (c := c) hbA
    have hzA : w2.heap.size < (w2.alloc (.cells #[.int .i64 0, .int .i64 0, .int .i64 0, .int .i64 0, .int .i64 0, .slice none 0 0, .int .i64 0, .int .i64 0] 43)).drew.heap.size := by simp
    refine (HSEC.out _ hgA (HC2.out.keep hbA)).mono ?_
    rintro e w4 ⟨⟨x, rfl, x0, x1⟩, hcu4, hg4, hg24⟩
    refine ⟨⟨x, rfl, x0, x1⟩, hcu4, fun j => ?_, fun j => ?_, hg24, Nat.lt_of_lt_of_le hzA hg4.out.size⟩
    · exact (only_cell hg4.out hzA (by omega)).trans (by simp)
    · exact (only_frozen hg4.out hzA (by omega)).trans (by simp)
  have HC2d := Lib.hid (HC2.out.keep hdr)
  have HG2d := Lib.hid (only_old (c := c) hdr)
  have hz2d : w2.drew.heap.size = w2.heap.size := by simp
  have HKC : Hid (∀ (w4 w5 : World) (g : Nat), w2.heap.size ≤ g → g < w4.heap.size → w4.grownBy w5 (some c) → (∀ j, w4.cell? ⟨g, j, none⟩ = #[Value.int .i64 0, .int .i64 0, .int .i64 0, .int .i64 0, .int .i64 0, .slice none 0 0, .int .i64 0, .int .i64 0][j]?) → (∀ j, w4.frozen? ⟨g, j, none⟩ = false) → (∀ j, w5.cell? ⟨g, j, none⟩ = #[Value.int .i64 0, .int .i64 0, .int .i64 0, .int .i64 0, .int .i64 0, .slice none 0 0, .int .i64 0, .int .i64 0][j]?) ∧ ∀ j, w5.frozen? ⟨g, j, none⟩ = false) := fun w4 w5 g h1 h2 h3 h4 h5 => ⟨fun j => (only_cell h3 (by omega) (by omega)).trans (h4 j), fun j => (only_frozen h3 (by omega) (by omega)).trans (h5 j)⟩
  have HRELa : Hid (∀ (w5 : World) (g : Nat) (x y : Int), w2.heap.size ≤ g → g < w5.heap.size → CurAt w5 c v l.length → w2.grownBy w5 (some c) → (∀ j, w5.cell? ⟨g, j, none⟩ = #[Value.int .i64 0, .int .i64 0, .int .i64 0, .int .i64 0, .int .i64 0, .slice none 0 0, .int .i64 0, .int .i64 0][j]?) → (∀ j, w5.frozen? ⟨g, j, none⟩ = false) → (∃ (g' : Nat) (h u : Int), Value.pointer (some ⟨g, 0, none⟩) = .pointer (some ⟨g', 0, none⟩) ∧ w2.heap.size ≤ g' ∧ g' < ((((((((w5.setCell ⟨g, 0, none⟩ (.int .i64 a)).setCell ⟨g, 1, none⟩ (.int .i64 b)).setCell ⟨g, 2, none⟩ (.int .i64 o)).setCell ⟨g, 3, none⟩ (.int .i64 p)).setCell ⟨g, 4, none⟩ (.int .i64 q)).setCell ⟨g, 5, none⟩ (.slice none 0 0)).setCell ⟨g, 6, none⟩ (.int .i64 x)).setCell ⟨g, 7, none⟩ (.int .i64 y)).heap.size ∧ Hid (∀ j, ((((((((w5.setCell ⟨g, 0, none⟩ (.int .i64 a)).setCell ⟨g, 1, none⟩ (.int .i64 b)).setCell ⟨g, 2, none⟩ (.int .i64 o)).setCell ⟨g, 3, none⟩ (.int .i64 p)).setCell ⟨g, 4, none⟩ (.int .i64 q)).setCell ⟨g, 5, none⟩ (.slice none 0 0)).setCell ⟨g, 6, none⟩ (.int .i64 x)).setCell ⟨g, 7, none⟩ (.int .i64 y)).cell? ⟨g', j, none⟩ = #[Value.int .i64 a, .int .i64 b, .int .i64 o, .int .i64 p, .int .i64 q, .slice none 0 0, .int .i64 h, .int .i64 u][j]?) ∧ Hid (∀ j, ((((((((w5.setCell ⟨g, 0, none⟩ (.int .i64 a)).setCell ⟨g, 1, none⟩ (.int .i64 b)).setCell ⟨g, 2, none⟩ (.int .i64 o)).setCell ⟨g, 3, none⟩ (.int .i64 p)).setCell ⟨g, 4, none⟩ (.int .i64 q)).setCell ⟨g, 5, none⟩ (.slice none 0 0)).setCell ⟨g, 6, none⟩ (.int .i64 x)).setCell ⟨g, 7, none⟩ (.int .i64 y)).frozen? ⟨g', j, none⟩ = false) ∧ Hid (CurAt ((((((((w5.setCell ⟨g, 0, none⟩ (.int .i64 a)).setCell ⟨g, 1, none⟩ (.int .i64 b)).setCell ⟨g, 2, none⟩ (.int .i64 o)).setCell ⟨g, 3, none⟩ (.int .i64 p)).setCell ⟨g, 4, none⟩ (.int .i64 q)).setCell ⟨g, 5, none⟩ (.slice none 0 0)).setCell ⟨g, 6, none⟩ (.int .i64 x)).setCell ⟨g, 7, none⟩ (.int .i64 y)) c v l.length) ∧ Hid (w2.grownBy ((((((((w5.setCell ⟨g, 0, none⟩ (.int .i64 a)).setCell ⟨g, 1, none⟩ (.int .i64 b)).setCell ⟨g, 2, none⟩ (.int .i64 o)).setCell ⟨g, 3, none⟩ (.int .i64 p)).setCell ⟨g, 4, none⟩ (.int .i64 q)).setCell ⟨g, 5, none⟩ (.slice none 0 0)).setCell ⟨g, 6, none⟩ (.int .i64 x)).setCell ⟨g, 7, none⟩ (.int .i64 y)) (some c)))) := fun w5 g x y h1 h2 h3 h4 h5 h6 => by
    have hsz := box8_size w5 g (.int .i64 a) (.int .i64 b) (.int .i64 o) (.int .i64 p) (.int .i64 q) (.slice none 0 0) (.int .i64 x) (.int .i64 y)
    exact ⟨g, x, y, rfl, h1, by rw [hsz]; exact h2, fun j => box8_set w5 g _ _ _ _ _ _ _ _ _ _ _ _ _ _ _ _ h5 j, fun j => (box8_frozen w5 g _ _ _ _ _ _ _ _ _).trans (h6 j), h3.keepB (B := g) (by omega) (Nat.le_of_eq hsz.symm) (box8_below w5 g _ _ _ _ _ _ _ _), box8_only w5 _ _ _ _ _ _ _ _ h4 h1⟩
  have HRELb : Hid (∀ (w5 : World) (x y : Int), CurAt w5 c v l.length → w2.grownBy w5 (some c) → (∃ (g' : Nat) (h u : Int), Value.pointer (some ⟨w5.heap.size, 0, none⟩) = .pointer (some ⟨g', 0, none⟩) ∧ w2.heap.size ≤ g' ∧ g' < (w5.alloc (.cells #[.int .i64 a, .int .i64 b, .int .i64 o, .int .i64 p, .int .i64 q, .slice none 0 0, .int .i64 x, .int .i64 y] 43)).heap.size ∧ Hid (∀ j, (w5.alloc (.cells #[.int .i64 a, .int .i64 b, .int .i64 o, .int .i64 p, .int .i64 q, .slice none 0 0, .int .i64 x, .int .i64 y] 43)).cell? ⟨g', j, none⟩ = #[Value.int .i64 a, .int .i64 b, .int .i64 o, .int .i64 p, .int .i64 q, .slice none 0 0, .int .i64 h, .int .i64 u][j]?) ∧ Hid (∀ j, (w5.alloc (.cells #[.int .i64 a, .int .i64 b, .int .i64 o, .int .i64 p, .int .i64 q, .slice none 0 0, .int .i64 x, .int .i64 y] 43)).frozen? ⟨g', j, none⟩ = false) ∧ Hid (CurAt (w5.alloc (.cells #[.int .i64 a, .int .i64 b, .int .i64 o, .int .i64 p, .int .i64 q, .slice none 0 0, .int .i64 x, .int .i64 y] 43)) c v l.length) ∧ Hid (w2.grownBy (w5.alloc (.cells #[.int .i64 a, .int .i64 b, .int .i64 o, .int .i64 p, .int .i64 q, .slice none 0 0, .int .i64 x, .int .i64 y] 43)) (some c)))) := fun w5 x y h3 h4 => by
    have hsz := h4.size
    exact ⟨w5.heap.size, x, y, rfl, hsz, by simp, fun j => by simp, fun j => by simp, h3.keep ((Below.refl _ _).alloc (Nat.le_refl _) _), only_alloc h4 _⟩
  go_cut [4] (fun t wx => ∃ (g : Nat) (h u : Int), t = .pointer (some ⟨g, 0, none⟩) ∧ w2.heap.size ≤ g ∧ g < wx.heap.size ∧ Hid (∀ j, wx.cell? ⟨g, j, none⟩ = #[Value.int .i64 a, .int .i64 b, .int .i64 o, .int .i64 p, .int .i64 q, .slice none 0 0, .int .i64 h, .int .i64 u][j]?) ∧ Hid (∀ j, wx.frozen? ⟨g, j, none⟩ = false) ∧ Hid (CurAt wx c v l.length) ∧ Hid (w2.grownBy wx (some c)))
  case first =>
    clear hdr
    go_region_with (first | (go_at_call 117; with_reducible refine (HSEC.out w2.drew HG2d.out HC2d.out).mono ?_; rintro e w4 ⟨⟨x, rfl, x0, x1⟩, HC4, -, HG4⟩; have hXA4 := HAL.out w4 HG4.out; have hz4 := HG4.out.size; have hX4 := (HPOST.out w4 HG4.out).1) | (go_at_call 117; with_reducible refine HFIR.out.mono ?_; rintro e w4 ⟨⟨x, rfl, x0, x1⟩, HC4, HB4, HF4, HG4, hy4⟩; have hz4 := HG4.out.size; have hX4 := (HPOST.out w4 HG4.out).1) | (go_at_call 117; with_reducible refine (HSEC.out w4 HG4.out HC4.out).mono ?_; rintro e w5 ⟨⟨y, rfl, y0, y1⟩, HC5, hg5, HG5⟩; have hz5 := HG5.out.size; have hX5 := (HPOST.out w5 HG5.out).1; have hBF := HKC.out w4 w5 w2.heap.size (Nat.le_refl _) hy4 hg5.out HB4.out HF4.out; obtain ⟨hB5, hF5⟩ := hBF; have hz45 := hg5.out.size; clear hg5) | (go_at_call 117; with_reducible refine (HSEB.out w4 HG4.out HC4.out).mono ?_; rintro e w5 ⟨⟨y, rfl, y0, y1⟩, HC5, HB5, HF5, HG5, hy5⟩; have hz5 := HG5.out.size; have hX5 := (HPOST.out w5 HG5.out).1; have hB5 := HB5.out; have hF5 := HF5.out) | (go_at_call 117; with_reducible refine (HSEC.out w4 HG4.out HC4.out).mono ?_; rintro e w5 ⟨⟨y, rfl, y0, y1⟩, HC5, hg5, HG5⟩; have hz5 := HG5.out.size; have hX5 := (HPOST.out w5 HG5.out).1; have hz45 := hg5.out.size; have hXA5 := HAL.out w5 HG5.out; clear hg5))
    all_goals (go_wp2_with fail; go_meet; case rel => (first | (with_reducible exact HRELb.out w5 x y HC5.out HG5.out) | (with_reducible exact HRELa.out w5 w4.heap.size x y (by omega) (by omega) HC5.out HG5.out hB5 hF5) | (with_reducible exact HRELa.out w5 w2.heap.size x y (Nat.le_refl _) (by omega) HC5.out HG5.out hB5 hF5)))
  obtain ⟨g, h, u, rfl, hg0, hg1, HGc, HGf, HCC, HGC⟩ := hcut
  obtain ⟨w3, rfl⟩ : ∃ w3 : World, w3 = wc := ⟨_, rfl⟩
  have hz3 := HGC.out.size
  have hX3 := (HPOST.out w3 HGC.out).1
  have HL3 := (HPOST.out w3 HGC.out).2.2.1
  have hcG := HGc.out
  have hfG := HGf.out
  clear HRELa HRELb HKC HFIR HSEB HAL HG2d HC2d
  have HB8 : Hid (∀ w', w2.grownBy w' (some c) → CurAt w' c v l.length → Calls Try.prog 117 #[.pointer (some ⟨c, 0, none⟩), .int .i64 8] w' fun e w4 => (∃ x : Int, e = .returned (.int .i64 x) ∧ 0 ≤ x ∧ x < 8) ∧ Hid (CurAt w4 c v l.length) ∧ Hid (w'.grownBy w4 (some c)) ∧ Hid (w2.grownBy w4 (some c))) := fun w' hg hc => by
    refine (l01Below_any c v l 8 (by omega) (by omega) w0 w' HV.out HO.out h0 (HPOST.out w' hg).2.2.1.out hc).mono ?_
    rintro e w4 ⟨⟨x, rfl, x0, x1⟩, hcu4, hg4⟩
    exact ⟨⟨x, rfl, x0, x1⟩, hcu4, hg4, only_trans hg hg4⟩
  have hdr3 : Below w3.heap.size w3 w3.drew := (Below.refl _ _).drew
  have HC3d := Lib.hid (HCC.out.keep hdr3)
  have HG3d := Lib.hid (only_trans HGC.out (only_old (c := c) hdr3))
  have hz3d : w3.drew.heap.size = w3.heap.size := by simp
  have hpos : posOk a b o p = true := by
    have h1 := HPZ.out
    simp only [puzzleOk, Bool.and_eq_true] at h1
    exact h1.1.2
  have HPL : Hid (∀ (w' : World) (n : Int), 0 ≤ n → n < 8 → w2.grownBy w' (some c) → CurAt w' c v l.length → Calls Try.prog 116 #[.pointer (some ⟨c, 0, none⟩), .agg #[.int .i64 a, .int .i64 b, .int .i64 o], .int .i64 p, .int .i64 n] w' fun e w5 => (∃ (r : Int) (L : List Ln) (ad : Option Addr) (cp : Nat), e = .returned (.slice ad L.length cp) ∧ playTo false a b o p L = some r ∧ L.length ≤ 7 ∧ Hid (Own ELine w5 w'.heap.size (.slice ad L.length cp) L)) ∧ Hid (CurAt w5 c v l.length) ∧ Hid (w'.grownBy w5 (some c)) ∧ Hid (w2.grownBy w5 (some c))) := fun w' n n0 n1 hg hc => by
    obtain ⟨m, rfl⟩ := Int.eq_ofNat_of_zero_le n0
    refine (l06Play_any a b o p m (by omega) hpos c v l w0 w' HV.out HO.out h0 (HPOST.out w' hg).2.2.1.out hc).mono ?_
    rintro e w5 ⟨⟨r, L, vL, rfl, k1, -, k2, k3⟩, hcu5, hg5⟩
    obtain ⟨ad, cp, rfl, -⟩ := k3.form
    exact ⟨⟨r, L, ad, cp, rfl, k1, by omega, k3⟩, hcu5, hg5, only_trans hg hg5⟩
  have HKG : Hid (∀ (w4 w5 : World), w3.drew.grownBy w4 (some c) → w4.grownBy w5 (some c) → ∀ j, w5.cell? ⟨g, j, none⟩ = #[Value.int .i64 a, .int .i64 b, .int .i64 o, .int .i64 p, .int .i64 q, .slice none 0 0, .int .i64 h, .int .i64 u][j]?) := fun w4 w5 h34 h45 j => by
    have := h34.size
    simp only [World.size_drew] at this
    exact (only_cell h45 (by omega) (by omega)).trans ((only_cell h34 (by simp only [World.size_drew]; omega) (by omega)).trans ((hdr3.cell (show g < w3.heap.size from hg1)).trans (hcG j)))
  have HKF : Hid (∀ (w4 w5 : World), w3.drew.grownBy w4 (some c) → w4.grownBy w5 (some c) → ∀ j, w5.frozen? ⟨g, j, none⟩ = false) := fun w4 w5 h34 h45 j => by
    have := h34.size
    simp only [World.size_drew] at this
    exact (only_frozen h45 (by omega) (by omega)).trans ((only_frozen h34 (by simp only [World.size_drew]; omega) (by omega)).trans ((hdr3.frozen (show g < w3.heap.size from hg1)).trans (hfG j)))
  go_upto_region 3 with fail
  have HREL3 : Hid (∀ (w5 : World) (r : Int) (L : List Ln) (ad : Option Addr) (cp : Nat) (B : Nat), g < w5.heap.size → w3.heap.size ≤ B → playTo false a b o p L = some r → L.length ≤ 7 → Own ELine w5 B (.slice ad L.length cp) L → (∀ j, w5.cell? ⟨g, j, none⟩ = #[Value.int .i64 a, .int .i64 b, .int .i64 o, .int .i64 p, .int .i64 q, .slice none 0 0, .int .i64 h, .int .i64 u][j]?) → (∀ j, w5.frozen? ⟨g, j, none⟩ = false) → CurAt w5 c v l.length → w2.grownBy w5 (some c) → (∃ (r' : Int) (L' : List Ln) (ad' : Option Addr) (cp' : Nat), playTo false a b o p L' = some r' ∧ L'.length ≤ 60 ∧ g < (w5.setCell ⟨g, 5, none⟩ (.slice ad L.length cp)).heap.size ∧ Hid (∀ j, (w5.setCell ⟨g, 5, none⟩ (.slice ad L.length cp)).cell? ⟨g, j, none⟩ = #[Value.int .i64 a, .int .i64 b, .int .i64 o, .int .i64 p, .int .i64 q, .slice ad' L'.length cp', .int .i64 h, .int .i64 u][j]?) ∧ Hid (∀ j, (w5.setCell ⟨g, 5, none⟩ (.slice ad L.length cp)).frozen? ⟨g, j, none⟩ = false) ∧ Hid (Own ELine (w5.setCell ⟨g, 5, none⟩ (.slice ad L.length cp)) w3.heap.size (.slice ad' L'.length cp') L') ∧ Hid (CurAt (w5.setCell ⟨g, 5, none⟩ (.slice ad L.length cp)) c v l.length) ∧ Hid (w2.grownBy (w5.setCell ⟨g, 5, none⟩ (.slice ad L.length cp)) (some c)))) := fun w5 r L ad cp B h1 hB h2 h3 h4 h5 h6 h7 h8 => by
    refine ⟨r, L, ad, cp, h2, by omega, by simpa using h1, fun j => box8_put5 w5 g _ _ _ _ _ _ _ _ _ h5 j, fun j => (World.frozen?_setCell _ _ _ _).trans (h6 j), (h4.setBelow (show g < B by omega) _).mono hB, h7.keepB (B := g) (by omega) (by simp) ((Below.refl g w5).setCell (p := ⟨g, 5, none⟩) (Nat.le_refl g) _), only_new h8 hg0⟩
  go_cut [] (fun wx => ∃ (r : Int) (L : List Ln) (ad : Option Addr) (cp : Nat), playTo false a b o p L = some r ∧ L.length ≤ 60 ∧ g < wx.heap.size ∧ Hid (∀ j, wx.cell? ⟨g, j, none⟩ = #[Value.int .i64 a, .int .i64 b, .int .i64 o, .int .i64 p, .int .i64 q, .slice ad L.length cp, .int .i64 h, .int .i64 u][j]?) ∧ Hid (∀ j, wx.frozen? ⟨g, j, none⟩ = false) ∧ Hid (Own ELine wx w3.heap.size (.slice ad L.length cp) L) ∧ Hid (CurAt wx c v l.length) ∧ Hid (w2.grownBy wx (some c)))
  case first =>
    clear hdr3
    go_region_with (first | (go_at_call 117; with_reducible refine (HB8.out w3.drew HG3d.out HC3d.out).mono ?_; rintro e w4 ⟨⟨x, rfl, x0, x1⟩, HC4, hg34, HG4⟩; have hz4 := hg34.out.size; have hX4 := (HPOST.out w4 HG4.out).1) | (go_at_call 116; with_reducible refine (HPL.out w4 x x0 x1 HG4.out HC4.out).mono ?_; rintro e w5 ⟨⟨r, L, ad, cp, rfl, hpl, hL7, HOL⟩, HC5, hg45, HG5⟩; have hz5 := hg45.out.size; have hG5 := HKG.out w4 w5 hg34.out hg45.out; have hF5 := HKF.out w4 w5 hg34.out hg45.out))
    all_goals (go_wp2_with fail; go_meet; case rel => exact HREL3.out w5 r L ad cp w4.heap.size (by omega) (by omega) hpl hL7 HOL.out hG5 hF5 HC5.out HG5.out)
  obtain ⟨r, L, ad, cp, hplay, hL60, hg1', HGc', HGf', HOL, HCC', HGC'⟩ := hcut
  obtain ⟨w6, rfl⟩ : ∃ w6 : World, w6 = wc := ⟨_, rfl⟩
  have hz6 := HGC'.out.size
  have hX6 := (HPOST.out w6 HGC'.out).1
  have hpz' := HPZ.out
  simp only [puzzleOk, Bool.and_eq_true] at hpz'
  have hp63 := (pos_lt hpz'.1.2).2
  have hq63 := (pos_lt hpz'.2).2
  have HWAY := Lib.hid (sWayTo_any a b o p q (by omega) (by omega))
  have HWF : Hid (reach a b o p q false = true → playTo false a b o p (wayTo a b o p q) = some q ∧ (wayTo a b o p q).length ≤ 49) := fun hr => by
    have h1 := wayRun_plays hpz'.1.1 hpz'.2 (pegs p) p hpz'.1.2 hr (Nat.le_refl _)
    have h2 := pegs_le p
    rw [wayTo, if_pos hr]
    exact ⟨h1.1, by omega⟩
  have HPL60 := Lib.hid hplay
  have hcG6 := HGc'.out
  have hfG6 := HGf'.out
  clear HKG HKF HREL3 HB8 HPL hpz' hpos hplay hcG hfG HGc HGf HCC HC3d HG3d hz3d
  go_wp2_with fail
  refine (HWAY.out w6).mono ?_
  rintro e w7 ⟨vW, rfl, hOW, hb7⟩
  have hz7 := hb7.size
  have HG7 := Lib.hid (only_trans HGC'.out (only_old (c := c) hb7))
  have HC7 := Lib.hid (HCC'.out.keep hb7)
  have hcG7 : ∀ j, w7.cell? ⟨g, j, none⟩ = #[Value.int .i64 a, .int .i64 b, .int .i64 o, .int .i64 p, .int .i64 q, .slice ad L.length cp, .int .i64 h, .int .i64 u][j]? := fun j => (hb7.cell (show g < w6.heap.size from hg1')).trans (hcG6 j)
  have hfG7 : ∀ j, w7.frozen? ⟨g, j, none⟩ = false := fun j => (hb7.frozen (show g < w6.heap.size from hg1')).trans (hfG6 j)
  have HOL7 := Lib.hid (HOL.out.keep hb7)
  obtain ⟨aW, cW, rfl, hlc, -⟩ := hOW.form
  have HOW := Lib.hid hOW
  have HL7 := (HPOST.out w7 HG7.out).2.2.1
  have hgz : g < w7.heap.size := by omega
  clear hOW hb7 hcG6 hfG6 HGc' HGf' HOL HWAY
  generalize reach a b o p q false = rb at *
  generalize wayTo a b o p q = W at *
  cases rb
  · clear HWF
    have HGw := Lib.hid (only_trans HG2.out HG7.out)
    have hRw : ∀ j, w7.cell? ⟨w.heap.size, j, none⟩ = #[Value.int .i64 0, .int .i64 0, .int .i64 0, .int .i64 0, .int .i64 0, .slice none 0 0, .int .i64 0, .int .i64 0][j]? := fun j => (only_cell (only_trans HG2a.out HG7.out) hzA (by omega)).trans (HRA.out.1 j)
    have hFw : ∀ j, w7.frozen? ⟨w.heap.size, j, none⟩ = false := fun j => (only_frozen (only_trans HG2a.out HG7.out) hzA (by omega)).trans (HRA.out.2 j)
    go_wp2_with fail
    refine bodyPost_ret (v := .agg #[.int .i64 a, .int .i64 b, .int .i64 o, .int .i64 p, .int .i64 q, .slice ad L.length cp, .int .i64 h, .int .i64 u]) (by simp [results, Try.results99, go_sem, *]) rfl ⟨⟨a, b, o, p, q, h, u, r, L, _, rfl, HPZ.out, HPL60.out, hL60, ?_⟩, ?_, ?_⟩
    · exact ((HOL7.out).only (c := w.heap.size) (only_set (only_set (only_set (only_set (only_set (only_set (only_set (only_set (only_refl _ w.heap.size))))))))) (by omega)).mono (by omega)
    · exact (HC7.out).keepB (B := w.heap.size) hcw (by simp) (box8_below _ _ _ _ _ _ _ _ _ _)
    · exact box8_only _ _ _ _ _ _ _ _ _ HGw.out (Nat.le_refl _)
  · obtain ⟨hWp, hW49⟩ := HWF.out rfl
    have HWP := Lib.hid hWp
    clear HWF hWp
    go_wp2_with fail
    refine (l01Once_any c v l 2 (by omega) (by omega) w0 w7 HV.out HO.out h0 HL7.out HC7.out).mono ?_
    rintro e w8 ⟨⟨x, rfl⟩, hcu8, hg8⟩
    have hz8 := hg8.size
    have HG8 := Lib.hid (only_trans HG7.out hg8)
    have HC8 := Lib.hid hcu8
    have hcG8 : ∀ j, w8.cell? ⟨g, j, none⟩ = #[Value.int .i64 a, .int .i64 b, .int .i64 o, .int .i64 p, .int .i64 q, .slice ad L.length cp, .int .i64 h, .int .i64 u][j]? := fun j => (only_cell hg8 hgz (by omega)).trans (hcG7 j)
    have hfG8 : ∀ j, w8.frozen? ⟨g, j, none⟩ = false := fun j => (only_frozen hg8 hgz (by omega)).trans (hfG7 j)
    have HOL8 := Lib.hid (HOL7.out.only hg8 (by omega))
    have HOW8 := Lib.hid (HOW.out.only hg8 (by omega))
    have HL8 := (HPOST.out w8 HG8.out).2.2.1
    clear hcu8 hg8 hcG7 hfG7 HC7 HOL7 HOW HL7
    cases x
    · skip
      have HGw := Lib.hid (only_trans HG2.out HG8.out)
      have hRw : ∀ j, w8.cell? ⟨w.heap.size, j, none⟩ = #[Value.int .i64 0, .int .i64 0, .int .i64 0, .int .i64 0, .int .i64 0, .slice none 0 0, .int .i64 0, .int .i64 0][j]? := fun j => (only_cell (only_trans HG2a.out HG8.out) hzA (by omega)).trans (HRA.out.1 j)
      have hFw : ∀ j, w8.frozen? ⟨w.heap.size, j, none⟩ = false := fun j => (only_frozen (only_trans HG2a.out HG8.out) hzA (by omega)).trans (HRA.out.2 j)
      go_wp2_with fail
      refine bodyPost_ret (v := .agg #[.int .i64 a, .int .i64 b, .int .i64 o, .int .i64 p, .int .i64 q, .slice ad L.length cp, .int .i64 h, .int .i64 u]) (by simp [results, Try.results99, go_sem, *]) rfl ⟨⟨a, b, o, p, q, h, u, r, L, _, rfl, HPZ.out, HPL60.out, hL60, ?_⟩, ?_, ?_⟩
      · exact ((HOL8.out).only (c := w.heap.size) (only_set (only_set (only_set (only_set (only_set (only_set (only_set (only_set (only_refl _ w.heap.size))))))))) (by omega)).mono (by omega)
      · exact (HC8.out).keepB (B := w.heap.size) hcw (by simp) (box8_below _ _ _ _ _ _ _ _ _ _)
      · exact box8_only _ _ _ _ _ _ _ _ _ HGw.out (Nat.le_refl _)
    · clear HOL8
      go_wp2_with fail
      refine (l01Below_any c v l ((W.length : Int) + 1) (by omega) (by omega) w0 w8 HV.out HO.out h0 HL8.out HC8.out).mono ?_
      rintro e w9 ⟨⟨x, rfl, x0, x1⟩, hcu9, hg9⟩
      obtain ⟨k, rfl⟩ : ∃ k : Nat, x = k := ⟨x.toNat, by omega⟩
      have hz9 := hg9.size
      have HG9 := Lib.hid (only_trans HG8.out hg9)
      have HC9 := Lib.hid hcu9
      have hcG9 : ∀ j, w9.cell? ⟨g, j, none⟩ = #[Value.int .i64 a, .int .i64 b, .int .i64 o, .int .i64 p, .int .i64 q, .slice ad L.length cp, .int .i64 h, .int .i64 u][j]? := fun j => (only_cell hg9 (by omega) (by omega)).trans (hcG8 j)
      have hfG9 : ∀ j, w9.frozen? ⟨g, j, none⟩ = false := fun j => (only_frozen hg9 (by omega) (by omega)).trans (hfG8 j)
      have hkW : k ≤ W.length := by omega
      have HOW9 := Lib.hid ((HOW8.out.only hg9 (by omega)).take k hkW)
      have hkl : (W.take k).length = k := by rw [List.length_take]; omega
      obtain ⟨r9, hr9⟩ := playTo_take HWP.out k
      have HR9 := Lib.hid hr9
      have HLK : Hid ((W.take k).length ≤ 60) := by show _ ≤ _; omega
      clear hcu9 hg9 hcG8 hfG8 HC8 HOW8 HL8 hkl hr9
      have hgw : g ≠ w.heap.size := by omega
      have HGw := Lib.hid (only_trans HG2.out HG9.out)
      have hRw : ∀ j, w9.cell? ⟨w.heap.size, j, none⟩ = #[Value.int .i64 0, .int .i64 0, .int .i64 0, .int .i64 0, .int .i64 0, .slice none 0 0, .int .i64 0, .int .i64 0][j]? := fun j => (only_cell (only_trans HG2a.out HG9.out) hzA (by omega)).trans (HRA.out.1 j)
      have hFw : ∀ j, w9.frozen? ⟨w.heap.size, j, none⟩ = false := fun j => (only_frozen (only_trans HG2a.out HG9.out) hzA (by omega)).trans (HRA.out.2 j)
      go_wp2_with fail
      refine bodyPost_ret (v := .agg #[.int .i64 a, .int .i64 b, .int .i64 o, .int .i64 p, .int .i64 q, .slice aW k cW, .int .i64 h, .int .i64 u]) (by simp [results, Try.results99, go_sem, *]) rfl ⟨⟨a, b, o, p, q, h, u, r9, (W.take k), _, rfl, HPZ.out, HR9.out, HLK.out, ?_⟩, ?_, ?_⟩
      · exact (((HOW9.out.setBelow (a := ⟨g, 5, none⟩) (show g < w6.heap.size by omega) (.slice aW k cW))).only (c := w.heap.size) (only_set (only_set (only_set (only_set (only_set (only_set (only_set (only_set (only_refl _ w.heap.size))))))))) (by omega)).mono (by omega)
      · exact ((HC9.out.keepB (B := g) (by omega) (by simp) ((Below.refl g w9).setCell (p := ⟨g, 5, none⟩) (Nat.le_refl g) (.slice aW k cW)))).keepB (B := w.heap.size) hcw (by simp) (box8_below _ _ _ _ _ _ _ _ _ _)
      · exact box8_only _ _ _ _ _ _ _ _ _ (only_new HGw.out (by omega)) (Nat.le_refl _)
end Go.Proofs.Ytfpofhkggojaoaa
