/- ReadG2: contract of ReadGame. Conditions: the text's length in range, the search's cell. -/
import Derived.Test.YtkaojpcpfbbicaaDoorReadG1
import Derived.Test.YtkaojpcpfbbicaaDoorRead2
import Derived.Test.YtkaojpcpfbbicaaDoorGameT
import Derived.Test.YtkaojpcpfbbicaaDoorApp
import Derived.Deep.RegionWith
import Derived.Deep.DeepCutAuto
import Derived.Deep.Cut
import Derived.IntWalk
set_option linter.unusedVariables false
set_option linter.unusedSimpArgs false
namespace Go.Proofs.YtkaojpcpfbbicaaDoor
open Go.ChangeShapes Go.WideShapes Go.ChangeAt Go.RowKit Peg Go.Sort
/-- what a region of ReadGame reads: the board's box at X, two names at N -/
structure K0 (w8 : World) (X N : Nat) (a b o : Int) (k : Nat) (n0 n1 : ByteArray) (W : World) : Prop where
  box : ∀ j, W.cell? ⟨X, j, none⟩ = #[Value.int .i64 a, .int .i64 b, .int .i64 o][j]?
  m0 : W.cell? ⟨N, k, none⟩ = some (.string n0)
  m1 : W.cell? ⟨N, k + 1, none⟩ = some (.string n1)
  gX : X < W.heap.size
  gN : N < W.heap.size
  bel : Hid (Below w8.heap.size w8 W)
theorem K0.next {w8 W W' : World} {X N k : Nat} {a b o : Int} {n0 n1 : ByteArray} (h : K0 w8 X N a b o k n0 n1 W) (hb : Below W.heap.size W W') : K0 w8 X N a b o k n0 n1 W' :=
  ⟨fun j => (hb.cell (p := ⟨X, j, none⟩) h.gX).trans (h.box j), (hb.cell (p := ⟨N, k, none⟩) h.gN).trans h.m0, (hb.cell (p := ⟨N, k + 1, none⟩) h.gN).trans h.m1, Nat.lt_of_lt_of_le h.gX hb.size, Nat.lt_of_lt_of_le h.gN hb.size, h.bel.out.trans (hb.mono h.bel.out.size)⟩
theorem K0.drew {w8 W : World} {X N k : Nat} {a b o : Int} {n0 n1 : ByteArray} (h : K0 w8 X N a b o k n0 n1 W) : K0 w8 X N a b o k n0 n1 W.drew := h.next ((Below.refl _ _).drew)
theorem K0.alloc {w8 W : World} {X N k : Nat} {a b o : Int} {n0 n1 : ByteArray} (h : K0 w8 X N a b o k n0 n1 W) (ob : Obj) : K0 w8 X N a b o k n0 n1 (W.alloc ob) := h.next ((Below.refl _ _).alloc (Nat.le_refl _) _)
/-- a new box of a line at B -/
structure K1 (w8 : World) (B : Nat) (W : World) : Prop where
  cell : ∀ j, W.cell? ⟨B, j, none⟩ = #[Value.int .i64 0, .int .i64 0, .int .i64 0][j]?
  fro : ∀ j, W.frozen? ⟨B, j, none⟩ = false
  lt : B < W.heap.size
  le : w8.heap.size ≤ B
theorem K1.next {w8 W W' : World} {B : Nat} (h : K1 w8 B W) (hb : Below W.heap.size W W') : K1 w8 B W' :=
  ⟨fun j => (hb.cell (p := ⟨B, j, none⟩) h.lt).trans (h.cell j), fun j => (hb.frozen (p := ⟨B, j, none⟩) h.lt).trans (h.fro j), Nat.lt_of_lt_of_le h.lt hb.size, h.le⟩
theorem K1.drew {w8 W : World} {B : Nat} (h : K1 w8 B W) : K1 w8 B W.drew := h.next ((Below.refl _ _).drew)
theorem K1.made (w8 W : World) (h : w8.heap.size ≤ W.heap.size) : K1 w8 W.heap.size (W.alloc (.cells #[.int .i64 0, .int .i64 0, .int .i64 0] 31)) :=
  ⟨fun j => by simp, fun j => by simp, by simp, h⟩
theorem box3_put (w : World) (g : Nat) (x0 x1 x2 u0 u1 u2 : Value) (h : ∀ j, w.cell? ⟨g, j, none⟩ = #[x0, x1, x2][j]?) (j : Nat) : (((w.setCell ⟨g, 0, none⟩ u0).setCell ⟨g, 1, none⟩ u1).setCell ⟨g, 2, none⟩ u2).cell? ⟨g, j, none⟩ = #[u0, u1, u2][j]? := by
  have k0 := h 0
  have k1 := h 1
  have k2 := h 2
  simp only [List.getElem?_toArray, List.getElem?_cons_succ, List.getElem?_cons_zero] at k0 k1 k2
  match j with
  | 0 | 1 | 2 => simp [go_sem, *]
  | j + 3 =>
    have k := h (j + 3)
    simp [go_sem] at k ⊢
    exact k
set_option maxHeartbeats 4000000 in
set_option maxRecDepth 100000 in
theorem ReadGame_any (a b o : Int) (s : ByteArray) (hs : s.size ≤ 1048576) (w : World) (hm : MaxCell w) :
    Calls Tryd.prog 25 #[.agg #[.int .i64 a, .int .i64 b, .int .i64 o], .string s] w (RetRG w (readGI a b o s)) := by
  have HGI : Hid (readGI a b o s = if s.size = 0 ∨ 360 < s.size then none else match textJ (lbB a b o) (spl 32 s.data.toList) with
    | none => none
    | some L => if gameText a b o L = s then some L else none) := rfl
  by_cases h0 : s.size = 0 ∨ 360 < s.size
  · have HR : Hid (readGI a b o s = none) := by show _ = _; rw [HGI.out, if_pos h0]
    rw [HR.out]
    clear HR HGI hm
    rcases h0 with h0 | h0
    · obtain rfl : s = ⟨#[]⟩ := ba_ext (by
        have h3 : s.data.toList.length = 0 := by rw [Array.length_toList]; exact h0
        rw [List.eq_nil_of_length_eq_zero h3])
      go_enter Tryd.func25, Tryd.ntmps25
      go_wp2_with fail
      all_goals go_ret2
      all_goals exact ⟨_, rfl, Own.nil _ _ _, by (repeat' first | (with_reducible exact Below.refl _ _) | (with_reducible refine Below.alloc ?_ ?_ _) | (with_reducible refine Below.drew ?_) | (with_reducible refine Below.setCell ?_ ?_ _) | (with_reducible refine below_via (by assumption) ?_ ?_) | go_size)⟩
    · have hE1 : s.toList.isEmpty = false := by
        cases he : s.toList with
        | nil =>
          rw [Go.Lib.toList_data] at he
          have : s.size = 0 := by have := congrArg List.length he; rw [Array.length_toList] at this; exact this
          omega
        | cons x y => rfl
      have hd : decide ((360 : Int) < (s.size : Int)) = true := decide_eq_true (by omega)
      have hd2 : (360 : Int) < (s.size : Int) := by omega
      go_enter Tryd.func25, Tryd.ntmps25
      go_wp2_with fail
      all_goals go_ret2
      all_goals exact ⟨_, rfl, Own.nil _ _ _, by (repeat' first | (with_reducible exact Below.refl _ _) | (with_reducible refine Below.alloc ?_ ?_ _) | (with_reducible refine Below.drew ?_) | (with_reducible refine Below.setCell ?_ ?_ _) | (with_reducible refine below_via (by assumption) ?_ ?_) | go_size)⟩
  have h1 : s.size ≠ 0 := fun e => h0 (Or.inl e)
  have h2 : s.size ≤ 360 := by
    rcases Nat.lt_or_ge 360 s.size with h | h
    · exact absurd (Or.inr h) h0
    · exact h
  have HR : Hid (readGI a b o s = match textJ (lbB a b o) (spl 32 s.data.toList) with
    | none => none
    | some L => if gameText a b o L = s then some L else none) := by show _ = _; rw [HGI.out, if_neg h0]
  clear HGI h0
  have hE1 : s.toList.isEmpty = false := by
    cases he : s.toList with
    | nil =>
      rw [Go.Lib.toList_data] at he
      have : s.size = 0 := by have := congrArg List.length he; rw [Array.length_toList] at this; exact this
      omega
    | cons x y => rfl
  have hE2 : (s.toList == []) = false := by cases he : s.toList with
    | nil => rw [he] at hE1; cases hE1
    | cons x y => rfl
  have hd : decide ((360 : Int) < (s.size : Int)) = false := decide_eq_false (by omega)
  have hd2 : ¬ (360 : Int) < (s.size : Int) := by omega
  have HMX := Lib.hid hm
  have HSP : Hid (∀ c s W, s.size ≤ 1048576 → MaxCell W → Calls Tryd.prog 53 #[.string s, .string ⟨#[c]⟩] W (RetSplit W c s)) := fun c s W h hm => Split_any c s h W hm
  clear hm
  go_enter Tryd.func25, Tryd.ntmps25
  go_wp2_with fail
  have hbA : Below w.heap.size w ((w.alloc (.cells #[.int .i64 a, .int .i64 b, .int .i64 o] 29)).alloc (.cells #[] 31)) := ((Below.refl _ _).alloc (Nat.le_refl _) _).alloc (by simp) _
  refine (HSP.out 32 s _ hs (HMX.out.keep hbA)).mono ?_
  rintro e w1 ⟨WS, hWS, rfl, hWc, hWz, hb1⟩
  simp only [World.size_alloc] at hWc hWz hb1
  have HB1 := Lib.hid (hbA.trans (hb1.mono (by omega)))
  have hbx1 : ∀ j, w1.cell? ⟨w.heap.size, j, none⟩ = #[Value.int .i64 a, .int .i64 b, .int .i64 o][j]? := fun j => (hb1.cell (p := ⟨w.heap.size, j, none⟩) (by show w.heap.size < _; omega)).trans (by simp)
  have HWC := Lib.hid hWc
  have HWS := Lib.hid hWS
  have hwz1 : w.heap.size + 1 + 1 < w1.heap.size := hWz
  have HWL : Hid (∀ k, k < WS.length → gD (spl 32 s.data.toList) [] k = (gD WS ⟨#[]⟩ k).data.toList ∧ (gD WS ⟨#[]⟩ k).size ≤ 360) := fun k hk => by
    have e : gD (spl 32 s.data.toList) [] k = (gD WS ⟨#[]⟩ k).data.toList := by
      rw [← hWS, gD_lt _ _ _ (by simpa using hk), gD_lt _ _ _ hk]; simp
    refine ⟨e, ?_⟩
    have hm2 : gD (spl 32 s.data.toList) [] k ∈ spl 32 s.data.toList := gD_mem _ _ _ (by rw [← hWS]; simpa using hk)
    have h3 := spl_part 32 _ _ hm2
    rw [e, Array.length_toList, Array.length_toList] at h3
    exact Nat.le_trans h3 h2
  have hWlen : WS.length = (spl 32 s.data.toList).length := by rw [← hWS]; simp
  have hW361 : WS.length ≤ 361 := by
    rw [hWlen]
    have h3 := spl_count 32 s.data.toList
    rw [Array.length_toList] at h3
    exact Nat.le_trans h3 (by show s.size + 1 ≤ _; omega)
  have HTN := Lib.hid (fun i A => @textJ_next (lbB a b o) (spl 32 s.data.toList) i A)
  have HTF := Lib.hid (fun i A => @textJ_fail (lbB a b o) (spl 32 s.data.toList) i A)
  have HLB : Hid (∀ x y : ByteArray, lbB a b o x.data.toList y.data.toList = lineBetween a b o (named a b o x) (named a b o y)) := fun x y => by
    unfold lbB nmd
    rw [show (⟨x.data.toList.toArray⟩ : ByteArray) = x from ba_ext (by simp), show (⟨y.data.toList.toArray⟩ : ByteArray) = y from ba_ext (by simp)]
  rw [← hWlen] at HTN HTF
  have HT0 : Hid (textJ (lbB a b o) ((spl 32 s.data.toList).take 0) = some []) := by show _ = _; simp [textJ]
  have HTE : Hid ((spl 32 s.data.toList).take WS.length = spl 32 s.data.toList) := by show _ = _; rw [hWlen, List.take_length]
  clear hb1 hWc hWS hbA hWlen
  generalize spl 32 s.data.toList = SL at *
  go_wp2_with fail
  go_loopw [6, 24] (fun v i wr => ∃ (k : Nat) (A : List Ln), k ≤ WS.length ∧ i = .int .i64 k ∧ Hid (Own ELine wr w1.heap.size v A) ∧ A.length ≤ k * 361 ∧ Hid (textJ (lbB a b o) (SL.take k) = some A) ∧ Hid (∀ g, v.ownBlock = some g → g < wr.heap.size) ∧ Hid (Below w1.heap.size w1 wr)) (fun _ i _ => WS.length - (intOf i).toNat)
  case atStart => exact ⟨0, [], by omega, rfl, by show Own _ _ _ _ _; exact Own.emptyAny _ _ _ _, by simp, HT0, by show ∀ g, _ → _; intro g hg; simp [Value.ownBlock] at hg; omega, Below.refl _ _⟩
  case round =>
    obtain ⟨k, A, hk, rfl, HOW, hAl, HTX, HVB, HBr⟩ := hrel
    have hzr := HBr.out.size
    have hbxr : ∀ j, wr.cell? ⟨w.heap.size, j, none⟩ = #[Value.int .i64 a, .int .i64 b, .int .i64 o][j]? := fun j => (HBr.out.cell (p := ⟨w.heap.size, j, none⟩) (by show w.heap.size < _; omega)).trans (hbx1 j)
    have gXr : w.heap.size < wr.heap.size := by omega
    obtain ⟨aD, cD, rfl, -, -⟩ := HOW.out.lineG
    obtain ⟨wo, rfl⟩ : ∃ wo : World, wo = wr := ⟨_, rfl⟩
    by_cases hke : k < WS.length
    rotate_left
    · obtain rfl : k = WS.length := by omega
      have HVE : Hid (textJ (lbB a b o) SL = some A) := by show _ = _; have h := HTX.out; rwa [HTE.out] at h
      have HG1 := Lib.hid (GameText_any a b o A _ wo HOW.out)
      go_wp2_with fail
      refine HG1.out.mono ?_
      rintro e w5 ⟨rfl, hb5⟩
      by_cases hge : gameText a b o A = s
      · have HN1 : Hid (readGI a b o s = some A) := by show _ = _; rw [HR.out, HVE.out]; simp [hge]
        rw [hge]
        have HB5 := Lib.hid (HB1.out.trans ((HBr.out.trans (hb5.mono hzr)).mono (by omega)))
        have HO5 := Lib.hid (HOW.out.keep hb5)
        clear hb5 hge
        go_wp2_with fail
        all_goals go_ret2
        all_goals (unfold RetRG; rw [HN1.out]; exact ⟨_, rfl, HO5.out.mono (by omega), HB5.out⟩)
      · have HN1 : Hid (readGI a b o s = none) := by show _ = _; rw [HR.out, HVE.out]; simp [hge]
        have hne : ((gameText a b o A).toList == s.toList) = false := str_ne hge
        have HB5 := Lib.hid (HB1.out.trans ((HBr.out.trans (hb5.mono hzr)).mono (by omega)))
        clear hb5
        generalize gameText a b o A = gt at *
        go_wp2_with fail
        all_goals go_ret2
        all_goals (unfold RetRG; rw [HN1.out]; exact ⟨_, rfl, Own.nil _ _ _, HB5.out⟩)
    · have hwc : wo.cell? ⟨w.heap.size + 1 + 1, k, none⟩ = some (.string (gD WS ⟨#[]⟩ k)) := (HBr.out.cell (p := ⟨w.heap.size + 1 + 1, k, none⟩) (by show w.heap.size + 1 + 1 < _; omega)).trans (HWC.out k hke)
      have gWr : w.heap.size + 1 + 1 < wo.heap.size := by omega
      obtain ⟨HW1, hW2⟩ := HWL.out k hke
      have HWE := Lib.hid HW1
      clear HW1
      generalize gD WS ⟨#[]⟩ k = wd at *
      go_wp2_with fail
      refine (HSP.out 45 wd wo (by omega) (HMX.out.keep (HB1.out.trans (HBr.out.mono (by omega))))).mono ?_
      rintro e w2 ⟨NS, hNS, rfl, hNc, hNz, hb2⟩
      have HWJ : Hid (textJ (lbB a b o) (SL.take (k + 1)) = (wordJ (lbB a b o) (spl 45 wd.data.toList)).map (A ++ ·)) := by show _ = _; rw [HTN.out k A hke HTX.out, HWE.out]
      have HWF : Hid (wordJ (lbB a b o) (spl 45 wd.data.toList) = none → readGI a b o s = none) := fun h => by
        rw [HR.out, HTF.out k A hke HTX.out (by rw [HWE.out]; exact h)]
      have hNlen : NS.length = (spl 45 wd.data.toList).length := by rw [← hNS]; simp
      have hN361 : NS.length ≤ 361 := by
        rw [hNlen]
        have h3 := spl_count 45 wd.data.toList
        rw [Array.length_toList] at h3
        exact Nat.le_trans h3 (by show wd.size + 1 ≤ _; omega)
      have hN1 : 1 ≤ NS.length := by
        rw [hNlen]
        have := List.length_pos_iff.2 (spl_ne 45 wd.data.toList)
        omega
      have HNL : Hid (∀ k, k < NS.length → gD (spl 45 wd.data.toList) [] k = (gD NS ⟨#[]⟩ k).data.toList) := fun k hk => by
        rw [← hNS, gD_lt _ _ _ (by simpa using hk), gD_lt _ _ _ hk]; simp
      have HJN := Lib.hid (fun i B => @wordJ_next (lbB a b o) (spl 45 wd.data.toList) i B)
      have HJF := Lib.hid (fun i B => @wordJ_fail (lbB a b o) (spl 45 wd.data.toList) i B)
      rw [← hNlen] at HJN HJF
      have HJ1 : Hid (wordJ (lbB a b o) ((spl 45 wd.data.toList).take 1) = some []) := by
        show _ = _
        cases h : spl 45 wd.data.toList with
        | nil => rfl
        | cons x y => rfl
      have HJE : Hid ((spl 45 wd.data.toList).take NS.length = spl 45 wd.data.toList) := by show _ = _; rw [hNlen, List.take_length]
      have HB2 := Lib.hid (HBr.out.trans (hb2.mono hzr))
      have HNC := Lib.hid hNc
      have HO2 := Lib.hid (HOW.out.keep hb2)
      have HVB2 : Hid (∀ g, (Value.slice aD A.length cD).ownBlock = some g → g < wo.heap.size) := HVB.out
      have hz2 := hb2.size
      clear hb2 hNc hNS hNlen HVB
      generalize spl 45 wd.data.toList = NL at *
      go_wp2_with fail
      go_loopw [6, 10] (fun v i wx => ∃ (j : Nat) (B : List Ln), 1 ≤ j ∧ j ≤ NS.length ∧ i = .int .i64 j ∧ Hid (Own ELine wx w1.heap.size v (A ++ B)) ∧ B.length + 1 ≤ j ∧ Hid (wordJ (lbB a b o) (NL.take j) = some B) ∧ Hid (∀ g, v.ownBlock = some g → g < wx.heap.size ∧ g ≠ wo.heap.size) ∧ Hid (∀ i, i < NS.length → wx.cell? ⟨wo.heap.size, i, none⟩ = some (.string (gD NS ⟨#[]⟩ i))) ∧ wo.heap.size < wx.heap.size ∧ Hid (Below w1.heap.size w1 wx)) (fun _ i _ => NS.length - (intOf i).toNat)
      case atStart => exact ⟨1, [], by omega, hN1, rfl, by show Own _ _ _ _ _; rw [List.append_nil]; exact HO2.out, by simp, HJ1, by show ∀ g, _ → _; intro g hg; have := HVB2.out g hg; exact ⟨by omega, by omega⟩, HNC, hNz, HB2⟩
      case round =>
        obtain ⟨j, B, hj1, hj, rfl, HOX, hBl, HJX, HVX, HNX, hNx, HBx⟩ := hrel
        obtain ⟨aE, cE, rfl, -, -⟩ := HOX.out.lineG
        have hzx := HBx.out.size
        by_cases hje : j < NS.length
        rotate_left
        · obtain rfl : j = NS.length := by omega
          have HFX : Hid (textJ (lbB a b o) (SL.take (k + 1)) = some (A ++ B)) := by
            show _ = _
            rw [HWJ.out]
            have h := HJX.out
            rw [HJE.out] at h
            rw [h]; rfl
          go_wp2_with fail
          go_roundw
          case rel => exact ⟨k + 1, A ++ B, by omega, by go_num, HOX, by rw [List.length_append]; omega, HFX, fun g hg => (HVX.out g hg).1, HBx⟩
          case measure => simp [intOf]; omega
        · obtain ⟨m, hjm⟩ : ∃ m, j = m + 1 := ⟨j - 1, by omega⟩
          have hABl : (A ++ B).length ≤ 400000 := by rw [List.length_append]; have : k * 361 ≤ 361 * 361 := Nat.mul_le_mul_right _ (by omega); omega
          generalize hAB : A ++ B = AB at *
          have HAB := Lib.hid hAB
          clear hAB
          have hm1 : m < NS.length := by omega
          have HN0 := HNL.out m hm1
          have HN1' := HNL.out j hje
          have hc0 := HNX.out m hm1
          have hc1 := HNX.out j hje
          have HBW := Lib.hid (HB1.out.trans (HBx.out.mono (by omega)))
          have hbxx : ∀ j, wr.cell? ⟨w.heap.size, j, none⟩ = #[Value.int .i64 a, .int .i64 b, .int .i64 o][j]? := fun j => (HBx.out.cell (p := ⟨w.heap.size, j, none⟩) (by show w.heap.size < _; omega)).trans (hbx1 j)
          have gXx : w.heap.size < wr.heap.size := by omega
          have HFJ : Hid (lbB a b o (gD NL [] m) (gD NL [] j) = lineBetween a b o (named a b o (gD NS ⟨#[]⟩ m)) (named a b o (gD NS ⟨#[]⟩ j))) := by show _ = _; rw [HN0, HN1', HLB.out]
          clear HN0 HN1'
          have hi0 : (0 : Int) ≤ (m : Int) := by omega
          have hi1 : (m : Int) < (NS.length : Int) := by omega
          have hi2 : ¬ (m : Int) < 0 := by omega
          have hi3 : ¬ (NS.length : Int) ≤ (m : Int) := by omega
          have hi4 : (0 : Int) ≤ (j : Int) := by omega
          have hi5 : (j : Int) < (NS.length : Int) := by omega
          have hwr : IntKind.i64.wrap ((j : Int) - 1) = (m : Int) := by rw [IntWalk.i64_in _ (by omega)]; omega
          have hwr2 : IntKind.i64.wrap ((j : Int) + -1) = (m : Int) := by rw [IntWalk.i64_in _ (by omega)]; omega
          have HJM := Lib.hid hjm
          clear hjm
          generalize gD NS ⟨#[]⟩ m = n0 at *
          generalize gD NS ⟨#[]⟩ j = n1 at *
          obtain ⟨w8, rfl⟩ : ∃ w8 : World, w8 = wr := ⟨_, rfl⟩
          have HS : Hid (∀ W, Below w8.heap.size w8 W → Below w8.heap.size w8 W ∧ w8.heap.size ≤ W.heap.size ∧ W.cell? ⟨w.heap.size, 0, none⟩ = some (.int .i64 a) ∧ W.cell? ⟨w.heap.size, 1, none⟩ = some (.int .i64 b) ∧ W.cell? ⟨w.heap.size, 2, none⟩ = some (.int .i64 o) ∧ W.cell? ⟨wo.heap.size, m, none⟩ = some (.string n0) ∧ W.cell? ⟨wo.heap.size, j, none⟩ = some (.string n1)) := fun W hb =>
            ⟨hb, hb.size, (hb.cell (p := ⟨w.heap.size, 0, none⟩) gXx).trans (hbxx 0), (hb.cell (p := ⟨w.heap.size, 1, none⟩) gXx).trans (hbxx 1), (hb.cell (p := ⟨w.heap.size, 2, none⟩) gXx).trans (hbxx 2), (hb.cell (p := ⟨wo.heap.size, m, none⟩) hNx).trans hc0, (hb.cell (p := ⟨wo.heap.size, j, none⟩) hNx).trans hc1⟩
          have HN : Hid (∀ n W, Below w8.heap.size w8 W → Calls Tryd.prog 52 #[.agg #[.int .i64 a, .int .i64 b, .int .i64 o], .string n] W fun e w' => e = .returned (.int .i64 (named a b o n)) ∧ Hid (Below w8.heap.size w8 w') ∧ ∀ B, K1 w8 B W → K1 w8 B w') := fun n W hk => (holeNamed_any a b o n W).mono fun e w' ⟨he, hb⟩ => ⟨he, hk.trans (hb.mono hk.size), fun B h => h.next hb⟩
          have HL : Hid (∀ f t W, Below w8.heap.size w8 W → Calls Tryd.prog 51 #[.agg #[.int .i64 a, .int .i64 b, .int .i64 o], .int .i64 f, .int .i64 t] W fun e w' => e = .returned (.tuple #[.agg #[.int .i64 ((lineBetween a b o f t).getD Ln0).f, .int .i64 ((lineBetween a b o f t).getD Ln0).o, .int .i64 ((lineBetween a b o f t).getD Ln0).t], .bool (lineBetween a b o f t).isSome]) ∧ Hid (Below w8.heap.size w8 w') ∧ ∀ B, K1 w8 B W → K1 w8 B w') := fun f t W hk => by
            have h := LineBetween_any a b o f t W
            simp only [optLn] at h
            exact h.mono fun e w' ⟨he, hb⟩ => ⟨he, hk.trans (hb.mono hk.size), fun B h => h.next hb⟩
          clear hc0 hc1 hbxx
          generalize named a b o = nm at *
          generalize hlb : lineBetween a b o = lb at *
          clear hlb
          generalize hr : lb (nm n0) (nm n1) = r at *
          go_upto_region 11 with fail
          go_cut [11, 12] (fun p t wx => ∃ B : Nat, p = .pointer (some ⟨B, 0, none⟩) ∧ t = .bool r.isSome ∧ w8.heap.size ≤ B ∧ B < wx.heap.size ∧ Hid (∀ j, wx.cell? ⟨B, j, none⟩ = #[Value.int .i64 (r.getD Ln0).f, .int .i64 (r.getD Ln0).o, .int .i64 (r.getD Ln0).t][j]?) ∧ Hid (Below w8.heap.size w8 wx))
          case first =>
            have HD8 : Hid (Below w8.heap.size w8 w8.drew) := (Below.refl _ _).drew
            have HA8 : Hid (Below w8.heap.size w8 (w8.alloc (.cells #[.int .i64 0, .int .i64 0, .int .i64 0] 31)).drew) := ((Below.refl _ _).alloc (Nat.le_refl _) _).drew
            go_region_held3 (fun W : World => Below w8.heap.size w8 W ∧ w8.heap.size ≤ W.heap.size ∧ W.cell? ⟨w.heap.size, 0, none⟩ = some (.int .i64 a) ∧ W.cell? ⟨w.heap.size, 1, none⟩ = some (.int .i64 b) ∧ W.cell? ⟨w.heap.size, 2, none⟩ = some (.int .i64 o) ∧ W.cell? ⟨wo.heap.size, m, none⟩ = some (.string n0) ∧ W.cell? ⟨wo.heap.size, j, none⟩ = some (.string n1)) ((exact HS.out _ (by (repeat' first | exact HB11.out | exact HB10.out | exact HB9.out | exact Below.refl _ _ | exact e11 | (with_reducible refine Below.drew ?_) | (with_reducible refine Below.alloc ?_ ?_ _) | (with_reducible refine Below.setCell ?_ ?_ _) | exact Nat.le_refl _ | exact HB11.out.size | exact HB10.out.size | exact HB9.out.size)))) ((first
              | (go_at_call 52; with_reducible refine (HN.out n0 w8.drew HD8.out).mono ?_; rintro e w9 ⟨rfl, HB9, K9⟩)
              | (go_at_call 52; with_reducible refine (HN.out n0 (w8.alloc (.cells #[.int .i64 0, .int .i64 0, .int .i64 0] 31)).drew HA8.out).mono ?_; rintro e w9 ⟨rfl, HB9, K9⟩; have z9 := Lib.hid (K9 _ (K1.made w8 w8 (Nat.le_refl _)).drew))
              | (go_at_call 52; with_reducible refine (HN.out n1 w9 HB9.out).mono ?_; rintro e w10 ⟨rfl, HB10, K10⟩; (try have z10 := Lib.hid (K10 _ z9.out)))
              | (go_at_call 52; with_reducible refine (HN.out n1 (w9.alloc (.cells #[.int .i64 0, .int .i64 0, .int .i64 0] 31)) (HB9.out.alloc HB9.out.size _)).mono ?_; rintro e w10 ⟨rfl, HB10, K10⟩; have z10 := Lib.hid (K10 _ (K1.made w8 w9 HB9.out.size)))
              | (go_at_call 51; with_reducible refine (HL.out (nm n0) (nm n1) w10 HB10.out).mono ?_; rintro e w11 ⟨rfl, HB11, K11⟩; (try (have z11 := K11 _ z10.out; obtain ⟨c11, f11, l11, e11⟩ := z11)))
              | (go_at_call 51; with_reducible refine (HL.out (nm n0) (nm n1) (w10.alloc (.cells #[.int .i64 0, .int .i64 0, .int .i64 0] 31)) (HB10.out.alloc HB10.out.size _)).mono ?_; rintro e w11 ⟨rfl, HB11, K11⟩; have z11 := K11 _ (K1.made w8 w10 HB10.out.size); obtain ⟨c11, f11, l11, e11⟩ := z11)))
            all_goals (go_wp2_with fail; go_meet; case rel => first | (exact ⟨w11.heap.size, rfl, rfl, HB11.out.size, by simp, fun j => by simp, HB11.out.alloc HB11.out.size _⟩) | (exact ⟨_, rfl, rfl, e11, by simpa using l11, box3_put _ _ _ _ _ _ _ _ c11, ((HB11.out.setCell e11 _).setCell e11 _).setCell e11 _⟩))
          obtain ⟨Bx, rfl, rfl, hBx8, hBxc, hY, hbc⟩ := hcut
          obtain ⟨w12, rfl⟩ : ∃ w12 : World, w12 = wc := ⟨_, rfl⟩
          have hz12 := hbc.out.size
          have HB12 := Lib.hid (HBx.out.trans (hbc.out.mono hzx))
          have hY12 := hY.out
          have hlt12 : w.heap.size < w12.heap.size := by omega
          clear HN HL HS
          have hjm1 : j - 1 = m := by have := HJM.out; omega
          cases r with
          | none =>
            have HN1 : Hid (readGI a b o s = none) := HWF.out (HJF.out j B hj1 hje HJX.out (by rw [hjm1]; exact HFJ.out))
            have HBW12 := Lib.hid (HBW.out.trans (hbc.out.mono (by omega)))
            clear hY hY12 hr
            go_wp2_with fail
            all_goals go_ret2
            all_goals (unfold RetRG; rw [HN1.out]; exact ⟨_, rfl, Own.nil _ _ _, HBW12.out⟩)
          | some l =>
            have HJ2 : Hid (wordJ (lbB a b o) (NL.take (j + 1)) = some (B ++ [l])) := by
              show _ = _
              rw [HJN.out j B hj1 hje HJX.out, hjm1, HFJ.out]; rfl
            have hl : (some l : Option Ln).getD Ln0 = l := rfl
            rw [hl] at hY12
            have hown12 := HOX.out.keep hbc.out
            have HNX12 : Hid (∀ i, i < NS.length → w12.cell? ⟨wo.heap.size, i, none⟩ = some (.string (gD NS ⟨#[]⟩ i))) := fun i hi => (hbc.out.cell (p := ⟨wo.heap.size, i, none⟩) hNx).trans (HNX.out i hi)
            have HV12 : Hid (∀ g, (Value.slice aE AB.length cE).ownBlock = some g → g < w12.heap.size ∧ g ≠ wo.heap.size) := fun g hg => ⟨by have := (HVX.out g hg).1; omega, (HVX.out g hg).2⟩
            have hw1le : w1.heap.size ≤ w12.heap.size := by omega
            have hNx12 : wo.heap.size < w12.heap.size := by omega
            clear hY hr hl hjm1
            have hsing := Own.single (E := ELine) l w12 w12.heap.size (Nat.le_refl _)
            have hownA := hown12.alloc (.cells (ELine.enc l).toArray ELine.e)
            go_wp2_with (at_builtin; (refine appendN (E := ELine) (l := AB) (l2 := [l]) rfl rfl _ _ 37 rfl Tryd.underlying37 rfl rfl hownA hsing (by simp; omega) (by simp only [World.size_alloc]; omega) ?_); intro v' w13 hown13 hb13 hg13 hv13)
            have hG : World.grownBy (w12.alloc (.cells (ELine.enc l).toArray ELine.e)) w13 (Value.slice aE AB.length cE).ownBlock := hg13
            have hV : v'.ownBlock = (Value.slice aE AB.length cE).ownBlock ∨ v'.ownBlock = some (w12.alloc (.cells (ELine.enc l).toArray ELine.e)).heap.size := hv13
            have hz13 : w12.heap.size + 1 ≤ w13.heap.size := by have h := hb13.size; rw [World.size_alloc] at h; exact h
            clear hg13 hv13
            have HVN : Hid (∀ g, v'.ownBlock = some g → g < w13.heap.size ∧ g ≠ wo.heap.size) := fun g hg => by
              obtain ⟨a', c', hv', _, hgl⟩ := hown13.lineG
              obtain ⟨b', hb', _, hlt', _⟩ := hgl AB.length (by simp)
              have hgb : g = b' := by
                have h := hg
                rw [hv', hb'] at h
                simp [Value.ownBlock] at h
                exact h.symm
              refine ⟨by omega, ?_⟩
              rcases hV with h | h
              · rw [h] at hg; exact (HV12.out g hg).2
              · rw [h, World.size_alloc] at hg
                have := Option.some.inj hg
                omega
            have HNX13 : Hid (∀ i, i < NS.length → w13.cell? ⟨wo.heap.size, i, none⟩ = some (.string (gD NS ⟨#[]⟩ i))) := fun i hi => by
              have h1 : (w12.alloc (.cells (ELine.enc l).toArray ELine.e)).cell? ⟨wo.heap.size, i, none⟩ = w12.cell? ⟨wo.heap.size, i, none⟩ := ((Below.refl w12.heap.size w12).alloc (Nat.le_refl _) _).cell (p := ⟨wo.heap.size, i, none⟩) hNx12
              refine (World.cell?_of_block (hG.block wo.heap.size (by rw [World.size_alloc]; omega) (fun e => ?_))).trans (h1.trans (HNX12.out i hi))
              first | exact (HV12.out _ e).2 rfl | exact (HV12.out _ e.symm).2 rfl
            have HB13 : Hid (Below w1.heap.size w1 w13) := (HB12.out.alloc hw1le _).trans hb13
            have HOW13 : Hid (Own ELine w13 w1.heap.size v' (A ++ (B ++ [l]))) := by show Own _ _ _ _ _; rw [← List.append_assoc, HAB.out]; exact hown13
            have hBl2 : (B ++ [l]).length + 1 ≤ j + 1 := by rw [List.length_append]; simp; omega
            exact ⟨⟨j + 1, B ++ [l], by omega, by omega, by go_num, HOW13, hBl2, HJ2, HVN, HNX13, by omega, HB13⟩, by simp [intOf] <;> omega⟩
end Go.Proofs.YtkaojpcpfbbicaaDoor
