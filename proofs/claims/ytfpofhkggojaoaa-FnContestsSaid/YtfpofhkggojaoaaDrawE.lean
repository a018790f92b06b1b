/- DrawE: contract of the reference's drawn lists of entrants. Conditions: the code's form. -/
import Derived.Test.YtfpofhkggojaoaaDrawT
import Derived.Test.YtfpofhkggojaoaaMemE
import Derived.Test.YtfpofhkggojaoaaEntOk
import Derived.Test.YtfpofhkggojaoaaApp
import Derived.Deep.Cut
set_option linter.unusedVariables false
set_option linter.unusedSimpArgs false
namespace Peg
/-- what every drawn list is like so far -/
def EntInv (m : Nat) (es : List Ent) : Prop := ∀ i, i < es.length → (7 * (i : Int) + 1 ≤ (gD es Ent0 i).n ∧ (gD es Ent0 i).n ≤ 7 * (i : Int) + 7) ∧ (gD es Ent0 i).rs.length = m ∧ (gD es Ent0 i).rs.all okR = true
theorem EntInv.snoc {m : Nat} {es : List Ent} (h : EntInv m es) {n : Int} {R : List Rs} (h1 : 7 * (es.length : Int) + 1 ≤ n) (h2 : n ≤ 7 * (es.length : Int) + 7) (h3 : R.length = m) (h4 : R.all okR = true) : EntInv m (es ++ [⟨n, R⟩]) := by
  intro i hi
  rw [List.length_append, List.length_singleton] at hi
  by_cases e : i < es.length
  · have : gD (es ++ [⟨n, R⟩]) Ent0 i = gD es Ent0 i := by rw [gD_lt _ _ _ (by simp; omega), gD_lt _ _ _ e, List.getElem_append_left]
    rw [this]; exact h i e
  · obtain rfl : i = es.length := by omega
    have : gD (es ++ [⟨n, R⟩]) Ent0 es.length = ⟨n, R⟩ := by rw [gD_lt _ _ _ (by simp), List.getElem_append_right (Nat.le_refl _)]; simp
    rw [this]; exact ⟨⟨h1, h2⟩, h3, h4⟩
theorem EntInv.ok {m : Nat} {es : List Ent} (h : EntInv m es) (hm : 1 ≤ m ∧ m ≤ 5) (hl : 1 ≤ es.length ∧ es.length ≤ 5) : entsOk es = true := by
  simp only [entsOk, Bool.and_eq_true]
  refine ⟨inR_iff.2 (by omega), List.all_eq_true.2 fun i hi => ?_⟩
  have hi := List.mem_range.1 hi
  obtain ⟨h1, h2, h3⟩ := h i hi
  obtain ⟨_, h5, _⟩ := h 0 (by omega)
  simp only [entAt, entOk1, newNum, Bool.and_eq_true, beq_iff_eq]
  refine ⟨⟨⟨⟨inR_iff.2 (by omega), inR_iff.2 (by omega)⟩, by rw [h2, h5]⟩, h3⟩, List.all_eq_true.2 fun f hf => ?_⟩
  obtain ⟨j, hj, rfl⟩ := List.mem_iff_getElem.1 hf
  rw [List.length_take] at hj
  rw [List.getElem_take]
  obtain ⟨h6, _, _⟩ := h j (by omega)
  rw [gD_lt es Ent0 j (by omega)] at h6
  rw [bne_iff_ne]
  intro e
  rw [e] at h6
  omega
end Peg
namespace Go.Proofs.Ytfpofhkggojaoaa
open Go.ChangeShapes Go.WideShapes Go.ChangeAt Go.RowKit Peg Go.Sort
/-- a list of entrants of the calls' own, while it is drawn -/
def Drawn (w : World) (B : Nat) (v : Value) (es : List Ent) : Prop :=
  ∃ l : List En, Own EEn w B v l ∧ l.length = es.length ∧ (∀ k, v.ownBlock = some k → k < w.heap.size) ∧ ∀ i, i < es.length → (gD l En0 i).n = (gD es Ent0 i).n ∧ Own EResult w B (gD l En0 i).v (gD es Ent0 i).rs ∧ (gD l En0 i).v.ownBlock ≠ v.ownBlock
theorem Drawn.ents {w : World} {B : Nat} {v : Value} {es : List Ent} (h : Drawn w B v es) : OwnEnts w B v es := by
  obtain ⟨l, h1, h2, _, h4⟩ := h
  exact ⟨l, B, h1, Nat.le_refl _, fun _ _ => trivial, h2, fun i hi => ⟨(h4 i hi).1, (h4 i hi).2.1⟩⟩
theorem Drawn.only {w w' : World} {B c : Nat} {v : Value} {es : List Ent} (h : Drawn w B v es) (hg : w.grownBy w' (some c)) (hc : c < B) : Drawn w' B v es := by
  obtain ⟨l, h1, h2, h3, h4⟩ := h
  exact ⟨l, h1.only hg hc, h2, fun k hk => Nat.lt_of_lt_of_le (h3 k hk) hg.size, fun i hi => ⟨(h4 i hi).1, (h4 i hi).2.1.only hg hc, (h4 i hi).2.2⟩⟩
theorem drawn_snoc {wr w6 : World} {B s : Nat} {out v' : Value} {es : List Ent} {ll : List En} {n : Int} {R : List Rs} {aR : Option Addr} {cR : Nat} {tmp : Obj}
    (hll : ll.length = es.length) (hold : ∀ k, out.ownBlock = some k → k < s)
    (hes : ∀ i, i < es.length → (gD ll En0 i).n = (gD es Ent0 i).n ∧ Own EResult wr B (gD ll En0 i).v (gD es Ent0 i).rs ∧ (gD ll En0 i).v.ownBlock ≠ out.ownBlock)
    (hne : ∀ i, i < es.length → 0 < (gD es Ent0 i).rs.length) (hR : Own EResult wr (s + 1) (.slice aR R.length cR) R) (hRn : 0 < R.length) (hB : B ≤ s + 1)
    (hown6 : Own EEn w6 B v' (ll ++ [⟨n, aR, R.length, cR⟩])) (hg : (wr.alloc tmp).grownBy w6 out.ownBlock) (hob : v'.ownBlock = out.ownBlock ∨ v'.ownBlock = some (wr.alloc tmp).heap.size) :
    Drawn w6 B v' (es ++ [⟨n, R⟩]) := by
  have hal : Below wr.heap.size wr (wr.alloc tmp) := (Below.refl _ _).alloc (Nat.le_refl _) _
  have blk : ∀ {b : Nat} {u : Value} {rs : List Rs}, Own EResult wr b u rs → 0 < rs.length → ∀ k, u.ownBlock = some k → b ≤ k ∧ k < wr.heap.size := fun h h0 k hk => h.blockGe k (by rw [rowOf_ne h0]; exact hk)
  refine ⟨ll ++ [⟨n, aR, R.length, cR⟩], hown6, by simp [hll], fun k hk => (hown6.blockGe k (by rw [rowOf_ne (by simp)]; exact hk)).2, fun i hi => ?_⟩
  rw [List.length_append, List.length_singleton] at hi
  by_cases e : i < es.length
  · have e1 : gD (ll ++ [⟨n, aR, R.length, cR⟩]) En0 i = gD ll En0 i := by rw [gD_lt _ _ _ (by simp; omega), gD_lt _ _ _ (by omega), List.getElem_append_left]
    have e2 : gD (es ++ [⟨n, R⟩]) Ent0 i = gD es Ent0 i := by rw [gD_lt _ _ _ (by simp; omega), gD_lt _ _ _ e, List.getElem_append_left]
    rw [e1, e2]
    obtain ⟨h1, h2, h3⟩ := hes i e
    refine ⟨h1, (h2.keep hal).grown hg (.inl h3), ?_⟩
    rcases hob with h4 | h4
    · rw [h4]; exact h3
    · rw [h4]
      intro h5
      have := (blk h2 (hne i e) _ h5).2
      simp at this
      omega
  · obtain rfl : i = es.length := by omega
    have e1 : gD (ll ++ [⟨n, aR, R.length, cR⟩]) En0 es.length = ⟨n, aR, R.length, cR⟩ := by rw [gD_lt _ _ _ (by simp; omega), List.getElem_append_right (by omega)]; simp [hll]
    have e2 : gD (es ++ [⟨n, R⟩]) Ent0 es.length = ⟨n, R⟩ := by rw [gD_lt _ _ _ (by simp), List.getElem_append_right (Nat.le_refl _)]; simp
    rw [e1, e2]
    have h3 : (Value.slice aR R.length cR).ownBlock ≠ out.ownBlock := by
      intro h5
      cases h6 : out.ownBlock with
      | none =>
        rw [h6] at h5
        obtain ⟨a, cap, hv, hc⟩ := hR.resultG
        obtain ⟨b, rfl, _⟩ := hc.2 0 hRn
        simp only [Value.slice.injEq] at hv
        rw [hv.1] at h5
        simp [Value.ownBlock] at h5
      | some k =>
        rw [h6] at h5
        have h7 := (blk hR hRn k h5).1
        have h8 := hold k h6
        omega
    refine ⟨rfl, ((hR.keep hal).grown hg (.inl h3)).mono hB, ?_⟩
    rcases hob with h4 | h4
    · rw [h4]; exact h3
    · rw [h4]
      intro h5
      have := (blk hR hRn _ h5).2
      simp at this
      omega
def EntsAre (w : World) (B : Nat) (e : Ending) (w' : World) : Prop := ∃ (es : List Ent) (v : Value), e = .returned v ∧ OwnEnts w' B v es ∧ entsOk es = true ∧ es.length ≤ 5
set_option maxHeartbeats 8000000 in
set_option maxRecDepth 100000 in
theorem l32List_any (c : Nat) (v : Value) (l : List Int) (w0 w : World) (hv : Rd EBy w0 v l) (hok : ∀ y ∈ l, ByOk y) (h0 : w0.heap.size ≤ c) (hbel : Below w0.heap.size w0 w) (hcur : CurAt w c v l.length) :
    Calls Try.prog 134 #[.pointer (some ⟨c, 0, none⟩)] w fun e w' => EntsAre w w.heap.size e w' ∧ CurAt w' c v l.length ∧ w.grownBy w' (some c) := by
  have HV := Lib.hid hv
  have HO := Lib.hid hok
  have HL := Lib.hid hbel
  have hcw := hcur.1
  have HC := Lib.hid hcur
  clear hv hok hbel hcur
  go_enter Try.func134, Try.ntmps134
  have hb0 : Below w.heap.size w (w.alloc (.cells #[] 88)) := (Below.refl _ _).alloc (Nat.le_refl _) _
  go_wp2_with fail
  refine (l01Below_any c v l 5 (by omega) (by omega) w0 _ HV.out HO.out h0 (HL.out.trans (hb0.mono (by omega))) (HC.out.keep hb0)).mono ?_
  rintro e w1 ⟨⟨x, rfl, x0, x1⟩, hcu1, hg1⟩
  have hz1 := hg1.size
  simp only [World.size_alloc] at hz1
  obtain ⟨N, rfl⟩ : ∃ N : Nat, x = N := ⟨x.toNat, by omega⟩
  have HG1 := Lib.hid (only_trans (only_old hb0) hg1)
  have HC1 := Lib.hid hcu1
  have HL1 := Lib.hid (HL.out.trans ((only_below (Nat.le_of_lt hcw) HG1.out).mono h0))
  clear hcu1 hg1 hb0
  go_wp2_with fail
  refine (l01Below_any c v l 3 (by omega) (by omega) w0 _ HV.out HO.out h0 HL1.out HC1.out).mono ?_
  rintro e w2 ⟨⟨y, rfl, y0, y1⟩, hcu2, hg2⟩
  have hz2 := hg2.size
  obtain ⟨M, rfl⟩ : ∃ M : Nat, y = M := ⟨y.toNat, by omega⟩
  have HG2 := Lib.hid (only_trans HG1.out hg2)
  have HC2 := Lib.hid hcu2
  clear hcu2 hg2
  go_wp2_with fail
  go_loopw [3, 6] (fun out k wr => ∃ (es : List Ent), es.length ≤ 1 + N ∧ k = .int .i64 (es.length : Nat) ∧ Hid (Drawn wr w.heap.size out es) ∧ Hid (EntInv (1 + M) es) ∧ Hid (CurAt wr c v l.length) ∧ Hid (w.grownBy wr (some c))) (fun _ k _ => 1 + N - (intOf k).toNat)
  case atStart => exact ⟨[], by simp, rfl, by show Drawn _ _ _ _; exact ⟨[], Own.emptyAny _ _ _ _, rfl, fun k hk => by simp [Value.ownBlock] at hk; omega, fun i hi => by simp at hi⟩, by show EntInv _ _; exact fun i hi => by simp at hi, HC2, HG2⟩
  case round =>
    obtain ⟨es, hes, rfl, HD, HI, HCr, HGr⟩ := hrel
    have hzr := HGr.out.size
    by_cases hlt : es.length < 1 + N
    rotate_left
    · obtain ⟨ll, hown, hll, _⟩ := HD.out
      obtain ⟨ao, co, rfl, _⟩ := hown.form
      have hnl : 1 + N ≤ es.length := by omega
      clear hown
      go_wp2_with fail
      go_ret
      exact ⟨⟨es, _, rfl, HD.out.ents, HI.out.ok (by omega) (by omega), by omega⟩, HCr.out, HGr.out⟩
    · have HLr := Lib.hid (HL.out.trans ((only_below (Nat.le_of_lt hcw) HGr.out).mono h0))
      go_wp2_with fail
      refine (l01Below_any c v l 7 (by omega) (by omega) w0 _ HV.out HO.out h0 HLr.out HCr.out).mono ?_
      rintro e wI ⟨⟨z, rfl, z0, z1⟩, hcuI, hgI⟩
      have hzI := hgI.size
      have HCI := Lib.hid hcuI
      have HGI := Lib.hid (only_trans HGr.out hgI)
      have HDI := Lib.hid (HD.out.only hgI hcw)
      have hcI := hcuI.1
      clear hcuI hgI
      obtain ⟨n, hn⟩ : ∃ n : Int, n = 1 + (7 * (es.length : Int) + z) % 40 := ⟨_, rfl⟩
      have hn1 : 7 * (es.length : Int) + 1 ≤ n ∧ n ≤ 7 * (es.length : Int) + 7 := by omega
      have HN := Lib.hid hn
      clear hn
      go_wp2_with fail
      have hbE : Below wI.heap.size wI (wI.alloc (.cells #[.int .i64 n, .slice none 0 0] 88)) := (Below.refl _ _).alloc (Nat.le_refl _) _
      rw [← HN.out]
      go_loopw [8] (fun k wr => ∃ (j : Nat) (R : List Rs) (vr : Value), j ≤ 1 + M ∧ k = .int .i64 j ∧ wr.cell? ⟨wI.heap.size, 0, none⟩ = some (.int .i64 n) ∧ wr.cell? ⟨wI.heap.size, 1, none⟩ = some vr ∧ Hid (∀ j, wr.frozen? ⟨wI.heap.size, j, none⟩ = false) ∧ Hid (Own EResult wr (wI.heap.size + 1) vr R) ∧ Hid (R.length = j) ∧ Hid (R.all okR = true) ∧ Hid (CurAt wr c v l.length) ∧ Hid (wI.grownBy wr (some c)) ∧ wI.heap.size < wr.heap.size) (fun k _ => 1 + M - (intOf k).toNat)
      case atStart => exact ⟨0, [], .slice none 0 0, by omega, rfl, by simp, by simp, by show ∀ j, _; intro j; simp, by show Own _ _ _ _ _; exact Own.nil _ _ _, by show _ = _; rfl, by show _ = _; rfl, by show CurAt _ _ _ _; exact HCI.out.keep hbE, by show World.grownBy _ _ _; exact only_old hbE, by simp⟩
      case round =>
        obtain ⟨j, R, vr, hj, rfl, hc0, hc1, HF, HW, HRl, HRa, HCj, HGj, hzj⟩ := hrel
        obtain ⟨aR, cR, rfl, _, _⟩ := HW.out.resultG
        by_cases hjt : j < 1 + M
        · have HLj := Lib.hid (HL.out.trans ((only_below (Nat.le_of_lt hcw) (only_trans HGI.out HGj.out)).mono h0))
          have hjR : R.length ≤ 1048576 := by have := HRl.out; omega
          go_wp2_with fail
          refine (l31Result_any c v l w0 wr HV.out HO.out h0 HLj.out HCj.out).mono ?_
          rintro e w3 ⟨⟨r, rfl, hr⟩, hcu3, hg3⟩
          have hz3 := hg3.size
          have HR := Lib.hid hr.ok
          have HC3 := Lib.hid hcu3
          have HG3 := Lib.hid (only_trans HGj.out hg3)
          have hc30 := (only_cell (o := 0) hg3 hzj (by omega)).trans hc0
          have hc31 := (only_cell (o := 1) hg3 hzj (by omega)).trans hc1
          have HF3 := Lib.hid (fun j => (only_frozen (o := j) hg3 hzj (by omega)).trans (HF.out j))
          have hown3 := HW.out.only hg3 (show c < wI.heap.size + 1 by omega)
          have hza : wI.heap.size < w3.heap.size := by omega
          have hb3 : Below w3.heap.size w3 (w3.alloc (.cells #[.int .i64 r.l, .bool r.c, .int .i64 r.s, .int .i64 r.t] 56)) := (Below.refl _ _).alloc (Nat.le_refl _) _
          have HW3 := hown3.keep hb3
          have HC4 := Lib.hid (HC3.out.keep hb3)
          have HG4 := Lib.hid (only_trans HG3.out (only_old (c := c) hb3))
          have HF4 := Lib.hid (fun j => (hb3.frozen (p := ⟨wI.heap.size, j, none⟩) hza).trans (HF3.out j))
          have hc40 := (hb3.cell (p := ⟨wI.heap.size, 0, none⟩) hza).trans hc30
          have hc41 := (hb3.cell (p := ⟨wI.heap.size, 1, none⟩) hza).trans hc31
          have hz4 : (w3.alloc (.cells #[.int .i64 r.l, .bool r.c, .int .i64 r.s, .int .i64 r.t] 56)).heap.size = w3.heap.size + 1 := by simp
          clear hcu3 hg3 hc0 hc1 hown3 hr
          go_upto_region 12 with fail
          obtain ⟨w4, hw4⟩ : ∃ w4 : World, w4 = w3.alloc (.cells #[.int .i64 r.l, .bool r.c, .int .i64 r.s, .int .i64 r.t] 56) := ⟨_, rfl⟩
          have hr0 : ∀ j, w4.cell? ⟨w3.heap.size, j, none⟩ = #[Value.int .i64 r.l, .bool r.c, .int .i64 r.s, .int .i64 r.t][j]? := fun j => by rw [hw4]; simp
          rw [← hw4] at HW3 HC4 HG4 HF4 hc40 hc41 hz4
          rw [← hw4]
          clear hw4 hc30 hc31 hb3
          have hzb : w3.heap.size < w4.heap.size := by omega
          have hzc : wI.heap.size < w4.heap.size := by omega
          have HZ4 := Lib.hid hz4
          have hzd : w3.heap.size + 1 ≤ w4.heap.size := by omega
          have hzw4 : wI.heap.size + 1 ≤ w4.heap.size := by omega
          clear hz4
          have hf4 := HF4.out
          go_wp2_with (at_builtin; (refine append1 (E := EResult) (l := R) rfl rfl _ _ 86 rfl Try.underlying86 rfl HW3 r rfl (by omega) (by omega) ?_); intro v' w5 hown5 hb5 hg5; obtain ⟨a5, c5, rfl, _, _⟩ := hown5.resultG; have hc50 := (hb5.cell (p := ⟨wI.heap.size, 0, none⟩) (Nat.lt_succ_self _)).trans hc40; have hc51 := (hb5.cell (p := ⟨wI.heap.size, 1, none⟩) (Nat.lt_succ_self _)).trans hc41; have HF5 := Lib.hid (fun j => (hb5.frozen (p := ⟨wI.heap.size, j, none⟩) (Nat.lt_succ_self _)).trans (HF4.out j)); have hf5 := HF5.out; have hz5 := hb5.size)
          have hzE : wI.heap.size < w5.heap.size := by omega
          have hzE2 : wI.heap.size ≤ w5.heap.size := by omega
          go_roundw
          case rel => exact ⟨j + 1, R ++ [r], .slice a5 (R.length + 1) c5, by omega, by go_num, by simp [go_sem, *], by simp [go_sem, *], by show ∀ j, _; intro j; simp [go_sem, *], by show Own _ _ _ _ _; rw [show R.length + 1 = (R ++ [r]).length by simp]; exact hown5.only (only_set (only_refl w5 wI.heap.size)) (Nat.lt_succ_self _), by show _ = _; rw [List.length_append, HRl.out]; rfl, by show _ = _; rw [List.all_append, HRa.out]; simp [HR.out], by show CurAt _ _ _ _; exact (HC4.out.keepB (B := wI.heap.size + 1) (by omega) hz5 hb5).keepB (B := wI.heap.size) hcI (by simp) (by (repeat' first | (with_reducible exact Below.refl _ _) | (with_reducible refine Below.alloc ?_ ?_ _) | (with_reducible refine Below.drew ?_) | (with_reducible refine Below.setCell ?_ ?_ _) | (with_reducible refine below_via (by assumption) ?_ ?_) | go_size)), by show World.grownBy _ _ _; exact only_new (only_viaB hb5 (Nat.le_succ _) HG4.out) (Nat.le_refl _), by simp; omega⟩
          case measure => simp [intOf]; omega
        · obtain rfl : j = 1 + M := by omega
          have hRl := HRl.out
          have HDj := HDI.out.only HGj.out hcw
          obtain ⟨ll, ho, hll, _, hes'⟩ := HDj
          have HOB := Lib.hid (show ∀ k, _ → k < wI.heap.size from HDI.out.choose_spec.2.2.1)
          have HES := Lib.hid hes'
          have HLL := Lib.hid hll
          have hll5 : ll.length ≤ 1048576 := by omega
          have hho := ho.alloc (.cells #[.int .i64 n, .slice aR R.length cR] 88)
          have hsg := Own.single (E := EEn) ⟨n, aR, R.length, cR⟩ wr wr.heap.size (Nat.le_refl _)
          have hwr : w.heap.size ≤ wr.heap.size := by omega
          have hGW := Lib.hid (only_trans HGI.out HGj.out)
          clear ho hll hes' hRl
          go_wp2_with (at_builtin; (refine appendN (E := EEn) (l := ll) (l2 := [⟨n, aR, R.length, cR⟩]) rfl rfl _ _ 80 rfl Try.underlying80 rfl rfl hho hsg (by simp; omega) (by simp; omega) ?_); intro v' w6 hown6 hb6 hg6 hob6)
          have HDN := Lib.hid (drawn_snoc HLL.out HOB.out HES.out (fun i hi => by have := (HI.out i hi).2.1; omega) HW.out (by have := HRl.out; omega) (by omega) hown6 hg6 hob6)
          have HIN := Lib.hid (HI.out.snoc (n := n) (R := R) hn1.1 hn1.2 HRl.out HRa.out)
          have hb6' : Below w.heap.size wr w6 := ((Below.refl _ _).alloc hwr _).trans hb6
          have hz6 := hb6'.size
          clear hown6 hg6 hob6
          go_roundw
          case rel => exact ⟨es ++ [⟨n, R⟩], by simp; omega, by simp, HDN, HIN, by show CurAt _ _ _ _; exact HCj.out.keepB hcw hz6 hb6', by show World.grownBy _ _ _; exact only_viaB hb6' (Nat.le_refl _) hGW.out⟩
          case measure => simp [intOf]; omega
set_option maxRecDepth 100000 in
theorem DrawEntrants_any (v : Value) (l : List Int) (w : World) (hv : Rd EBy w v l) (hok : ∀ y ∈ l, ByOk y) (hl : l.length ≤ 1048576) :
    Calls Try.prog 49 #[v] w fun e w' => EntsAre w w.heap.size e w' ∧ Below w.heap.size w w' := by
  have HV := Lib.hid hv
  have HO := Lib.hid hok
  clear hv hok
  go_enter Try.func49, Try.ntmps49
  go_wp2_with fail
  refine (l01New_any v l _ HV.out HO.out hl).mono ?_
  rintro e w1 ⟨c, rfl, hc0, hcu, hb⟩
  have hz := hb.size
  have HB := Lib.hid hb
  have HC := Lib.hid hcu
  clear hb hcu
  go_wp2_with fail
  refine (l32List_any c v l w w1 HV.out HO.out hc0 HB.out HC.out).mono ?_
  rintro e w2 ⟨⟨es, v2, rfl, ho, hs, h5⟩, hcu2, hg⟩
  have hb2 := Lib.hid (HB.out.trans ((only_below (Nat.le_of_lt HC.out.1) hg).mono hc0))
  have HOE := Lib.hid ho
  have HS := Lib.hid hs
  clear hcu2 hg ho hs
  go_wp2_with fail
  go_ret
  exact ⟨⟨es, v2, rfl, HOE.out.mono hz, HS.out, h5⟩, hb2.out⟩
end Go.Proofs.Ytfpofhkggojaoaa
