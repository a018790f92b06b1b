/- ArgE: contracts of the laws' own loops over slices of entrants. Conditions: lengths in range. -/
import Derived.Test.YtikmacjeeaklmaaMemE
set_option linter.unusedVariables false
set_option linter.unusedSimpArgs false
namespace Peg
def szGo : Int → List Ent → Int
  | left, [] => left
  | left, e :: r => if (e.rs.length : Int) ≤ left then szGo (left - e.rs.length) r else -1
def szEnts (left : Int) (es : List Ent) : Int := if (es.length : Int) ≤ left then szGo (left - es.length) es else -1
theorem szGo_ok : ∀ (es : List Ent) (left : Int), 0 ≤ left → 0 ≤ szGo left es → ∀ e ∈ es, (e.rs.length : Int) ≤ left := by
  intro es
  induction es with
  | nil => intro left _ _ e he; simp at he
  | cons x r ih =>
    intro left h0 h e he
    simp only [szGo] at h
    split at h
    · rcases List.mem_cons.1 he with rfl | he
      · assumption
      · have := ih _ (by omega) h e he; omega
    · omega
theorem szEnts_ok {es : List Ent} {left : Int} (h0 : 0 ≤ left) (h : 0 ≤ szEnts left es) : (es.length : Int) ≤ left ∧ ∀ e ∈ es, (e.rs.length : Int) ≤ left := by
  unfold szEnts at h
  split at h
  · rename_i h1
    refine ⟨h1, fun e he => ?_⟩
    have := szGo_ok es _ (by omega) h e he
    omega
  · omega
theorem szGo_drop {es : List Ent} {left : Int} {k : Nat} (h : k < es.length) : szGo left (es.drop k) = if ((gD es Ent0 k).rs.length : Int) ≤ left then szGo (left - (gD es Ent0 k).rs.length) (es.drop (k + 1)) else -1 := by
  rw [List.drop_eq_getElem_cons h, gD_lt es Ent0 k h]; rfl
end Peg
namespace Go.Proofs.Ytikmacjeeaklmaa
open Go.ChangeShapes Go.WideShapes Go.ChangeAt Go.RowKit Peg Go.Sort
set_option maxRecDepth 100000 in
theorem szEntrantS_any (v : Value) (es : List Ent) (left : Int) (h0 : 0 ≤ left) (h1 : left ≤ 1048576) (w : World) (hv : RdEnts w v es) :
    Calls Try.prog 37 #[v, .int .i64 left] w fun en w' => en = .returned (.int .i64 (szEnts left es)) ∧ Below w.heap.size w w' := by
  obtain ⟨a, cap, rfl, hl, hget⟩ := hv.get
  have HG := Lib.hid hget
  clear hget hv
  by_cases h : (es.length : Int) ≤ left
  rotate_left
  · have HE : Hid (szEnts left es = -1) := by show _ = _; simp [szEnts, h]
    go_enter Try.func37, Try.ntmps37
    go_wp2_with fail
    all_goals go_ret
    all_goals exact ⟨by simp [HE.out], Below.refl _ _⟩
  have HE : Hid (szEnts left es = szGo (left - es.length) es) := by show _ = _; simp [szEnts, h]
  go_enter Try.func37, Try.ntmps37
  go_wp2_with fail
  go_loopw [1, 5] (fun lf i wr => ∃ (k : Nat) (t : Int), k ≤ es.length ∧ i = .int .i64 k ∧ lf = .int .i64 t ∧ 0 ≤ t ∧ t ≤ 1048576 ∧ Hid (szGo t (es.drop k) = szGo (left - es.length) es) ∧ Below w.heap.size w wr) (fun _ i _ => es.length - (intOf i).toNat)
  case atStart => exact ⟨0, _, by omega, rfl, rfl, by omega, by omega, rfl, Below.refl _ _⟩
  case round =>
    obtain ⟨k, t, hk, rfl, rfl, ht0, ht1, hsz, hbw⟩ := hrel
    have hz := hbw.size
    by_cases hlt : k < es.length
    · obtain ⟨ad, a', c', rfl, had, hc0, hc1, hrd⟩ := HG.out k hlt
      have hc0' := (hbw.cell (p := ad.add (k * 2)) (by rw [add_block]; exact had)).trans hc0
      have hc1' := (hbw.cell (p := ⟨(ad.add (k * 2)).block, (ad.add (k * 2)).off + 1, none⟩) (by show (ad.add _).block < _; rw [add_block]; exact had)).trans hc1
      have HD := Lib.hid (szGo_drop (left := t) hlt)
      have hen := Lib.hid (show EntArg wr (.agg #[.int .i64 (gD es Ent0 k).n, .slice a' (gD es Ent0 k).rs.length c']) (gD es Ent0 k) from ⟨_, rfl, hrd.keep hbw⟩)
      clear hc0 hc1 hrd
      generalize gD es Ent0 k = e at *
      by_cases h2 : (e.rs.length : Int) ≤ t
      · have HN : Hid (szGo (t - e.rs.length) (es.drop (k + 1)) = szGo (left - es.length) es) := by
          show _ = _
          rw [← hsz.out, HD.out, if_pos h2]
        go_wp2_with fail
        refine (szEntrant_any _ _ _ ht0 ht1 _ hen.out).mono ?_
        rw [if_pos h2]
        rintro e' w' ⟨rfl, hb⟩
        go_wp2_with fail
        go_roundw
        case rel => exact ⟨k + 1, _, by omega, by go_num, rfl, by omega, by omega, HN, hbw.trans (hb.mono hz)⟩
        case measure => simp [intOf]; omega
      · have HN : Hid (szGo (left - es.length) es = -1) := by
          show _ = _
          rw [← hsz.out, HD.out, if_neg h2]
        go_wp2_with fail
        refine (szEntrant_any _ _ _ ht0 ht1 _ hen.out).mono ?_
        rw [if_neg (by omega)]
        rintro e' w' ⟨rfl, hb⟩
        go_wp2_with fail
        go_ret
        exact ⟨by simp [HE.out, HN.out], hbw.trans (hb.mono hz)⟩
    · obtain rfl : k = es.length := by omega
      have HN : Hid (szGo (left - es.length) es = t) := by show _ = _; rw [← hsz.out, List.drop_length]; rfl
      go_wp2_with fail
      go_ret
      exact ⟨by simp [HE.out, HN.out], hbw⟩
def RetEnts (w : World) (es : List Ent) (e : Ending) (w' : World) : Prop := ∃ v, e = .returned v ∧ OwnEnts w' w.heap.size v es ∧ Below w.heap.size w w'
set_option maxRecDepth 100000 in
theorem toEntrantS_any (v : Value) (es : List Ent) (w : World) (hv : RdEnts w v es) (hl1 : es.length ≤ 1048576) (hl2 : ∀ e ∈ es, e.rs.length ≤ 1048576) :
    Calls Try.prog 39 #[v] w (RetEnts w es) := by
  obtain ⟨a, cap, rfl, hl, hget⟩ := hv.get
  have HG := Lib.hid hget
  have HL := Lib.hid hl2
  clear hget hv hl2
  obtain ⟨w1, bS, hrun, hown, hb1, hbS0, hbS⟩ := run_make_own EEn En0 _ info_entrant rfl 61 Try.underlying61 es.length (by omega) w
  go_enter Try.func39, Try.ntmps39
  go_wp2_with fail
  go_loopw [4] (fun i wr => ∃ (k : Nat) (l : List En), k ≤ es.length ∧ i = .int .i64 k ∧ l.length = es.length ∧ Own EEn wr w.heap.size (.slice (some ⟨bS, 0, none⟩) es.length es.length) l ∧ Hid (∀ i, i < k → (gD l En0 i).n = (gD es Ent0 i).n ∧ Own EResult wr (bS + 1) (gD l En0 i).v (gD es Ent0 i).rs) ∧ Below w.heap.size w wr ∧ bS < wr.heap.size) (fun i _ => es.length - (intOf i).toNat)
  case atStart => exact ⟨0, List.replicate es.length En0, by omega, rfl, by simp, hown, fun i hi => absurd hi (by omega), hb1, hbS⟩
  case round =>
    obtain ⟨k, l, hk, rfl, hll, hownk, hall, hbw, hbSr⟩ := hrel
    by_cases hlt : k < es.length
    · obtain ⟨ad, a', c', rfl, had, hc0, hc1, hrd⟩ := HG.out k hlt
      have hc0' := (hbw.cell (p := ad.add (k * 2)) (by rw [add_block]; exact had)).trans hc0
      have hc1' := (hbw.cell (p := ⟨(ad.add (k * 2)).block, (ad.add (k * 2)).off + 1, none⟩) (by show (ad.add _).block < _; rw [add_block]; exact had)).trans hc1
      have hen := Lib.hid (show EntArg wr (.agg #[.int .i64 (gD es Ent0 k).n, .slice a' (gD es Ent0 k).rs.length c']) (gD es Ent0 k) from ⟨_, rfl, hrd.keep hbw⟩)
      have hel := HL.out _ (gD_mem es Ent0 k hlt)
      obtain ⟨e, he⟩ : ∃ e, e = gD es Ent0 k := ⟨_, rfl⟩
      have HEe := Lib.hid he
      rw [← he] at hc0' hc1' hen hel
      clear hc0 hc1 hrd he
      go_wp2_with fail
      refine (toEntrant_any _ _ hel _ hen.out).mono ?_
      rintro e' w' ⟨x1, rfl, ho1, hb⟩
      obtain ⟨a1, c1, rfl, _, _⟩ := ho1.resultG
      have hz := hb.size
      have hown2 := hownk.keep hb
      have fz := hown2.fz (by omega)
      obtain ⟨u0, s0⟩ := hown2.some1 k (by omega) 0 (by decide)
      rw [show k * EEn.size + 0 = k * 2 from rfl] at s0
      obtain ⟨u1, s1⟩ := hown2.some1 k (by omega) 1 (by decide)
      rw [show k * EEn.size + 1 = k * 2 + 1 from rfl] at s1
      have HST := Lib.hid (hown2.st2 rfl k (by omega) ⟨e.n, a1, e.rs.length, c1⟩ (.int .i64 e.n) (.slice a1 e.rs.length c1) rfl)
      have HO1 := Lib.hid (ho1.mono (B := bS + 1) (by omega))
      have HAL : Hid (∀ i, i < k → (gD l En0 i).n = (gD es Ent0 i).n ∧ Own EResult w' (bS + 1) (gD l En0 i).v (gD es Ent0 i).rs) := fun i hi => ⟨(hall.out i hi).1, (hall.out i hi).2.keep hb⟩
      clear ho1
      go_wp2_with fail
      go_roundw
      case rel =>
        refine ⟨k + 1, l.set k ⟨e.n, a1, e.rs.length, c1⟩, by omega, by go_num, by simpa using hll, HST.out.1, ?_, (hbw.trans (hb.mono hbw.size)).grown HST.out.2 (Nat.le_trans hbw.size hz) (fun k hk => by simp at hk; omega), by have := HST.out.2.size; omega⟩
        intro i hi
        rw [gD_set _ _ _ _ _ (by omega)]
        by_cases hik : i = k
        · subst hik
          rw [if_pos rfl]
          refine ⟨by rw [← HEe.out], ?_⟩
          rw [← HEe.out]
          exact (HO1.out.setLow (by simp) _).setLow (by simp) _
        · rw [if_neg hik]
          obtain ⟨q1, q2⟩ := HAL.out i (by omega)
          exact ⟨q1, (q2.setLow (by simp) _).setLow (by simp) _⟩
      case measure => simp [intOf]; omega
    · obtain rfl : k = es.length := by omega
      go_wp2_with fail
      go_ret
      exact ⟨_, rfl, ⟨l, bS + 1, hownk, by omega, fun k hk => by simp [Value.ownBlock] at hk; omega, hll, hall.out⟩, hbw⟩
set_option maxRecDepth 100000 in
theorem eqEntrantS_same (v1 v2 : Value) (es : List Ent) (w : World) {B1 B2 : Nat} (h1 : OwnEnts w B1 v1 es) (h2 : OwnEnts w B2 v2 es) :
    Calls Try.prog 42 #[v1, v2] w fun e w' => e = .returned (.bool true) ∧ Below w.heap.size w w' := by
  obtain ⟨a1, cap1, rfl, hl, hm, hget1⟩ := h1.get
  obtain ⟨a2, cap2, rfl, _, _, hget2⟩ := h2.get
  have HG1 := Lib.hid hget1
  have HG2 := Lib.hid hget2
  clear hget1 hget2 h1 h2
  go_enter Try.func42, Try.ntmps42
  go_wp2_with fail
  go_loopw [5] (fun i wr => ∃ k : Nat, k ≤ es.length ∧ i = .int .i64 k ∧ Below w.heap.size w wr) (fun i _ => es.length - (intOf i).toNat)
  case atStart => exact ⟨0, by omega, rfl, Below.refl _ _⟩
  case round =>
    obtain ⟨k, hk, rfl, hbw⟩ := hrel
    by_cases hlt : k < es.length
    · obtain ⟨b1, p1, q1, rfl, hb1, hc10, hc11, ho1⟩ := HG1.out k hlt
      obtain ⟨b2, p2, q2, rfl, hb2, hc20, hc21, ho2⟩ := HG2.out k hlt
      rw [← hbw.cell (by simpa using hb1)] at hc10 hc11
      rw [← hbw.cell (by simpa using hb2)] at hc20 hc21
      have hz := hbw.size
      have hb1' := Nat.lt_of_lt_of_le hb1 hz
      have hb2' := Nat.lt_of_lt_of_le hb2 hz
      have HO1 := Lib.hid (ho1.keep hbw)
      have HO2 := Lib.hid (ho2.keep hbw)
      have HQ : Hid (∀ W, Below wr.heap.size wr W → Calls Try.prog 107 #[.agg #[.int .i64 (gD es Ent0 k).n, .slice p1 (gD es Ent0 k).rs.length q1], .agg #[.int .i64 (gD es Ent0 k).n, .slice p2 (gD es Ent0 k).rs.length q2]] W fun e w' => e = .returned (.bool true) ∧ Below W.heap.size W w') := fun W hW => eqEntrant_same _ _ _ _ W (HO1.out.keep hW) (HO2.out.keep hW)
      clear ho1 ho2
      generalize gD es Ent0 k = e at *
      go_wp2_with fail
      (with_reducible refine wp_region_qb ?_ ?_ (fun hq => ?_)); (focus kernel_rfl); (focus kernel_rfl); (repeat (go_big_quiet_step ((go_at_call 107; exact Calls.regrown_of (HQ.out _ (below_regrown _ _ _)))))); refine wpQuiet_nil ?_
      intro wq hb
      go_wp2_with fail
      go_roundw
      case rel => exact ⟨k + 1, by omega, by go_num, hbw.trans (hb.mono hz)⟩
      case measure => simp [intOf]; omega
    · go_wp2_with fail
      go_ret
      exact ⟨by simp, hbw⟩
end Go.Proofs.Ytikmacjeeaklmaa
