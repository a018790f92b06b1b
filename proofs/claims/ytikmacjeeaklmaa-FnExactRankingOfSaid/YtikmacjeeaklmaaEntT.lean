/- EntT: the laws' copy and mark of a slice of entrants: which blocks a mark may change. Conditions: lengths in range. -/
import Derived.Test.YtikmacjeeaklmaaArgE
set_option linter.unusedVariables false
set_option linter.unusedSimpArgs false
namespace Peg
def lenSum : List Ent → Nat
  | [] => 0
  | e :: r => e.rs.length + lenSum r
theorem szGo_sum : ∀ (es : List Ent) (left : Int), 0 ≤ left → 0 ≤ szGo left es → (lenSum es : Int) ≤ left := by
  intro es
  induction es with
  | nil => intro left h0 _; simpa [lenSum] using h0
  | cons x r ih =>
    intro left h0 h
    simp only [szGo] at h
    split at h
    · have := ih _ (by omega) h; simp only [lenSum]; omega
    · omega
theorem szEnts_sum {es : List Ent} {left : Int} (h : 0 ≤ szEnts left es) : (es.length : Int) + lenSum es ≤ left := by
  unfold szEnts at h
  split at h
  · have := szGo_sum es _ (by omega) h; omega
  · omega
theorem lenSum_append (l m : List Ent) : lenSum (l ++ m) = lenSum l + lenSum m := by
  induction l with
  | nil => simp [lenSum]
  | cons x l ih => simp [lenSum, ih]; omega
theorem lenSum_take {l : List Ent} {k : Nat} (h : k < l.length) : lenSum (l.take (k + 1)) = lenSum (l.take k) + (gD l Ent0 k).rs.length := by
  rw [take_gD l Ent0 k h, lenSum_append]; simp [lenSum]
theorem lenSum_take_le (l : List Ent) (k : Nat) : lenSum (l.take k) ≤ lenSum l := by
  have := lenSum_append (l.take k) (l.drop k)
  rw [List.take_append_drop] at this
  omega
end Peg
namespace Go.Proofs.Ytikmacjeeaklmaa
open Go.ChangeShapes Go.WideShapes Go.ChangeAt Go.RowKit Peg Go.Sort
section
variable {α : Type} {E : Elt α} {w w' : World} {base B T : Nat} {v : Value} {l : List α}
/-- what was written lies in blocks from B to T, or is new -/
structure Between (B T : Nat) (w w' : World) : Prop where
  lo : Below B w w'
  hi : ∀ k, T ≤ k → k < w.heap.size → w'.heap[k]? = w.heap[k]?
theorem Between.refl (B T : Nat) (w : World) : Between B T w w := ⟨Below.refl _ _, fun _ _ _ => rfl⟩
theorem Between.trans {w1 w2 w3 : World} (h1 : Between B T w1 w2) (h2 : Between B T w2 w3) : Between B T w1 w3 :=
  ⟨h1.lo.trans h2.lo, fun k hk hlt => (h2.hi k hk (Nat.lt_of_lt_of_le hlt h1.lo.size)).trans (h1.hi k hk hlt)⟩
theorem Between.of_below (hB : B ≤ w.heap.size) (h : Below w.heap.size w w') : Between B T w w' := ⟨h.mono hB, fun k _ hk => h.block k hk⟩
theorem Between.of_grown {row : Option Nat} (hB : B ≤ w.heap.size) (hg : w.grownBy w' row) (hr : ∀ k, row = some k → B ≤ k ∧ k < T) : Between B T w w' :=
  ⟨(Below.refl _ _).grown hg hB (fun k hk => (hr k hk).1), fun k hk hlt => hg.block k hlt (fun e => by have := (hr k e.symm).2; omega)⟩
theorem Between.mono {B' T' : Nat} (h : Between B T w w') (hB : B' ≤ B) (hT : T ≤ T') : Between B' T' w w' := ⟨h.lo.mono hB, fun k hk hlt => h.hi k (by omega) hlt⟩
theorem Own.newer (h : Own E w base v l) (hb : Between B T w w') (hT : T ≤ base) : Own E w' base v l :=
  h.keep_of fun k hk hlt _ => hb.hi k (by omega) hlt
theorem Own.older {w0 : World} {b' : Nat} (h : Own E w base v l) (h0 : Own E w0 b' v l) (hs : w0.heap.size ≤ B) (hb : Between B T w w') : Own E w' base v l := by
  rcases h0 with ⟨rfl, a, rfl⟩ | h0
  · exact .inl ⟨rfl, a, rfl⟩
  · refine h.keep_of fun k _ hlt hv => hb.lo.block k ?_
    have := h0.lt k hv
    omega
theorem Own.st2a {b n cap : Nat} (h : Own E w base (.slice (some ⟨b, 0, none⟩) n cap) l) (hs : E.size = 2) (i : Nat) (hi : i < l.length) (x : α) (c0 c1 d0 : Value) (hd : E.enc l[i] = [d0, c1]) (hc : E.enc x = [c0, c1]) :
    Own E (w.setCell ⟨b, i * 2, none⟩ c0) base (.slice (some ⟨b, 0, none⟩) n cap) (l.set i x) ∧ w.grownBy (w.setCell ⟨b, i * 2, none⟩ c0) (some b) := by
  obtain ⟨hr, hn⟩ := h.raw (by omega)
  subst hn
  obtain ⟨h1, g1⟩ := hr.stored (i * 2) c0
  refine ⟨.inr ?_, g1⟩
  rw [List.length_set]
  rw [show (l.set i x).flatMap E.enc = (l.flatMap E.enc).set (i * 2) c0 from ?_]
  · exact h1
  · have hf0 := flat_get E l i 0 hi (by omega)
    have hf1 := flat_get E l i 1 hi (by omega)
    rw [hd, hs] at hf0 hf1
    rw [flat_set E l i x hi, hc, hs]
    have hL : (l.flatMap E.enc).length = l.length * 2 := by rw [flat_length, hs]
    generalize l.flatMap E.enc = xs at *
    apply List.ext_getElem?
    intro j
    simp only [List.getElem?_append, List.getElem?_set, List.length_append, List.length_take, List.length_set, List.length_cons, List.length_nil, List.getElem?_take, List.getElem?_drop]
    have hm : min (i * 2) xs.length = i * 2 := by omega
    rw [hm]
    by_cases a1 : j < i * 2
    · simp [a1, show j < i * 2 + 2 from by omega, show ¬ i * 2 = j from by omega]
    by_cases a2 : j = i * 2
    · subst a2; simp [hL, hi]
    by_cases a3 : j = i * 2 + 1
    · subst a3
      have : ¬ (i * 2 + 1 < i * 2) := by omega
      simp at hf1
      simp [this, hf1, show i * 2 + 1 - i * 2 = 1 from by omega]
    · have e1 : (i + 1) * 2 + (j - (i * 2 + 2)) = j := by omega
      simp [a1, show ¬ j < i * 2 + 2 from by omega, show ¬ i * 2 = j from by omega, e1]
end
/-- the slice v does not lie in the block g, or is empty -/
def Apt (v : Value) (rs : List Rs) (g : Nat) : Prop := (rs = [] ∧ ∃ a, v = .slice a 0 0) ∨ v.ownBlock ≠ some g
theorem apt_of {w : World} {B : Nat} {v : Value} {rs : List Rs} (h : Own EResult w B v rs) {g : Nat} (hg : g < B) : Apt v rs g := by
  rcases h with h | h
  · exact .inl h
  · refine .inr fun e => ?_
    have := (h.lt g e).1
    omega
theorem Apt.keep {w w' : World} {B : Nat} {v : Value} {rs : List Rs} (h : Own EResult w B v rs) {row : Option Nat} (hg : w.grownBy w' row) (ha : ∀ g, row = some g → Apt v rs g) : Own EResult w' B v rs := by
  by_cases hem : rs = [] ∧ ∃ a, v = .slice a 0 0
  · exact .inl hem
  · refine h.keep_of fun k hk hlt2 hvk => hg.block k hlt2 (fun e => ?_)
    rcases ha k e.symm with h1 | h1
    · exact hem h1
    · exact h1 hvk
/-- a slice of entrants of the calls' own whose rows lie in blocks of their own -/
def OwnEntsP (w : World) (B : Nat) (v : Value) (es : List Ent) : Prop :=
  ∃ (l : List En) (B2 : Nat), Own EEn w B v l ∧ B ≤ B2 ∧ (∀ k, v.ownBlock = some k → k < B2) ∧ l.length = es.length ∧
    (∀ i, i < es.length → (gD l En0 i).n = (gD es Ent0 i).n ∧ Own EResult w B2 (gD l En0 i).v (gD es Ent0 i).rs) ∧
    ∀ i j, i < j → j < es.length → ∀ g, rowOf (gD l En0 i).v (gD es Ent0 i).rs = some g → Apt (gD l En0 j).v (gD es Ent0 j).rs g
theorem OwnEntsP.ents {w : World} {B : Nat} {v : Value} {es : List Ent} (h : OwnEntsP w B v es) : OwnEnts w B v es := by
  obtain ⟨l, B2, h1, h2, h3, h4, h5, _⟩ := h
  exact ⟨l, B2, h1, h2, h3, h4, h5⟩
theorem OwnEntsP.keep {w w' : World} {B : Nat} {v : Value} {es : List Ent} (h : OwnEntsP w B v es) (hb : Below w.heap.size w w') : OwnEntsP w' B v es := by
  obtain ⟨l, B2, h1, h2, h3, h4, h5, h6⟩ := h
  exact ⟨l, B2, h1.keep hb, h2, h3, h4, fun i hi => ⟨(h5 i hi).1, (h5 i hi).2.keep hb⟩, h6⟩
theorem OwnEntsP.mono {w : World} {B B' : Nat} {v : Value} {es : List Ent} (h : OwnEntsP w B v es) (hB : B' ≤ B) : OwnEntsP w B' v es := by
  obtain ⟨l, B2, h1, h2, h3, h4, h5, h6⟩ := h
  exact ⟨l, B2, h1.mono hB, Nat.le_trans hB h2, h3, h4, h5, h6⟩
def RetEntsP (w : World) (es : List Ent) (e : Ending) (w' : World) : Prop := ∃ v, e = .returned v ∧ OwnEntsP w' w.heap.size v es ∧ Below w.heap.size w w'
set_option maxRecDepth 100000 in
theorem toEntrantS_P (v : Value) (es : List Ent) (w : World) (hv : RdEnts w v es) (hl1 : es.length ≤ 1048576) (hl2 : ∀ e ∈ es, e.rs.length ≤ 1048576) :
    Calls Try.prog 39 #[v] w (RetEntsP w es) := by
  obtain ⟨a, cap, rfl, hl, hget⟩ := hv.get
  have HG := Lib.hid hget
  have HL := Lib.hid hl2
  clear hget hv hl2
  obtain ⟨w1, bS, hrun, hown, hb1, hbS0, hbS⟩ := run_make_own EEn En0 _ info_entrant rfl 61 Try.underlying61 es.length (by omega) w
  go_enter Try.func39, Try.ntmps39
  go_wp2_with fail
  go_loopw [4] (fun i wr => ∃ (k : Nat) (l : List En), k ≤ es.length ∧ i = .int .i64 k ∧ l.length = es.length ∧ Own EEn wr w.heap.size (.slice (some ⟨bS, 0, none⟩) es.length es.length) l ∧ Hid (∀ i, i < k → (gD l En0 i).n = (gD es Ent0 i).n ∧ Own EResult wr (bS + 1) (gD l En0 i).v (gD es Ent0 i).rs) ∧ Hid (∀ i j, i < j → j < k → ∀ g, rowOf (gD l En0 i).v (gD es Ent0 i).rs = some g → Apt (gD l En0 j).v (gD es Ent0 j).rs g) ∧ Below w.heap.size w wr ∧ bS < wr.heap.size) (fun i _ => es.length - (intOf i).toNat)
  case atStart => exact ⟨0, List.replicate es.length En0, by omega, rfl, by simp, hown, fun i hi => absurd hi (by omega), fun i j _ hj => absurd hj (by omega), hb1, hbS⟩
  case round =>
    obtain ⟨k, l, hk, rfl, hll, hownk, hall, hpw, hbw, hbSr⟩ := hrel
    by_cases hlt : k < es.length
    · obtain ⟨ad, a', c', rfl, had, hc0, hc1, hrd⟩ := HG.out k hlt
      have hc0' := (hbw.cell (p := ad.add (k * 2)) (by rw [add_block]; exact had)).trans hc0
      have hc1' := (hbw.cell (p := ⟨(ad.add (k * 2)).block, (ad.add (k * 2)).off + 1, none⟩) (by show (ad.add _).block < _; rw [add_block]; exact had)).trans hc1
      have hen := Lib.hid (show EntArg wr (.agg #[.int .i64 (gD es Ent0 k).n, .slice a' (gD es Ent0 k).rs.length c']) (gD es Ent0 k) from ⟨_, rfl, hrd.keep hbw⟩)
      have hel := HL.out _ (gD_mem es Ent0 k hlt)
      obtain ⟨e, he⟩ : ∃ e, e = gD es Ent0 k := ⟨_, rfl⟩
      have HEe := Lib.hid he
      rw [← he] at hc0' hc1' hen hel
      clear hc0 hc1 hrd he
      go_wp2_with fail
      refine (toEntrant_any _ _ hel _ hen.out).mono ?_
      rintro e' w' ⟨x1, rfl, ho1, hb⟩
      obtain ⟨a1, c1, rfl, _, _⟩ := ho1.resultG
      have hz := hb.size
      have hown2 := hownk.keep hb
      have fz := hown2.fz (by omega)
      obtain ⟨u0, s0⟩ := hown2.some1 k (by omega) 0 (by decide)
      rw [show k * EEn.size + 0 = k * 2 from rfl] at s0
      obtain ⟨u1, s1⟩ := hown2.some1 k (by omega) 1 (by decide)
      rw [show k * EEn.size + 1 = k * 2 + 1 from rfl] at s1
      have HST := Lib.hid (hown2.st2 rfl k (by omega) ⟨e.n, a1, e.rs.length, c1⟩ (.int .i64 e.n) (.slice a1 e.rs.length c1) rfl)
      have HO1 := Lib.hid (ho1.mono (B := bS + 1) (by omega))
      have HGE : Hid (∀ g, g < wr.heap.size → Apt (Value.slice a1 e.rs.length c1) e.rs g) := fun g hg => apt_of ho1 hg
      have HLT : Hid (∀ i, i < k → ∀ g, rowOf (gD l En0 i).v (gD es Ent0 i).rs = some g → g < wr.heap.size) := fun i hi g hg => ((hall.out i hi).2.blockGe g hg).2
      have HAL : Hid (∀ i, i < k → (gD l En0 i).n = (gD es Ent0 i).n ∧ Own EResult w' (bS + 1) (gD l En0 i).v (gD es Ent0 i).rs) := fun i hi => ⟨(hall.out i hi).1, (hall.out i hi).2.keep hb⟩
      clear ho1
      go_wp2_with fail
      go_roundw
      case rel =>
        refine ⟨k + 1, l.set k ⟨e.n, a1, e.rs.length, c1⟩, by omega, by go_num, by simpa using hll, HST.out.1, ?_, ?_, (hbw.trans (hb.mono hbw.size)).grown HST.out.2 (Nat.le_trans hbw.size hz) (fun k hk => by simp at hk; omega), by have := HST.out.2.size; omega⟩
        · intro i hi
          rw [gD_set _ _ _ _ _ (by omega)]
          by_cases hik : i = k
          · subst hik
            rw [if_pos rfl]
            refine ⟨by rw [← HEe.out], ?_⟩
            rw [← HEe.out]
            exact (HO1.out.setLow (by simp) _).setLow (by simp) _
          · rw [if_neg hik]
            obtain ⟨q1, q2⟩ := HAL.out i (by omega)
            exact ⟨q1, (q2.setLow (by simp) _).setLow (by simp) _⟩
        · intro i j hij hj g hg
          rw [gD_set _ _ _ _ _ (by omega), if_neg (by omega)] at hg
          rw [gD_set _ _ _ _ _ (by omega)]
          by_cases hjk : j = k
          · subst hjk
            rw [if_pos rfl, ← HEe.out]
            exact HGE.out g (HLT.out i (by omega) g hg)
          · rw [if_neg hjk]
            exact hpw.out i j hij (by omega) g hg
      case measure => simp [intOf]; omega
    · obtain rfl : k = es.length := by omega
      go_wp2_with fail
      go_ret
      exact ⟨_, rfl, ⟨l, bS + 1, hownk, by omega, fun k hk => by simp [Value.ownBlock] at hk; omega, hll, hall.out, hpw.out⟩, hbw⟩
set_option maxRecDepth 100000 in
theorem markResultS_any (v : Value) (l : List Rs) (k : Int) (h0 : 0 ≤ k) (h1 : k ≤ 1099511627776) (hl : l.length ≤ 1099511627776) (w : World) {B : Nat} (hv : Own EResult w B v l) :
    Calls Try.prog 108 #[v, .int .i64 k] w fun e w' => e = .returned (.int .i64 (k + 4 * l.length)) ∧ Own EResult w' B v (marksResult k l.length) ∧ w.grownBy w' (rowOf v l) := by
  obtain ⟨a, cap, rfl, _, hget⟩ := hv.resultG
  have HG := Lib.hid hget
  clear hget
  go_enter Try.func108, Try.ntmps108
  go_wp2_with fail
  go_loopw [1, 5] (fun kk i wr => ∃ j : Nat, j ≤ l.length ∧ i = .int .i64 j ∧ kk = .int .i64 (k + 4 * j) ∧ Own EResult wr B (.slice a l.length cap) (over (markResult k) l j) ∧ w.grownBy wr (rowOf (Value.slice a l.length cap) l)) (fun _ i _ => l.length - (intOf i).toNat)
  case atStart => exact ⟨0, by omega, rfl, by simp, by rw [over_zero]; exact hv, World.grownBy.refl _ _⟩
  case round =>
    obtain ⟨j, hj, rfl, rfl, hown, hgr⟩ := hrel
    by_cases hlt : j < l.length
    · obtain ⟨b, rfl, _, hb, _⟩ := HG.out j hlt
      have hlen := over_length (markResult k) l j hj
      obtain ⟨s0, fz⟩ := hown.some3 (j * 4) (by rw [hlen]; simp [EResult]; omega)
      obtain ⟨s1, _⟩ := hown.some3 (j * 4 + 1) (by rw [hlen]; simp [EResult]; omega)
      obtain ⟨s2, _⟩ := hown.some3 (j * 4 + 2) (by rw [hlen]; simp [EResult]; omega)
      obtain ⟨s3, _⟩ := hown.some3 (j * 4 + 3) (by rw [hlen]; simp [EResult]; omega)
      obtain ⟨u0, s0⟩ := Option.isSome_iff_exists.1 s0
      obtain ⟨u1, s1⟩ := Option.isSome_iff_exists.1 s1
      obtain ⟨u2, s2⟩ := Option.isSome_iff_exists.1 s2
      obtain ⟨u3, s3⟩ := Option.isSome_iff_exists.1 s3
      clear hlen
      go_wp2_with fail
      have hst := (hown.st4 rfl j (by rw [over_length _ _ _ hj]; exact hlt) (markResult k j) (.int .i64 (k + 4 * j)) (.bool ((k + 4 * j + 1) % 3 == 0)) (.int .i64 (k + 4 * j + 1 + 1)) (.int .i64 (k + 4 * j + 1 + 1 + 1)) rfl)
      go_roundw
      case rel => exact ⟨j + 1, by omega, by go_num, by go_num, by rw [← over_succ _ _ _ hlt]; exact hst.1, hgr.trans (by rw [rowOf_ne (by omega)]; exact hst.2)⟩
      case measure => simp [intOf]; omega
    · have e : j = l.length := by omega
      have HF : Hid (over (markResult k) l j = marksResult k l.length) := by
        show _ = _
        rw [e, over_full]; rfl
      have HE : Hid ((j : Int) = (l.length : Int)) := by show _ = _; rw [e]
      clear e
      go_wp2_with fail
      go_ret
      exact ⟨by simp [HE.out], by rw [HF.out] at hown; exact hown, hgr⟩
set_option maxHeartbeats 1000000 in
set_option maxRecDepth 100000 in
theorem markEntrantS_any (v : Value) (es : List Ent) (k0 : Int) (h0 : 0 ≤ k0) (h1 : k0 ≤ 1048576) (hl : es.length + lenSum es ≤ 1048576) (w0 w : World) {B : Nat} (hv : OwnEntsP w0 B v es) (hb0 : Below w0.heap.size w0 w) :
    Calls Try.prog 43 #[v, .int .i64 k0] w fun e w' => (∃ k1 : Int, 0 ≤ k1 ∧ k1 ≤ 10000000 ∧ e = .returned (.int .i64 k1)) ∧ Between B w0.heap.size w w' := by
  obtain ⟨l, B2, hown0, hB2, hvb, hll, hall0, hpw⟩ := hv
  have hz0 := hb0.size
  have hall : ∀ i, i < es.length → (gD l En0 i).n = (gD es Ent0 i).n ∧ Own EResult w B2 (gD l En0 i).v (gD es Ent0 i).rs := fun i hi => ⟨(hall0 i hi).1, (hall0 i hi).2.keep hb0⟩
  have hown := hown0.keep hb0
  have hSU := lenSum_take_le es
  have HPW := Lib.hid hpw
  have HBL : Hid (∀ i, i < es.length → ∀ g, rowOf (gD l En0 i).v (gD es Ent0 i).rs = some g → B2 ≤ g ∧ g < w0.heap.size) := fun i hi g hg => (hall0 i hi).2.blockGe g hg
  obtain ⟨a, cap, hvv, hcap, _, hform⟩ := hown0.form
  rw [hll] at hvv hcap
  subst hvv
  have HVB : Hid (∀ k, (Value.slice a es.length cap).ownBlock = some k → k < B2) := hvb
  have HVS : Hid (∀ k, rowOf (Value.slice a es.length cap) l = some k → B ≤ k ∧ k < w0.heap.size) := fun k hk => hown0.blockGe k hk
  have HF := Lib.hid hform
  clear hpw hform hvb hown0 hall0 hb0
  go_enter Try.func43, Try.ntmps43
  go_wp2_with fail
  go_loopw [1, 5] (fun kk i wr => ∃ (j : Nat) (l' : List En), j ≤ es.length ∧ i = .int .i64 j ∧ kk = .int .i64 (k0 + j + 4 * lenSum (es.take j)) ∧ l'.length = es.length ∧ Own EEn wr B (.slice a es.length cap) l' ∧ Hid (∀ i, i < es.length → (gD l' En0 i).v = (gD l En0 i).v) ∧ Hid (∀ i, j ≤ i → i < es.length → Own EResult wr B2 (gD l En0 i).v (gD es Ent0 i).rs) ∧ Between B w0.heap.size w wr) (fun _ i _ => es.length - (intOf i).toNat)
  case atStart => exact ⟨0, l, by omega, rfl, by simp [lenSum], hll, hown, fun _ _ => rfl, fun i _ hi => (hall i hi).2, Between.refl _ _ _⟩
  case round =>
    obtain ⟨j, l', hj, rfl, rfl, hll', hownj, hvs, hrows, hbt⟩ := hrel
    have hzb := hbt.lo.size
    have hsj := hSU j
    by_cases hlt : j < es.length
    · obtain ⟨b, rfl, hBb, hbs, hcell⟩ := HF.out j (by omega)
      clear hcell
      have hS := lenSum_take hlt
      have hsj1 := hSU (j + 1)
      have fz := hownj.fz (by omega)
      obtain ⟨a2, cap2, hfm⟩ : ∃ a2 cap2, (gD l En0 j).v = .slice a2 (gD es Ent0 j).rs.length cap2 := by
        obtain ⟨a2, cap2, hf, _⟩ := (hall j hlt).2.form
        exact ⟨a2, cap2, hf⟩
      have hlj : l'[j]'(by omega) = gD l' En0 j := (gD_lt l' En0 j (by omega)).symm
      obtain ⟨a3, cap3, h3, _, _, hform'⟩ := hownj.form
      rw [hll'] at h3
      obtain ⟨rfl, rfl⟩ : _ = a3 ∧ _ = cap3 := by simpa using h3
      obtain ⟨b', hb', _, _, hcell⟩ := hform' j (by omega)
      obtain rfl : b = b' := by simpa using hb'
      have s0 := hcell 0 (by decide)
      have s1 := hcell 1 (by decide)
      have hv' : (gD l' En0 j).v = .slice a2 (gD es Ent0 j).rs.length cap2 := (hvs.out j hlt).trans hfm
      rw [hlj] at s0 s1
      have s0' : wr.cell? ⟨b, j * 2, none⟩ = some (.int .i64 (gD l' En0 j).n) := by simpa [EEn] using s0
      have s1' : wr.cell? ⟨b, j * 2 + 1, none⟩ = some (.slice a2 (gD es Ent0 j).rs.length cap2) := by rw [← hv']; simpa [EEn, En.v] using s1
      have HST := Lib.hid (hownj.st2a rfl j (by omega) ⟨k0 + j + 4 * lenSum (es.take j), (gD l' En0 j).a, (gD l' En0 j).len, (gD l' En0 j).cap⟩ (.int .i64 (k0 + j + 4 * lenSum (es.take j))) (gD l' En0 j).v (.int .i64 (gD l' En0 j).n) (by rw [hlj]; rfl) rfl)
      have hbB2 : b < B2 := HVB.out b rfl
      have hRow : Hid (Own EResult (wr.setCell ⟨b, j * 2, none⟩ (.int .i64 (k0 + j + 4 * lenSum (es.take j)))) B2 (.slice a2 (gD es Ent0 j).rs.length cap2) (gD es Ent0 j).rs) := by
        show Own _ _ _ _ _
        rw [← hfm]
        exact (hrows.out j (Nat.le_refl _) hlt).setLow (by exact hbB2) _
      have HRS : Hid (∀ i, j ≤ i → i < es.length → Own EResult (wr.setCell ⟨b, j * 2, none⟩ (.int .i64 (k0 + j + 4 * lenSum (es.take j)))) B2 (gD l En0 i).v (gD es Ent0 i).rs) := fun i h1 h2 => (hrows.out i h1 h2).setLow (by exact hbB2) _
      have HBJ := Lib.hid (HBL.out j hlt)
      have HPJ : Hid (∀ i, j < i → i < es.length → ∀ g, rowOf (Value.slice a2 (gD es Ent0 j).rs.length cap2) (gD es Ent0 j).rs = some g → Apt (gD l En0 i).v (gD es Ent0 i).rs g) := fun i h1 h2 g hg => HPW.out j i h1 h2 g (by rw [hfm]; exact hg)
      rw [hfm] at HBJ
      clear s0 s1 hcell hform' h3 hb' hlj
      have hrl : (gD es Ent0 j).rs.length ≤ 1048576 := by omega
      generalize gD es Ent0 j = en at *
      generalize lenSum (es.take j) = S at *
      go_wp2_with fail
      refine (markResultS_any _ _ _ (by omega) (by omega) (by omega) _ hRow.out).mono ?_
      rintro e w' ⟨rfl, hm, hgr⟩
      have HX : Hid (Between B w0.heap.size w w') := ((hbt.trans (Between.of_grown (by have := hB2; omega) HST.out.2 (fun k hk => by simp at hk; subst hk; exact ⟨hBb, hbs⟩))).trans (Between.of_grown (by have := HST.out.2.size; omega) hgr (fun k hk => by have := HBJ.out k hk; omega)))
      go_wp2_with fail
      go_roundw
      case rel =>
        refine ⟨j + 1, _, by omega, by go_num, ?_, by simpa using hll', HST.out.1.keep_of (fun k hk hlt2 hvk => hgr.block k hlt2 (fun e => ?_)), ?_, ?_, HX.out⟩
        · rw [hS]; congr 1; push_cast; omega
        · have h1 := HBJ.out k e.symm
          have h2 := HVB.out k hvk
          omega
        · intro i hi
          rw [gD_set _ _ _ _ _ (by omega)]
          by_cases hij : i = j
          · subst hij; rw [if_pos rfl]; exact hvs.out i hi
          · rw [if_neg hij]; exact hvs.out i hi
        · intro i h1 h2
          exact Apt.keep (HRS.out i (by omega) h2) hgr (fun g hg => HPJ.out i (by omega) h2 g hg)
      case measure => simp [intOf]; omega
    · obtain rfl : j = es.length := by omega
      go_wp2_with fail
      go_ret
      exact ⟨⟨_, by omega, by rw [List.take_length]; omega, rfl⟩, hbt⟩
end Go.Proofs.Ytikmacjeeaklmaa
