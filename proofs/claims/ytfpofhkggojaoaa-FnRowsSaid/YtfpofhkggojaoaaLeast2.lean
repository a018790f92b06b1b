/- Least2: contracts of the reference's counts of pegs and of its RowLeast. Conditions: the row's length in range. -/
import Derived.Test.YtfpofhkggojaoaaLeast
set_option linter.unusedVariables false
set_option linter.unusedSimpArgs false
namespace Peg
def pgTo (s : ByteArray) (k : Nat) : Nat := (s.data.toList.take k).count 111
theorem pgTo_succ {s : ByteArray} {k : Nat} (h : k < s.size) : pgTo s (k + 1) = pgTo s k + if s[k] = 111 then 1 else 0 := by
  unfold pgTo
  rw [take_snoc s k h, List.count_append, List.count_singleton]
  by_cases e : s[k] = 111 <;> simp [e]
theorem pgTo_all (s : ByteArray) : pgTo s s.size = pg s := by
  unfold pgTo pg
  rw [List.take_of_length_le (by rw [size_toList]; exact Nat.le_refl _)]
theorem pgTo_le (s : ByteArray) (k : Nat) : pgTo s k ≤ k := by
  unfold pgTo
  exact Nat.le_trans List.count_le_length (List.length_take_le _ _)
theorem toList_inj {a b : ByteArray} (h : a.toList = b.toList) : a = b := by
  rw [Go.ByteArray.toList_eq, Go.ByteArray.toList_eq] at h
  have : a.data = b.data := Array.toList_inj.1 h
  cases a; cases b; simp at this; rw [this]
structure LInv (s : ByteArray) (T : List ByteArray) (k b : Nat) : Prop where
  mem : s ∈ T
  nodup : T.Nodup
  reach : ∀ x ∈ T, ∃ j, x ∈ rowsAt s j
  closed : ∀ i, i < k → ∀ y ∈ rowJumps (gD T B0 i), y ∈ T
  val : ∃ j x, x ∈ rowsAt s j ∧ pg x = b
  least : ∀ i, i < k → b ≤ pg (gD T B0 i)
structure LIn (s : ByteArray) (T U : List ByteArray) (J : List ByteArray) (i : Nat) : Prop where
  pre : T <+: U
  nodup : U.Nodup
  reach : ∀ x ∈ U, ∃ j, x ∈ rowsAt s j
  done : ∀ j, j < i → gD J B0 j ∈ U
theorem LInv.end {s : ByteArray} {T : List ByteArray} {b : Nat} (h : LInv s T T.length b) : IsLeast s b := by
  refine least_closed h.mem ?_ h.val ?_
  · intro x hx y hy
    obtain ⟨i, hi, rfl⟩ := List.mem_iff_getElem.1 hx
    exact h.closed i hi y (by rwa [gD_lt _ _ _ hi])
  · intro x hx
    obtain ⟨i, hi, rfl⟩ := List.mem_iff_getElem.1 hx
    have := h.least i hi
    rwa [gD_lt _ _ _ hi] at this
theorem LInv.len {s : ByteArray} {T : List ByteArray} (hs : rowOk s = true) (hn : T.Nodup) (hr : ∀ x ∈ T, ∃ j, x ∈ rowsAt s j) : T.length ≤ 16384 :=
  rows_bound (rowsAt_len14 hs).1 hn (fun x hx => by obtain ⟨j, hj⟩ := hr x hx; exact ⟨(rowsAt_ok hs hj).1, (rowsAt_ok hs hj).2.1⟩)
theorem LInv.start {s : ByteArray} {T : List ByteArray} {k b : Nat} (h : LInv s T k b) : LIn s T T (rowJumps (gD T B0 k)) 0 :=
  ⟨List.prefix_refl _, h.nodup, h.reach, fun j hj => by omega⟩
theorem pre_get {T U : List ByteArray} (h : T <+: U) {i : Nat} (hi : i < T.length) : gD U B0 i = gD T B0 i := by
  obtain ⟨R, rfl⟩ := h
  rw [gD_lt _ _ _ hi, gD_lt _ _ _ (by simp; omega), List.getElem_append_left hi]
theorem LInv.next {s : ByteArray} {T U : List ByteArray} {k b : Nat} (h : LInv s T k b) (hk : k < T.length) (hi : LIn s T U (rowJumps (gD T B0 k)) (rowJumps (gD T B0 k)).length) : LInv s U (k + 1) (min b (pg (gD T B0 k))) := by
  have hsub : ∀ x ∈ T, x ∈ U := fun x hx => hi.pre.subset hx
  refine ⟨hsub _ h.mem, hi.nodup, hi.reach, ?_, ?_, ?_⟩
  · intro i hik y hy
    rw [pre_get hi.pre (by omega)] at hy
    by_cases e : i = k
    · subst e
      obtain ⟨j, hj, rfl⟩ := List.mem_iff_getElem.1 hy
      have := hi.done j hj
      rwa [gD_lt _ _ _ hj] at this
    · exact hsub _ (h.closed i (by omega) y hy)
  · obtain ⟨j, hj⟩ := h.reach _ (gD_mem T B0 k hk)
    rcases Nat.le_total b (pg (gD T B0 k)) with h1 | h1
    · rw [Nat.min_eq_left h1]; exact h.val
    · rw [Nat.min_eq_right h1]; exact ⟨j, _, hj, rfl⟩
  · intro i hik
    rw [pre_get hi.pre (by omega)]
    by_cases e : i = k
    · subst e; exact Nat.min_le_right _ _
    · exact Nat.le_trans (Nat.min_le_left _ _) (h.least i (by omega))
theorem LIn.old {s : ByteArray} {T U J : List ByteArray} {i : Nat} (h : LIn s T U J i) (hm : gD J B0 i ∈ U) : LIn s T U J (i + 1) :=
  ⟨h.pre, h.nodup, h.reach, fun j hj => by
    by_cases e : j = i
    · subst e; exact hm
    · exact h.done j (by omega)⟩
theorem LIn.new {s : ByteArray} {T U J : List ByteArray} {i : Nat} (h : LIn s T U J i) (hm : gD J B0 i ∉ U) (hr : ∃ j, gD J B0 i ∈ rowsAt s j) : LIn s T (U ++ [gD J B0 i]) J (i + 1) := by
  refine ⟨h.pre.trans (List.prefix_append _ _), ?_, ?_, ?_⟩
  · rw [List.nodup_append]
    refine ⟨h.nodup, by simp, fun a ha b hb e => ?_⟩
    rw [List.mem_singleton.1 hb] at e
    exact hm (e ▸ ha)
  · intro x hx
    rcases List.mem_append.1 hx with h1 | h1
    · exact h.reach x h1
    · rw [List.mem_singleton.1 h1]; exact hr
  · intro j hj
    by_cases e : j = i
    · subst e; simp
    · exact List.mem_append.2 (.inl (h.done j (by omega)))
end Peg
namespace Go.Proofs.Ytfpofhkggojaoaa
open Go.ChangeShapes Go.WideShapes Go.ChangeAt Go.RowKit Peg Go.Sort
set_option maxRecDepth 100000 in
theorem l25Pegs_any (s : ByteArray) (hs : s.size ≤ 1048576) (w : World) :
    Calls Try.prog 146 #[.string s] w fun e w' => e = .returned (.int .i64 (pg s : Nat)) ∧ w = w' := by
  have HV := Lib.hid (pgTo_all s)
  have HZ : Hid (pgTo s 0 = 0) := by show _ = _; simp [pgTo]
  go_enter Try.func146, Try.ntmps146
  go_wp2
  go_loop [3, 4] (fun n i => ∃ k : Nat, k ≤ s.size ∧ i = .int .i64 k ∧ n = .int .i64 (pgTo s k : Nat)) (fun _ i => s.size - (intOf i).toNat)
  case atStart => exact ⟨0, Nat.zero_le _, rfl, by rw [HZ.out]; rfl⟩
  case round =>
    obtain ⟨k, hk, rfl, rfl⟩ := hrel
    have hle := pgTo_le s k
    by_cases hlt : k < s.size
    · have HS := Lib.hid (pgTo_succ hlt)
      by_cases hx : s[k] = 111
      · have hb : ((s[k].toNat : Int) == 111) = true := by rw [hx]; rfl
        have HE : Hid (pgTo s (k + 1) = pgTo s k + 1) := by show _ = _; rw [HS.out, if_pos hx]
        clear hx
        generalize pgTo s k = c at *
        go_wp2
        all_goals
          go_round
          case rel => exact ⟨k + 1, by omega, by go_num, by rw [HE.out]; go_num⟩
          case measure => simp [intOf]; omega
      · have hb : ((s[k].toNat : Int) == 111) = false := by
          have : ¬ s[k].toNat = 111 := fun e => hx (UInt8.toNat_inj.1 (by simpa using e))
          simp; omega
        have HE : Hid (pgTo s (k + 1) = pgTo s k) := by show _ = _; rw [HS.out, if_neg hx]; rfl
        clear hx
        generalize pgTo s k = c at *
        go_wp2
        all_goals
          go_round
          case rel => exact ⟨k + 1, by omega, by go_num, by rw [HE.out]⟩
          case measure => simp [intOf]; omega
    · obtain rfl : k = s.size := by omega
      go_wp2
      go_ret
      exact ⟨by rw [HV.out]; rfl, rfl⟩
set_option maxHeartbeats 4000000 in
set_option maxRecDepth 100000 in
theorem sRowLeast_any (s : ByteArray) (hs : s.size ≤ 1048576) (w : World) :
    Calls Try.prog 63 #[.string s] w (LeastIs s w) := by
  cases hok : rowOk s
  · have HR : Hid (rowLeast s = -1) := by show _ = _; simp [rowLeast, hok]
    have HO : Hid (∀ W, Calls Try.prog 145 #[.string s] W fun e w' => e = .returned (.bool false) ∧ W = w') := fun W => by rw [← hok]; exact sRowOk_any s (by unfold maxLen; omega) W
    clear hok
    go_enter Try.func63, Try.ntmps63
    go_wp2_with (go_at_call 145; refine (HO.out _).mono ?_; rintro e w' ⟨rfl, rfl⟩)
    go_ret
    exact ⟨by rw [HR.out]; rfl, Below.refl _ _⟩
  have HO : Hid (∀ W, Calls Try.prog 145 #[.string s] W fun e w' => e = .returned (.bool true) ∧ W = w') := fun W => by rw [← hok]; exact sRowOk_any s (by unfold maxLen; omega) W
  have HK := Lib.hid hok
  obtain ⟨h14, hp14⟩ := rowsAt_len14 hok
  clear hok
  have hown0 := Own.single (E := EStr) s w w.heap.size (Nat.le_refl _)
  have HI0 : Hid (LInv s [s] 0 (pg s)) := ⟨by simp, by simp, fun x hx => ⟨0, by simpa [rowsAt] using hx⟩, fun i hi => by omega, ⟨0, s, by simp [rowsAt], rfl⟩, fun i hi => by omega⟩
  go_enter Try.func63, Try.ntmps63
  go_wp2_with (first | (go_at_call 145; refine (HO.out _).mono ?_; rintro e w' ⟨rfl, rfl⟩) | (go_at_call 146; refine (l25Pegs_any s hs _).mono ?_; rintro e w' ⟨rfl, rfl⟩))
  go_loopw [3, 4, 5] (fun t3 t4 t5 wr => ∃ (k : Nat) (T : List ByteArray) (b : Nat), k ≤ T.length ∧ t5 = .int .i64 k ∧ t3 = .int .i64 (b : Nat) ∧ b ≤ 14 ∧ Own EStr wr w.heap.size t4 T ∧ Hid (LInv s T k b) ∧ Below w.heap.size w wr) (fun _ _ t _ => 16385 - (intOf t).toNat)
  case atStart => exact ⟨0, [s], pg s, by simp, rfl, rfl, hp14, hown0, HI0, by (repeat' first | (with_reducible exact Below.refl _ _) | (with_reducible refine Below.alloc ?_ ?_ _) | (with_reducible refine Below.drew ?_) | (with_reducible refine Below.setCell ?_ ?_ _) | (with_reducible refine below_via (by assumption) ?_ ?_) | go_size)⟩
  case round =>
    obtain ⟨k, T, b, hk, rfl, rfl, hb14, hown, hinv, hbw⟩ := hrel
    have hz := hbw.size
    have hTl := LInv.len HK.out hinv.out.nodup hinv.out.reach
    by_cases hlt : k < T.length
    rotate_left
    · obtain rfl : k = T.length := by omega
      have HV : Hid (rowLeast s = (b : Nat)) := rowLeast_of HK.out hinv.out.end
      obtain ⟨a, cap, rfl, _⟩ := hown.form
      clear hown hinv
      go_wp2_with fail
      go_ret
      exact ⟨by rw [HV.out]; rfl, hbw⟩
    obtain ⟨a, cap, rfl, hcap, hget⟩ := hown.strG
    obtain ⟨b0, rfl, hb0, hb1, hc0⟩ := hget k hlt
    obtain ⟨jx, hjx⟩ := hinv.out.reach _ (gD_mem T B0 k hlt)
    have hr0 := rowsAt_ok HK.out hjx
    have hx14 : pg (gD T B0 k) ≤ 14 := by omega
    have hxs : (gD T B0 k).size ≤ 1048576 := by omega
    have HRJ : Hid (∀ y ∈ rowJumps (gD T B0 k), ∃ j, y ∈ rowsAt s j) := fun y hy => ⟨jx + 1, List.mem_flatMap.2 ⟨_, hjx, hy⟩⟩
    have HST := Lib.hid hinv.out.start
    have HNX := Lib.hid (fun U h => hinv.out.next (U := U) hlt h)
    have hJl := rowJumps_len (gD T B0 k)
    have HJC := Lib.hid (fun W => sRowJumps_any (gD T B0 k) hxs W)
    have HOW := Lib.hid hown
    clear hget hown hjx hr0 hinv
    generalize rowJumps (gD T B0 k) = J at *
    generalize gD T B0 k = x at *
    go_wp2_with (go_at_call 146; refine (l25Pegs_any x hxs _).mono ?_; rintro e w' ⟨rfl, rfl⟩)
    refine (HJC.out _).mono ?_
    rintro e' w' ⟨vJ, rfl, hJo, hb⟩
    obtain ⟨w1, rfl⟩ : ∃ w1 : World, w1 = wr := ⟨_, rfl⟩
    obtain ⟨wJ, rfl⟩ : ∃ wJ : World, wJ = w' := ⟨_, rfl⟩
    obtain ⟨aJ, cJ, rfl, _, hgJ⟩ := hJo.strG
    have HGJ := Lib.hid hgJ
    have HJO := Lib.hid hJo
    have HT0 := Lib.hid (HOW.out.keep hb)
    have HBJ := Lib.hid (hbw.trans (hb.mono hz))
    have hzJ : w1.heap.size ≤ wJ.heap.size := hb.size
    clear hb hgJ hJo hc0
    go_wp2_with fail
    go_loopw [4, 7] (fun t4 t7 wr => ∃ (i : Nat) (U : List ByteArray), i ≤ J.length ∧ t7 = .int .i64 i ∧ Own EStr wr w.heap.size t4 U ∧ Own EStr wr w1.heap.size (.slice aJ J.length cJ) J ∧ Hid (LIn s T U J i) ∧ Hid (∀ g, t4.ownBlock = some g → g < w1.heap.size ∨ wJ.heap.size ≤ g) ∧ Below w.heap.size w wr ∧ wJ.heap.size ≤ wr.heap.size) (fun _ t _ => J.length - (intOf t).toNat)
    case atStart => exact ⟨0, T, by omega, rfl, HT0.out, HJO.out, HST.out, fun g hg => .inl (by cases hg; exact hb1), HBJ.out, Nat.le_refl _⟩
    case round =>
      obtain ⟨i, U, hi, rfl, hU, hJ, hin, hap, hbi, hzi⟩ := hrel
      by_cases hilt : i < J.length
      rotate_left
      · obtain rfl : i = J.length := by omega
        have HN2 := Lib.hid (HNX.out U hin.out)
        have hpre : T.length ≤ U.length := hin.out.pre.length_le
        have hmin : (((min b (pg x)) : Nat) : Int) = min (b : Int) (pg x : Int) := by omega
        have HUO := Lib.hid hU
        clear hJ hin hap hU
        go_wp2_with fail
        go_roundw
        case rel => exact ⟨k + 1, U, min b (pg x), by omega, by go_num, by rw [hmin], by omega, HUO.out, HN2.out, hbi⟩
        case measure => simp [intOf]; omega
      have hUl := LInv.len HK.out hin.out.nodup hin.out.reach
      obtain ⟨gJ, rfl, hgJ1, hgJ2, hcJ⟩ := HGJ.out i hilt
      obtain ⟨_, _, hvv, _, hgJ'⟩ := hJ.strG
      obtain ⟨gJ', e9, _, hgJ3, hcJ'⟩ := hgJ' i hilt
      simp only [Value.slice.injEq] at hvv
      rw [e9] at hvv
      obtain rfl : gJ = gJ' := by simpa using hvv.1
      obtain ⟨aU, cU, rfl, hU63, hgU⟩ := hU.strG
      have HGU := Lib.hid hgU
      have hyr := HRJ.out (gD J B0 i) (gD_mem J B0 i hilt)
      have HYR := Lib.hid hyr
      have HOLD := Lib.hid (fun h => hin.out.old (i := i) h)
      have HNEW := Lib.hid (fun h => hin.out.new (i := i) h hyr)
      have HUO := Lib.hid hU
      have HJO2 := Lib.hid hJ
      clear hvv e9 hgJ' hgU hcJ hyr hin hU hJ
      generalize gD J B0 i = y at *
      obtain ⟨wi, rfl⟩ : ∃ wi : World, wi = wr := ⟨_, rfl⟩
      go_wp2_with fail
      go_loopw [8, 9] (fun t8 t9 wr => ∃ (m : Nat) (kb : Bool), m ≤ U.length ∧ t9 = .int .i64 m ∧ t8 = .bool kb ∧ Hid (kb = true ↔ ∃ q, q < m ∧ gD U B0 q = y) ∧ Below wi.heap.size wi wr) (fun _ t _ => U.length - (intOf t).toNat)
      case atStart => exact ⟨0, false, by omega, rfl, rfl, by constructor <;> (intro h; simp at h), Below.refl _ _⟩
      case round =>
        obtain ⟨m, kb, hm, rfl, rfl, hkb, hbm⟩ := hrel
        have hzm := hbm.size
        by_cases hgo : m < U.length ∧ kb = false
        · obtain ⟨hmU, rfl⟩ := hgo
          obtain ⟨bU, rfl, _, hbU, hcU⟩ := HGU.out m hmU
          rw [← hbm.cell (by exact hbU)] at hcU
          have hcY := (hbm.cell (p := ⟨gJ, i, none⟩) (by exact hgJ3)).trans hcJ'
          have gU : bU < wr.heap.size := by omega
          have gY : gJ < wr.heap.size := by omega
          have HKB : Hid (∀ q, q < m → gD U B0 q ≠ y) := fun q hq e => by have := hkb.out.2 ⟨q, hq, e⟩; simp at this
          by_cases hxy : gD U B0 m = y
          · have HN : Hid (true = true ↔ ∃ q, q < m + 1 ∧ gD U B0 q = y) := ⟨fun _ => ⟨m, by omega, hxy⟩, fun _ => rfl⟩
            rw [hxy] at hcU
            clear hxy hcJ' hkb
            go_wp2_with ((with_reducible refine wp_region_qb ?_ ?_ (fun hq => ?_)); (focus kernel_rfl); (focus kernel_rfl); (repeat (go_big_quiet_step (fail))); refine wpQuiet_nil ?_; intro wq hbq; have HBQ := Lib.hid hbq; clear hq hbq)
            go_roundw
            case rel => exact ⟨m + 1, true, by omega, by go_num, by simp, HN, hbm.trans (HBQ.out.mono hzm)⟩
            case measure => simp [intOf]; omega
          · have HN : Hid (false = true ↔ ∃ q, q < m + 1 ∧ gD U B0 q = y) := by
              constructor
              · intro h; simp at h
              · rintro ⟨q, hq, e⟩
                by_cases e2 : q = m
                · subst e2; exact absurd e hxy
                · exact absurd e (HKB.out q (by omega))
            have hx1 : ((gD U B0 m).toList == y.toList) = false := by
              cases h : ((gD U B0 m).toList == y.toList)
              · rfl
              · exact absurd (toList_inj (beq_iff_eq.1 h)) hxy
            clear hxy hcJ' hkb
            generalize gD U B0 m = z at *
            go_wp2_with ((with_reducible refine wp_region_qb ?_ ?_ (fun hq => ?_)); (focus kernel_rfl); (focus kernel_rfl); (repeat (go_big_quiet_step (fail))); refine wpQuiet_nil ?_; intro wq hbq; have HBQ := Lib.hid hbq; clear hq hbq)
            go_roundw
            case rel => exact ⟨m + 1, false, by omega, by go_num, by simp [hx1], HN, hbm.trans (HBQ.out.mono hzm)⟩
            case measure => simp [intOf]; omega
        · cases kb
          · obtain rfl : m = U.length := by
              by_cases h : m < U.length
              · exact absurd ⟨h, rfl⟩ hgo
              · omega
            have hni : y ∉ U := fun hy => by
              obtain ⟨q, hq, e⟩ := List.mem_iff_getElem.1 hy
              have := hkb.out.2 ⟨q, hq, by rw [gD_lt _ _ _ hq]; exact e⟩
              simp at this
            have HN := Lib.hid (HNEW.out hni)
            have HU1 := Lib.hid (HUO.out.keep hbm)
            have HJ1 := Lib.hid (HJO2.out.keep hbm)
            have hcY := (hbm.cell (p := ⟨gJ, i, none⟩) (by exact hgJ3)).trans hcJ'
            have gY : gJ < wr.heap.size := by omega
            have hsg := Own.single (E := EStr) y wr w.heap.size (by omega)
            have HU2 := Lib.hid (HU1.out.alloc (.cells #[.string y] 9))
            have HJ2 := Lib.hid (HJ1.out.alloc (.cells #[.string y] 9))
            have HB9 := Lib.hid (hbi.trans (hbm.mono (by omega)))
            have hw0 : w.heap.size ≤ wr.heap.size := by omega
            clear hcJ' hkb hni hbm
            go_wp2_with (at_builtin; (refine appendN (E := EStr) (v := .slice aU U.length cU) (l := U) (l2 := [y]) rfl rfl _ _ 92 rfl Try.underlying92 rfl rfl HU2.out hsg (by simp; omega) (by simp; omega) ?_); intro v' w2 hown5 hb5 hg5 hob)
            go_roundw
            case rel =>
              refine ⟨i + 1, U ++ [y], by omega, by go_num, hown5, HJ2.out.grown hg5 (.inl ?_), HN, ?_, (HB9.out.alloc hw0 _).trans hb5, by have := hb5.size; simp at this; omega⟩
              · intro e
                have := hap.out gJ (by rw [← e]; rfl)
                omega
              · intro g hg
                rcases hob with h1 | h1
                · exact hap.out g (by rw [← hg, h1])
                · rw [h1] at hg
                  simp at hg
                  right; omega
            case measure => simp [intOf]; omega
          · obtain ⟨q, hq, e⟩ := hkb.out.1 rfl
            have HN := Lib.hid (HOLD.out (by rw [← e]; exact gD_mem U B0 q (by omega)))
            have HU1 := Lib.hid (HUO.out.keep hbm)
            have HJ1 := Lib.hid (HJO2.out.keep hbm)
            have HB9 := Lib.hid (hbi.trans (hbm.mono (by omega)))
            clear hcJ' hkb e
            go_wp2_with fail
            all_goals
              go_roundw
              case rel => exact ⟨i + 1, U, by omega, by go_num, HU1.out, HJ1.out, HN, hap, HB9.out, by omega⟩
              case measure => simp [intOf]; omega
theorem IsSingleRow_any (s : ByteArray) (hs : s.size ≤ 1048576) (w : World) :
    Calls Try.prog 65 #[.string s] w fun e w' => e = .returned (.bool (rowLeast s == 1)) ∧ Below w.heap.size w w' := by
  have H : Hid (∀ W, Calls Try.prog 59 #[.string s] W fun e w' => e = .returned (.int .i64 (rowLeast s)) ∧ Below W.heap.size W w') := fun W => RowLeast_any s hs W
  generalize rowLeast s = r at *
  cases h : (r == 1)
  all_goals
    go_enter Try.func65, Try.ntmps65
    go_wp2_with (go_at_call 59; refine (H.out _).mono ?_; rintro e w' ⟨rfl, hb⟩)
    go_ret
    exact ⟨by simp [h], hb⟩
end Go.Proofs.Ytfpofhkggojaoaa
