/- OrdN2: contract of NormalForm of the program. Conditions: the slice's length. -/
import Derived.Test.YtledmebhlmpjaaaPzO
import Derived.Deep.RegionHeldLaw
set_option linter.unusedVariables false
set_option linter.unusedSimpArgs false
namespace Go.Proofs.Ytledmebhlmpjaaa
open Go.ChangeShapes Go.WideShapes Go.ChangeAt Go.RowKit Peg Go.Sort
section
variable {α : Type} {E : Elt α} {w w' : World} {base B : Nat} {v v2 : Value} {l l2 : List α}
/-- append of a read slice inside a region that draws -/
theorem step_appendRd {P : Program} (hP : P = Try.prog) {ops : Array Oper} {o : Oper} {a : Act} {K : Act → World → Prop} {Q : Exit → Act → World → Prop} {F : Prop} (hgd : o.guard = none) (d : Tmp) (hd : o.dst = some d) (s x : Operand) (t : TypeId)
    (ho : o.op = .call { callee := .builtin .append, args := #[s, x], argTypes := #[t, t] }) (ht : P.underlying t = some (.slice E.e))
    (hs : a.eval s = v) (hx : a.eval x = v2) (hown : Own E w base v l) (h2 : Rd E w v2 l2) (hlen : l.length + l2.length ≤ 1099511627776) (hbase : base ≤ w.heap.size)
    (h : ∀ v' w', Own E w' base v' (l ++ l2) → Below base w w' → w.grownBy w' v.ownBlock → (v'.ownBlock = v.ownBlock ∨ v'.ownBlock = some w.heap.size ∧ w.heap.size < w'.heap.size) → K (a.put (some d) v') w') :
    if Region.wanted o (yielded ops a.tmps) = true then Oper.wp P o a w K Q else F := by
  subst hP
  have hw : Region.wanted o (yielded ops a.tmps) = true := by simp [Region.wanted, hgd]
  rw [if_pos hw]
  obtain ⟨v', w', hr, h3, h4, h5, h6⟩ := run_appendRd t o.type ht hown h2 hlen hbase
  unfold Oper.wp execOp
  simp only [ho, resolve, invoke, builtin, Sem.run_bind, Sem.run_pure, Result.andThen_ok, List.map_toArray, List.map_cons, List.map_nil, hs, hx, hr]
  have hk := h v' w' h3 h4 h5 h6
  rw [← hd] at hk
  exact hk
end
theorem blk_post {v5 v6 : Value} {s5 s6 s4 k5 : Nat} (h1 : v5.ownBlock = some k5) (h2 : s4 ≤ k5) (h3 : k5 < s5) (h4 : v6.ownBlock = v5.ownBlock ∨ v6.ownBlock = some s5 ∧ s5 < s6) (h5 : s4 ≤ s5) (h6 : s5 ≤ s6) : ∃ k, v6.ownBlock = some k ∧ s4 ≤ k ∧ k < s6 := by
  rcases h4 with h | ⟨h, h7⟩
  · exact ⟨k5, h.trans h1, h2, by omega⟩
  · exact ⟨s5, h, h5, h7⟩
theorem Own.slLen {α : Type} {E : Elt α} {w : World} {base : Nat} {v : Value} {l : List α} (h : Own E w base v l) : slLen v = l.length := by
  obtain ⟨a, cap, rfl, _⟩ := h.form
  rfl
theorem below_size {w w' : World} {B : Nat} (h : Below B w w') : w.heap.size ≤ w'.heap.size := h.size
theorem NormalForm_long (L : List Ln) (v : Value) (w : World) (hv : Rd ELine w v L) (hl : 10 < L.length) :
    Calls Try.prog 63 #[v] w fun e w' => e = .returned (.tuple #[.slice none 0 0, .bool false]) ∧ Below w.heap.size w w' := by
  obtain ⟨a, cap, rfl, h1, h2⟩ := hv
  clear h2
  go_enter Try.func63, Try.ntmps63
  go_wp2_with fail
  all_goals go_ret2
  all_goals exact ⟨rfl, by (repeat' first | (with_reducible exact Below.refl _ _) | (with_reducible refine Below.alloc ?_ ?_ _) | (with_reducible refine Below.drew ?_) | (with_reducible refine Below.setCell ?_ ?_ _) | (with_reducible refine below_via (by assumption) ?_ ?_) | go_size)⟩
set_option maxHeartbeats 2000000 in
set_option maxRecDepth 100000 in
theorem NormalForm_any (L : List Ln) (v : Value) (w : World) (hv : Rd ELine w v L) (hl : L.length ≤ 10) :
    Calls Try.prog 63 #[v] w fun e w' => ∃ v', e = .returned (.tuple #[v', .bool true]) ∧ Own ELine w' w.heap.size v' (nform L.length L) ∧ Below w.heap.size w w' := by
  have HC : Hid (Calls Try.prog 87 #[v] w fun e w' => ∃ v', e = .returned v' ∧ Own ELine w' w.heap.size v' L ∧ Below w.heap.size w w' ∧ ∃ k, v'.ownBlock = some k ∧ w.heap.size ≤ k ∧ k < w'.heap.size) := copyJumps_any L v w hv (by omega)
  obtain ⟨a, cap, rfl, h1, h2⟩ := hv
  clear h2
  go_enter Try.func63, Try.ntmps63
  go_wp2_with fail
  refine (HC.out).mono ?_
  rintro e w1 ⟨vR, rfl, hownR, hb1, kR, hkR, hkR1, hkR2⟩
  have hz1 := hb1.size
  have HB1 := Lib.hid hb1
  have HSEP : Hid (Sep (w1.alloc (.cells #[] 47)) vR (.slice (some ⟨w1.heap.size, 0, none⟩) 0 0)) := ⟨kR, hkR, by simp; omega, fun g hg => by simp [Value.ownBlock] at hg; subst hg; simp; omega⟩
  have HOR := Lib.hid (hownR.alloc (.cells #[] 47))
  clear hownR hkR hkR1 hkR2 HC hb1
  have hh : decide (10 < (L.length : Int)) = false := decide_eq_false (by omega)
  go_wp2_with fail
  try rw [hh]
  go_loopw [4, 5] (fun vr vo wr => ∃ R O : List Ln, Hid (Own ELine wr w.heap.size vr R) ∧ Hid (Own ELine wr w.heap.size vo O) ∧ Hid (Sep wr vr vo) ∧ Hid (R.length + O.length = L.length) ∧ Hid (O ++ nform R.length R = nform L.length L) ∧ Hid (Below w.heap.size w wr)) (fun vr _ _ => slLen vr)
  case atStart => exact ⟨L, [], HOR, Own.emptyAny _ _ _ _, HSEP, by show _ = _; simp, by show _ = _; simp, (HB1.out.alloc hz1 _)⟩
  case round =>
    obtain ⟨R, O, hR, hO, hS, hLen, hN, hB⟩ := hrel
    obtain ⟨aR, cR, rfl, hnR, hgR⟩ := hR.out.lineG
    have HGR := Lib.hid hgR
    have hz := hB.out.size
    clear hgR
    by_cases h0 : 0 < R.length
    rotate_left
    · obtain rfl : R = [] := List.eq_nil_of_length_eq_zero (by omega)
      have HE : Hid (O = nform L.length L) := by show _ = _; have := hN.out; simpa [nform] using this
      go_wp2_with fail
      all_goals go_ret2
      all_goals exact ⟨_, rfl, by rw [← HE.out]; exact hO.out, hB.out⟩
    · obtain ⟨bR, rfl, _, hbR, _, _, _⟩ := HGR.out 0 h0
      have HG2 : Hid (∀ i, i < R.length → wr.cell? ⟨bR, i * 3, none⟩ = some (.int .i64 (gD R Ln0 i).f) ∧ wr.cell? ⟨bR, i * 3 + 1, none⟩ = some (.int .i64 (gD R Ln0 i).o) ∧ wr.cell? ⟨bR, i * 3 + 2, none⟩ = some (.int .i64 (gD R Ln0 i).t)) := fun i hi => by
        obtain ⟨b', e, _, _, h⟩ := HGR.out i hi
        simp only [Option.some.injEq, Addr.mk.injEq] at e
        rw [e.1]; exact h
      have hRle : R.length ≤ 10 := by have := hLen.out; omega
      have hroom := hR.out.room
      obtain ⟨w2, rfl⟩ : ∃ w2 : World, w2 = wr := ⟨_, rfl⟩
      clear HGR
      go_wp2_with fail
      go_loopw [6, 20] (fun b i wx => ∃ k m : Nat, k ≤ R.length ∧ i = .int .i64 k ∧ b = .int .i64 m ∧ m < R.length ∧ Hid (m = bestTo R k) ∧ Below w2.heap.size w2 wx) (fun _ i _ => R.length - (intOf i).toNat)
      case atStart => exact ⟨0, 0, by omega, rfl, rfl, h0, rfl, Below.refl _ _⟩
      case round =>
        obtain ⟨k, m, hk, rfl, rfl, hmR, hm, hbw⟩ := hrel
        have hz5 := hbw.size
        by_cases hlt : k < R.length
        · obtain ⟨c0, c1, c2⟩ := HG2.out k hlt
          obtain ⟨d0, d1, d2⟩ := HG2.out m hmR
          rw [← hbw.cell (by simpa using hbR)] at c0 c1 c2 d0 d1 d2
          have gW1 : bR < wr.heap.size := by omega
          have hbox : ∀ j, (wr.alloc (.cells #[.int .i64 0, .int .i64 0, .int .i64 0] 47)).cell? ⟨wr.heap.size, j, none⟩ = #[Value.int .i64 0, .int .i64 0, .int .i64 0][j]? := fun j => by simp
          have HS1 : Hid (bestTo R (k + 1) = if freeAt R k && jlt (gD R Ln0 k) (gD R Ln0 m) then k else m) := by show _ = _; rw [hm.out]; exact best_step R k
          have HF1 : Hid (freeAt R k = !((R.take k).find? (dis (gD R Ln0 k))).isSome) := free_find R k
          have HP : Hid (∀ W, Below w2.heap.size w2 W → Rd ELine W (.slice (some ⟨bR, 0, none⟩) k cR) (R.take k)) := fun W hW => (((hR.out.rd).front k cR (by omega)).keep hW)
          generalize gD R Ln0 k = l at *
          generalize gD R Ln0 m = x at *
          have HD : Hid (∀ W, Below w2.heap.size w2 W → Calls Try.prog 88 #[.agg #[.int .i64 l.f, .int .i64 l.o, .int .i64 l.t], .slice (some ⟨bR, 0, none⟩) k cR] W fun e w' => e = .returned (.bool ((R.take k).find? (dis l)).isSome) ∧ Below W.heap.size W w') := fun W hW => disturbsOne_any l (R.take k) _ W (HP.out W hW)
          have HCJ : Hid (∀ W, Calls Try.prog 89 #[.agg #[.int .i64 l.f, .int .i64 l.o, .int .i64 l.t], .agg #[.int .i64 x.f, .int .i64 x.o, .int .i64 x.t]] W fun e w' => e = .returned (.int .i64 (cmpJ l x)) ∧ Below W.heap.size W w') := fun W => CompareJumps_any l x W
          have HCN := Lib.hid (cmpJ_neg l x)
          generalize cmpJ l x = q at *
          cases hd : ((R.take k).find? (dis l)).isSome
          · rw [hd] at HD HF1
            clear hd
            by_cases hq : q < 0
            · have HW : Hid (bestTo R (k + 1) = k) := by show _ = _; rw [HS1.out, HF1.out, ← HCN.out, decide_eq_true hq]; rfl
              clear HCN HS1 HF1
              go_wp2_with fail
              (with_reducible refine wp_region_qb ?_ ?_ (fun hq => ?_)); (focus kernel_rfl); (focus kernel_rfl); (repeat (go_big_quiet_step (first | (go_at_call 88; exact Calls.regrown_of (HD.out _ (by (repeat' first | (with_reducible exact Below.refl _ _) | (with_reducible refine below_via (below_regrown _ _ _) ?_ ?_) | (with_reducible refine Below.alloc ?_ ?_ _) | (with_reducible refine Below.drew ?_) | (with_reducible refine Below.setCell ?_ ?_ _) | (with_reducible refine below_via (by assumption) ?_ ?_) | go_size)))) | (go_at_call 89; exact Calls.regrown_of (HCJ.out _))))); refine wpQuiet_nil ?_
              intro wq hb
              go_wp2_with fail
              go_roundw
              case rel => exact ⟨k + 1, k, by omega, by go_num, rfl, by omega, by show _ = _; exact HW.out.symm, hbw.trans ((show Below wr.heap.size wr _ by (repeat' first | (with_reducible exact Below.refl _ _) | (with_reducible refine Below.alloc ?_ ?_ _) | (with_reducible refine Below.drew ?_) | (with_reducible refine Below.setCell ?_ ?_ _) | (with_reducible refine below_via (by assumption) ?_ ?_) | go_size)).mono (by omega))⟩
              case measure => simp [intOf]; omega
            · have HW : Hid (bestTo R (k + 1) = m) := by show _ = _; rw [HS1.out, HF1.out, ← HCN.out, decide_eq_false hq]; rfl
              clear HCN HS1 HF1
              go_wp2_with fail
              (with_reducible refine wp_region_qb ?_ ?_ (fun hq => ?_)); (focus kernel_rfl); (focus kernel_rfl); (repeat (go_big_quiet_step (first | (go_at_call 88; exact Calls.regrown_of (HD.out _ (by (repeat' first | (with_reducible exact Below.refl _ _) | (with_reducible refine below_via (below_regrown _ _ _) ?_ ?_) | (with_reducible refine Below.alloc ?_ ?_ _) | (with_reducible refine Below.drew ?_) | (with_reducible refine Below.setCell ?_ ?_ _) | (with_reducible refine below_via (by assumption) ?_ ?_) | go_size)))) | (go_at_call 89; exact Calls.regrown_of (HCJ.out _))))); refine wpQuiet_nil ?_
              intro wq hb
              go_wp2_with fail
              go_roundw
              case rel => exact ⟨k + 1, m, by omega, by go_num, rfl, by omega, by show _ = _; exact HW.out.symm, hbw.trans ((show Below wr.heap.size wr _ by (repeat' first | (with_reducible exact Below.refl _ _) | (with_reducible refine Below.alloc ?_ ?_ _) | (with_reducible refine Below.drew ?_) | (with_reducible refine Below.setCell ?_ ?_ _) | (with_reducible refine below_via (by assumption) ?_ ?_) | go_size)).mono (by omega))⟩
              case measure => simp [intOf]; omega
          · rw [hd] at HD HF1
            clear hd
            have HW : Hid (bestTo R (k + 1) = m) := by show _ = _; rw [HS1.out, HF1.out]; rfl
            clear HCN HS1 HF1
            go_wp2_with fail
            (with_reducible refine wp_region_qb ?_ ?_ (fun hq => ?_)); (focus kernel_rfl); (focus kernel_rfl); (repeat (go_big_quiet_step (first | (go_at_call 88; exact Calls.regrown_of (HD.out _ (by (repeat' first | (with_reducible exact Below.refl _ _) | (with_reducible refine below_via (below_regrown _ _ _) ?_ ?_) | (with_reducible refine Below.alloc ?_ ?_ _) | (with_reducible refine Below.drew ?_) | (with_reducible refine Below.setCell ?_ ?_ _) | (with_reducible refine below_via (by assumption) ?_ ?_) | go_size)))) | (go_at_call 89; exact Calls.regrown_of (HCJ.out _))))); refine wpQuiet_nil ?_
            intro wq hb
            go_wp2_with fail
            go_roundw
            case rel => exact ⟨k + 1, m, by omega, by go_num, rfl, by omega, by show _ = _; exact HW.out.symm, hbw.trans ((show Below wr.heap.size wr _ by (repeat' first | (with_reducible exact Below.refl _ _) | (with_reducible refine Below.alloc ?_ ?_ _) | (with_reducible refine Below.drew ?_) | (with_reducible refine Below.setCell ?_ ?_ _) | (with_reducible refine below_via (by assumption) ?_ ?_) | go_size)).mono (by omega))⟩
            case measure => simp [intOf]; omega
        · obtain rfl : k = R.length := by omega
          obtain ⟨d0, d1, d2⟩ := HG2.out m hmR
          rw [← hbw.cell (by simpa using hbR)] at d0 d1 d2
          have gW1 : bR < wr.heap.size := by omega
          have HOl : O.length ≤ 10 := by have := hLen.out; omega
          have hOr := hO.out.keep hbw
          have hRr := hR.out.keep hbw
          generalize hX : gD R Ln0 m = l at *
          have HX := Lib.hid hX
          clear hX HG2
          have hsing := Own.single (E := ELine) l wr wr.heap.size (Nat.le_refl _)
          have hownO := hOr.alloc (.cells (ELine.enc l).toArray ELine.e)
          have hRa := hRr.alloc (.cells (ELine.enc l).toArray ELine.e)
          have HBr : Hid (Below w.heap.size w wr) := hB.out.trans (hbw.mono hz)
          have hzr : w.heap.size ≤ wr.heap.size := HBr.out.size
          go_wp2_with (at_builtin; (refine appendN (E := ELine) (l := O) (l2 := [l]) rfl rfl _ _ 36 rfl Try.underlying36 rfl rfl hownO hsing (by simp; omega) (by simp only [World.size_alloc]; omega) ?_); intro v' w13 hown13 hb13 hg13 hv13)
          have hG : World.grownBy (wr.alloc (.cells (ELine.enc l).toArray ELine.e)) w13 u5.ownBlock := hg13
          have hV : v'.ownBlock = u5.ownBlock ∨ v'.ownBlock = some (wr.alloc (.cells (ELine.enc l).toArray ELine.e)).heap.size := hv13
          clear hg13 hv13
          obtain ⟨kk, hk1, hk2, hk3⟩ := hS.out
          have HR13 : Hid (Own ELine w13 w.heap.size (.slice (some ⟨bR, 0, none⟩) R.length cR) R) := hRa.grown hG (.inl (by intro e; rw [hk1] at e; exact (hk3 kk e.symm).2 rfl))
          have HB13 : Hid (Below w.heap.size w w13) := (HBr.out.alloc hzr _).trans hb13
          have HO13 := Lib.hid hown13
          have HOB13 : Hid (∀ g, v'.ownBlock = some g → g < w13.heap.size) := fun g hg => (hown13.blockGe g (by rw [rowOf_ne (by simp)]; exact hg)).2
          have hz13 := HB13.out.size
          clear hG hV hk1 hk2 hk3 hown13 hb13 hownO hsing hRa hOr hRr hbw hz5 d0 d1 d2 hz HBr hzr
          obtain ⟨w4, rfl⟩ : ∃ w4 : World, w4 = w13 := ⟨_, rfl⟩
          have HCJ : Hid (∀ W, Below w4.heap.size w4 W → Calls Try.prog 87 #[.slice (some ⟨bR, 0, none⟩) m cR] W fun e w' => ∃ v', e = .returned v' ∧ Own ELine w' W.heap.size v' (R.take m) ∧ Below W.heap.size W w' ∧ ∃ k, v'.ownBlock = some k ∧ W.heap.size ≤ k ∧ k < w'.heap.size) := fun W hW => copyJumps_any _ _ W ((HR13.out.rd.front m cR (by omega)).keep hW) (by simp; omega)
          have hwr : IntKind.i64.wrap ((m : Int) + 1) = ((m + 1 : Nat) : Int) := IntWalk.i64_in _ (by omega)
          have HPOST : Hid (∀ (v6 : Value) (w6 : World), Own ELine w6 w4.heap.size v6 (R.take m ++ R.drop (m + 1)) → Below w4.heap.size w4 w6 → (∃ k, v6.ownBlock = some k ∧ w4.heap.size ≤ k ∧ k < w6.heap.size) →
              (∃ R O : List Ln, Hid (Own ELine w6 w.heap.size v6 R) ∧ Hid (Own ELine w6 w.heap.size v' O) ∧ Hid (Sep w6 v6 v') ∧ Hid (R.length + O.length = L.length) ∧ Hid (O ++ nform R.length R = nform L.length L) ∧ Hid (Below w.heap.size w w6)) ∧ slLen v6 < slLen (Value.slice (some ⟨bR, 0, none⟩) R.length cR)) := fun v6 w6 h1 h2 ⟨k, h3, h4, h5⟩ => by
            refine ⟨⟨R.take m ++ R.drop (m + 1), O ++ [l], h1.mono hz13, HO13.out.keep h2, ⟨k, h3, h5, fun g hg => ?_⟩, ?_, ?_, HB13.out.trans (h2.mono hz13)⟩, ?_⟩
            · have := HOB13.out g hg
              have := h2.size
              exact ⟨by omega, by omega⟩
            · show _ = _
              have := hLen.out
              simp
              omega
            · show _ = _
              have e := nform_step R h0
              rw [← hm.out, HX.out] at e
              rw [← hN.out, e, List.append_assoc]; rfl
            · rw [h1.slLen]
              show _ < R.length
              simp
              omega
          by_cases hcap : m + 1 = cR
          · have HRT : Hid (∀ W n c, Below w4.heap.size w4 W → n = 0 → Rd ELine W (.slice (some ⟨bR, 0, none⟩) n c) (R.drop (m + 1))) := fun W n c hW hn => by
              have e : R.drop (m + 1) = [] := List.drop_eq_nil_of_le (by omega)
              rw [e, hn]
              exact ⟨_, _, rfl, by simp, fun i hi => by simp at hi⟩
            go_region_held_law (fun W : World => Below w4.heap.size w4 W) (first | assumption | (repeat' first | (with_reducible exact Below.refl _ _) | (with_reducible refine Below.alloc ?_ ?_ _) | (with_reducible refine Below.drew ?_) | (with_reducible refine Below.setCell ?_ ?_ _) | (with_reducible refine below_via (by assumption) ?_ ?_) | go_size)) (first
                | (go_at_call 87; refine (HCJ.out _ (by assumption)).mono ?_; rintro e w5 ⟨v5, rfl, hown5, hb5, k5, hk5, hk6, hk7⟩)
                | (refine step_appendRd (E := ELine) (base := w4.heap.size) (l := R.take m) (l2 := R.drop (m + 1)) rfl rfl 57 rfl _ _ 36 rfl Try.underlying36 rfl rfl (hown5.mono (by simp)) (by refine HRT.out _ _ _ (by assumption) ?_; omega) (by simp; omega) (below_size (B := w4.heap.size) (by assumption)) ?_; intro v6 w6 hown6 hb6 hg6 hob6; have hS5 := (show Below w4.heap.size w4 w5 by assumption); have hS6 := hS5.trans hb6; have hK6 : ∃ k, v6.ownBlock = some k ∧ w4.heap.size ≤ k ∧ k < w6.heap.size := blk_post hk5 (by simpa using hk6) hk7 hob6 hS5.size hb6.size))
            all_goals (go_wp2_with fail; go_roundw; (case rel => exact (HPOST.out _ _ hown6 hS6 hK6).1); (case measure => exact (HPOST.out _ _ hown6 hS6 hK6).2))
          · have HRT : Hid (∀ W, Below w4.heap.size w4 W → Rd ELine W (.slice (some ⟨bR, (m + 1) * 3, none⟩) (R.length - (m + 1)) (cR - (m + 1))) (R.drop (m + 1))) := fun W hW => by
              have h := ((HR13.out.rd).keep hW).tail (m + 1) (R.length - (m + 1)) (cR - (m + 1)) (by omega)
              rw [add_origin] at h
              exact h
            go_region_held_law (fun W : World => Below w4.heap.size w4 W) (first | assumption | (repeat' first | (with_reducible exact Below.refl _ _) | (with_reducible refine Below.alloc ?_ ?_ _) | (with_reducible refine Below.drew ?_) | (with_reducible refine Below.setCell ?_ ?_ _) | (with_reducible refine below_via (by assumption) ?_ ?_) | go_size)) (first
                | (go_at_call 87; refine (HCJ.out _ (by assumption)).mono ?_; rintro e w5 ⟨v5, rfl, hown5, hb5, k5, hk5, hk6, hk7⟩)
                | (refine step_appendRd (E := ELine) (base := w4.heap.size) (l := R.take m) (l2 := R.drop (m + 1)) rfl rfl 57 rfl _ _ 36 rfl Try.underlying36 rfl rfl (hown5.mono (by simp)) (by show Rd ELine _ (.slice (some ⟨bR, (m + 1) * 3, none⟩) (R.length - (m + 1)) (cR - (m + 1))) _; exact HRT.out _ (by assumption)) (by simp; omega) (below_size (B := w4.heap.size) (by assumption)) ?_; intro v6 w6 hown6 hb6 hg6 hob6; have hS5 := (show Below w4.heap.size w4 w5 by assumption); have hS6 := hS5.trans hb6; have hK6 : ∃ k, v6.ownBlock = some k ∧ w4.heap.size ≤ k ∧ k < w6.heap.size := blk_post hk5 (by simpa using hk6) hk7 hob6 hS5.size hb6.size))
            all_goals (go_wp2_with fail; go_roundw; (case rel => exact (HPOST.out _ _ hown6 hS6 hK6).1); (case measure => exact (HPOST.out _ _ hown6 hS6 hK6).2))
end Go.Proofs.Ytledmebhlmpjaaa
